
/-
  Rows of flights that read as bytes alone; append of such a row; contract of law04.bag.
-/
import Derived.Test.YtahooohokdbnpaaFlK
import Derived.Deep.MidRow
set_option linter.unusedVariables false
set_option linter.unusedSimpArgs false
namespace Go.Proofs.Ytahooohokdbnpaa
open Go.RowKit Go.Shelf Go.Maps Pl

attribute [local go_sem] Oper.semAt_some

/-! ## plain: one is taken out, the last takes its place -/
def swapN (R : List Fl) (t : Nat) : List Fl := (R.set t (R.getD (R.length - 1) fl0)).take (R.length - 1)
theorem swapN_len (R : List Fl) (t : Nat) : (swapN R t).length = R.length - 1 := by
  unfold swapN
  rw [List.length_take, List.length_set]
  omega
theorem swapN_at (R : List Fl) (t : Nat) {i : Nat} (hi : i < R.length - 1) : (swapN R t).getD i fl0 = if i = t then R.getD (R.length - 1) fl0 else R.getD i fl0 := by
  unfold swapN
  rw [List.getD_eq_getElem?_getD, List.getElem?_take_of_lt hi, List.getElem?_set]
  by_cases h : t = i
  · subst h
    rw [if_pos rfl, if_pos (by omega), if_pos rfl]
    rfl
  · rw [if_neg h, if_neg (fun e => h e.symm), List.getD_eq_getElem?_getD]
theorem swapN_perm (R : List Fl) {t : Nat} (ht : t < R.length) : R.Perm (R.getD t fl0 :: swapN R t) := by
  obtain ⟨L, x, rfl⟩ : ∃ L x, R = L ++ [x] := ⟨R.dropLast, R.getLast (by intro h; subst h; simp at ht), (List.dropLast_concat_getLast _).symm⟩
  rw [List.length_append] at ht
  simp only [List.length_cons, List.length_nil] at ht
  have hlast : (L ++ [x]).getD ((L ++ [x]).length - 1) fl0 = x := by
    rw [List.getD_eq_getElem?_getD, List.length_append]
    simp
  unfold swapN
  rw [hlast, List.length_append]
  simp only [List.length_cons, List.length_nil, Nat.add_sub_cancel]
  by_cases h : t < L.length
  · have e1 : (L ++ [x]).getD t fl0 = L.getD t fl0 := by rw [List.getD_eq_getElem?_getD, List.getElem?_append_left h, List.getD_eq_getElem?_getD]
    have e2 : ((L ++ [x]).set t x).take L.length = L.set t x := by
      rw [List.set_append_left _ _ h]
      exact List.take_left' (by rw [List.length_set])
    rw [e1, e2]
    obtain ⟨l1, y, l2, rfl, rfl⟩ : ∃ l1 y l2, L = l1 ++ y :: l2 ∧ t = l1.length := ⟨L.take t, L[t], L.drop (t + 1), by rw [List.getElem_cons_drop, List.take_append_drop], by rw [List.length_take]; omega⟩
    have e3 : (l1 ++ y :: l2).getD l1.length fl0 = y := by rw [List.getD_eq_getElem?_getD]; simp
    have e4 : (l1 ++ y :: l2).set l1.length x = l1 ++ x :: l2 := by simp
    rw [e3, e4, List.append_assoc, List.cons_append]
    refine (List.perm_middle).trans (List.Perm.cons _ ?_)
    exact (List.Perm.append_left l1 (List.perm_append_comm (l₁ := l2) (l₂ := [x])))
  · obtain rfl : t = L.length := by omega
    have e1 : (L ++ [x]).getD L.length fl0 = x := by rw [List.getD_eq_getElem?_getD]; simp
    have e2 : ((L ++ [x]).set L.length x).take L.length = L := by simp
    rw [e1, e2]
    exact List.perm_append_comm

/-! ## rows of flights, their bytes read in a world u -/
/-- the slice at A reads as flights whose bytes meet P -/
def FlP (P : Option Addr → Nat → List UInt8 → Prop) (w : World) (A : Option Addr) (fs : List Fl) : Prop :=
  fs = [] ∨ ∃ gr o, A = some ⟨gr, o, none⟩ ∧ ∀ i, i < fs.length → ∃ Ab cb, w.cell? ⟨gr, o + i * 3, none⟩ = some (.int .i64 ((fs.getD i fl0).from_ : Int)) ∧ w.cell? ⟨gr, o + i * 3 + 1, none⟩ = some (.int .i64 ((fs.getD i fl0).to_ : Int)) ∧
    w.cell? ⟨gr, o + i * 3 + 2, none⟩ = some (.slice Ab (fs.getD i fl0).b.length cb) ∧ P Ab cb (fs.getD i fl0).b
abbrev FlY (w u : World) (A : Option Addr) (fs : List Fl) : Prop := FlP (fun Ab _ b => By u Ab b) w A fs
theorem FlY.at_ {w u : World} {A : Option Addr} {fs : List Fl} (h : FlY w u A fs) {i : Nat} (hl : i < fs.length) : ∃ gr o Ab cb, A = some ⟨gr, o, none⟩ ∧ w.cell? ⟨gr, o + i * 3, none⟩ = some (.int .i64 ((fs.getD i fl0).from_ : Int)) ∧ w.cell? ⟨gr, o + i * 3 + 1, none⟩ = some (.int .i64 ((fs.getD i fl0).to_ : Int)) ∧
    w.cell? ⟨gr, o + i * 3 + 2, none⟩ = some (.slice Ab (fs.getD i fl0).b.length cb) ∧ By u Ab (fs.getD i fl0).b := by
  rcases h with rfl | ⟨gr, o, rfl, hi⟩
  · simp at hl
  · obtain ⟨Ab, cb, r⟩ := hi i hl
    exact ⟨gr, o, Ab, cb, rfl, r⟩
theorem FlX.y {w : World} {A : Option Addr} {fs : List Fl} (h : FlX w A fs) : FlY w w A fs := by
  rcases h with h | ⟨gr, o, e, hi⟩
  · exact .inl h
  · refine .inr ⟨gr, o, e, fun i hl => ?_⟩
    obtain ⟨Ab, cb, h0, h1, h2, h3⟩ := hi i hl
    obtain ⟨A', c', e', hby, _⟩ := h3.by_
    cases e'
    exact ⟨Ab, cb, h0, h1, h2, hby⟩
def CyP (P : Option Addr → Nat → List UInt8 → Prop) (cs : List Value) (fs : List Fl) : Prop :=
  cs.length = 3 * fs.length ∧ ∀ i, i < fs.length → ∃ Ab cb, cs[3 * i]? = some (.int .i64 ((fs.getD i fl0).from_ : Int)) ∧ cs[3 * i + 1]? = some (.int .i64 ((fs.getD i fl0).to_ : Int)) ∧ cs[3 * i + 2]? = some (.slice Ab (fs.getD i fl0).b.length cb) ∧ P Ab cb (fs.getD i fl0).b
abbrev CyB (u : World) (cs : List Value) (fs : List Fl) : Prop := CyP (fun Ab _ b => By u Ab b) cs fs
theorem CyP.nil (P : Option Addr → Nat → List UInt8 → Prop) : CyP P [] [] := ⟨rfl, fun i hi => by simp at hi⟩
theorem CyP.app {P : Option Addr → Nat → List UInt8 → Prop} {cs ds : List Value} {fs gs : List Fl} (h : CyP P cs fs) (k : CyP P ds gs) : CyP P (cs ++ ds) (fs ++ gs) := by
  obtain ⟨h1, h2⟩ := h
  obtain ⟨k1, k2⟩ := k
  refine ⟨by rw [List.length_append, List.length_append, h1, k1]; omega, fun i hi => ?_⟩
  rw [List.length_append] at hi
  by_cases hin : i < fs.length
  · rw [getD_app_l _ _ _ _ hin, List.getElem?_append_left (by omega), List.getElem?_append_left (by omega), List.getElem?_append_left (by omega)]
    exact h2 i hin
  · obtain ⟨j, rfl⟩ : ∃ j, i = fs.length + j := ⟨i - fs.length, by omega⟩
    have e : (fs ++ gs).getD (fs.length + j) fl0 = gs.getD j fl0 := by
      rw [List.getD_eq_getElem?_getD, List.getElem?_append_right (by omega), Nat.add_sub_cancel_left, List.getD_eq_getElem?_getD]
    rw [e, List.getElem?_append_right (by omega), List.getElem?_append_right (by omega), List.getElem?_append_right (by omega), h1, show 3 * (fs.length + j) - 3 * fs.length = 3 * j by omega, show 3 * (fs.length + j) + 1 - 3 * fs.length = 3 * j + 1 by omega, show 3 * (fs.length + j) + 2 - 3 * fs.length = 3 * j + 2 by omega]
    exact k2 j (by omega)
theorem CyP.one (P : Option Addr → Nat → List UInt8 → Prop) (f : Fl) {Ab : Option Addr} (cb : Nat) (h : P Ab cb f.b) : CyP P [.int .i64 (f.from_ : Int), .int .i64 (f.to_ : Int), .slice Ab f.b.length cb] [f] :=
  ⟨rfl, fun i hi => by
    obtain rfl : i = 0 := by simp at hi; omega
    exact ⟨Ab, cb, rfl, rfl, rfl, h⟩⟩
theorem FlP.news {P : Option Addr → Nat → List UInt8 → Prop} {w : World} {gr o : Nat} {fs : List Fl} (hi : ∀ i, i < fs.length → ∃ Ab cb, w.cell? ⟨gr, o + i * 3, none⟩ = some (.int .i64 ((fs.getD i fl0).from_ : Int)) ∧ w.cell? ⟨gr, o + i * 3 + 1, none⟩ = some (.int .i64 ((fs.getD i fl0).to_ : Int)) ∧
    w.cell? ⟨gr, o + i * 3 + 2, none⟩ = some (.slice Ab (fs.getD i fl0).b.length cb) ∧ P Ab cb (fs.getD i fl0).b) :
    ∀ n, n ≤ fs.length → ∃ news : List Value, (∀ j v, news[j]? = some v → w.cell? ⟨gr, o + j, none⟩ = some v) ∧ (∀ v ∈ news, v.oneCell' = true) ∧ CyP P news (fs.take n)
  | 0, _ => ⟨[], fun j v h => by simp at h, fun v h => by simp at h, CyP.nil _⟩
  | n + 1, hn => by
    obtain ⟨ns, h1, h2, h3⟩ := FlP.news hi n (by omega)
    obtain ⟨Ab, cb, c0, c1, c2, hb⟩ := hi n (by omega)
    have hl : ns.length = 3 * n := by have := h3.1; rw [List.length_take] at this; omega
    refine ⟨ns ++ [.int .i64 ((fs.getD n fl0).from_ : Int), .int .i64 ((fs.getD n fl0).to_ : Int), .slice Ab (fs.getD n fl0).b.length cb], fun j v h => ?_, fun v h => ?_, ?_⟩
    · by_cases hj : j < ns.length
      · rw [List.getElem?_append_left hj] at h
        exact h1 j v h
      · rw [List.getElem?_append_right (by omega)] at h
        obtain ⟨i, rfl⟩ : ∃ i, j = ns.length + i := ⟨j - ns.length, by omega⟩
        rw [Nat.add_sub_cancel_left] at h
        match i, h with
        | 0, h => cases h; rw [hl, Nat.add_zero, Nat.mul_comm]; exact c0
        | 1, h => cases h; rw [hl, ← Nat.add_assoc, Nat.mul_comm]; exact c1
        | 2, h => cases h; rw [hl, ← Nat.add_assoc, Nat.mul_comm]; exact c2
        | i + 3, h => simp at h
    · rcases List.mem_append.1 h with h | h
      · exact h2 v h
      · simp at h; rcases h with rfl | rfl | rfl <;> rfl
    · rw [take_snoc fs (by omega)]
      exact h3.app (CyP.one P _ cb hb)
theorem run_appendF {P : Option Addr → Nat → List UInt8 → Prop} {w : World} {B : Nat} {v : Value} {n : Nat} {cs : List Value} (hown : w.ownsRow B 45 3 v n cs) (ty : TypeId) (A : Option Addr) (m c : Nat) (fs : List Fl) (h2 : FlP P w A fs) (hm : m = fs.length)
    (hsz : n + m ≤ 1000000) (hB : B ≤ w.heap.size) :
    ∃ v' w' news, (Builtin.append_ #[41, 41] ty #[v, .slice A m c]).run Try.prog w = .ok v' w' ∧ w'.ownsRow B 45 3 v' (n + m) (cs ++ news) ∧ CyP P news fs ∧ w.grownBy w' v.ownBlock ∧ (v'.ownBlock = v.ownBlock ∨ v'.ownBlock = some w.heap.size) := by
  obtain ⟨i0, hi, hz0, hz1, hz2⟩ := info_parts Try.infoFl
  subst hm
  rcases h2 with rfl | ⟨gr, o, rfl, hel⟩
  · cases A with
    | none =>
      refine ⟨v, w, [], ?_, by rw [List.append_nil]; exact hown, CyP.nil _, World.grownBy.refl w _, .inl rfl⟩
      rcases hown.2 with ⟨rfl, rfl⟩ | ⟨g, cap, cur, rfl, _, _, hnc, _⟩
      · simp [Builtin.append_, run_underlying Try.underlying41, sizeOf, typeInfo, hi, Builtin.lenOf, Builtin.firstCells]
      · simp [Builtin.append_, run_underlying Try.underlying41, sizeOf, typeInfo, hi, Builtin.lenOf, Builtin.firstCells, hnc, storeCells]
    | some ad =>
      obtain ⟨v', w', r1, r2, r3, _, r5⟩ := run_append_own_at (P := Try.prog) w B 41 ty 45 i0 (.agg #[.int .i64 0, .int .i64 0, .slice none 0 0]) 3 40 Try.underlying41 hi hz0 hz1 hz2 rfl (by decide) v n cs hown ad 0 c []
        rfl (fun j u hu => by simp at hu) (fun u hu => by simp at hu) (by unfold maxLen; simp at hsz; omega) (by simp at hsz; omega) hB
      exact ⟨v', w', [], r1, r2, CyP.nil _, r3, r5⟩
  · obtain ⟨news, h1, h2, h3⟩ := FlP.news hel fs.length (Nat.le_refl _)
    rw [List.take_length] at h3
    obtain ⟨v', w', r1, r2, r3, _, r5⟩ := run_append_own_at (P := Try.prog) w B 41 ty 45 i0 (.agg #[.int .i64 0, .int .i64 0, .slice none 0 0]) 3 40 Try.underlying41 hi hz0 hz1 hz2 rfl (by decide) v n cs hown ⟨gr, o, none⟩ fs.length c news
      (by rw [h3.1, Nat.mul_comm]) (fun j u hu => by
        have e : (⟨gr, o, none⟩ : Addr).add j = ⟨gr, o + j, none⟩ := by unfold Addr.add; split <;> simp_all
        rw [e]; exact h1 j u hu) h2 (by unfold maxLen; omega) (by omega) hB
    exact ⟨v', w', news, r1, r2, h3, r3, r5⟩
theorem wpList_appendF {P : Option Addr → Nat → List UInt8 → Prop} {w : World} {B : Nat} {v : Value} {n : Nat} {cs : List Value} {ops : Array Oper} {rest : List Oper} {o : Oper} {a : Act} {Q : Exit → Act → World → Prop} (hw : Region.wanted o (yielded ops a.tmps) = true) (s x : Operand)
    (ho : o.op = .call { callee := .builtin .append, args := #[s, x], argTypes := #[41, 41] })
    (hs : a.eval s = v) (hown : w.ownsRow B 45 3 v n cs) (A : Option Addr) (m c : Nat) (hx : a.eval x = .slice A m c) (fs : List Fl) (h : FlP P w A fs) (hm : m = fs.length)
    (hsz : n + m ≤ 1000000) (hB : B ≤ w.heap.size)
    (hk : ∀ v' w' news, w'.ownsRow B 45 3 v' (n + m) (cs ++ news) → CyP P news fs → w.grownBy w' v.ownBlock → (v'.ownBlock = v.ownBlock ∨ v'.ownBlock = some w.heap.size) → wpList Try.prog ops Q rest (a.put o.dst v') w') : wpList Try.prog ops Q (o :: rest) a w := by
  refine wpList_step fun _ hK => ?_
  rw [if_pos hw]
  obtain ⟨v', w', news, hr, h2, h3, h4, h5⟩ := run_appendF hown o.type A m c fs h hm hsz hB
  unfold Oper.wp execOp
  simp only [ho, resolve, invoke, builtin, Sem.run_bind, Sem.run_pure, Result.andThen_ok, List.map_toArray, List.map_cons, List.map_nil, hs, hx, hr]
  exact hK _ _ (hk v' w' news h2 h3 h4 h5)

/-! ## the rest -/
def FC (u W : World) (g i : Nat) (f : Fl) : Prop := ∃ Ab cb, W.cell? ⟨g, i * 3, none⟩ = some (.int .i64 (f.from_ : Int)) ∧ W.cell? ⟨g, i * 3 + 1, none⟩ = some (.int .i64 (f.to_ : Int)) ∧ W.cell? ⟨g, i * 3 + 2, none⟩ = some (.slice Ab f.b.length cb) ∧ By u Ab f.b
theorem FC.ext {u W W' : World} {g i : Nat} {f : Fl} (h : FC u W g i f) (hE : Ext W W') : FC u W' g i f := by
  obtain ⟨Ab, cb, h0, h1, h2, h3⟩ := h
  exact ⟨Ab, cb, hE.cell h0, hE.cell h1, hE.cell h2, h3⟩
def RSt (u W : World) (v : Value) (R : List Fl) : Prop := ∃ A c, v = .slice A R.length c ∧ R.length ≤ c ∧ (R = [] ∨ ∃ g cur, A = some ⟨g, 0, none⟩ ∧ u.heap.size ≤ g ∧ Blk W g 45 cur ∧ ∀ i, i < R.length → FC u W g i (R.getD i fl0))
theorem RSt.of_row {u W : World} {v : Value} {cs : List Value} {R : List Fl} (h : W.ownsRow u.heap.size 45 3 v R.length cs) (hc : CyB u cs R) : RSt u W v R := by
  obtain ⟨h1, h2⟩ := h
  rcases h2 with ⟨rfl, h0⟩ | ⟨g, cap, cur, rfl, hb, hh, hnc, hm, hs, ht⟩
  · exact ⟨none, 0, by rw [h0], by omega, .inl (List.eq_nil_of_length_eq_zero h0)⟩
  · refine ⟨_, cap, rfl, hnc, .inr ⟨g, cur, rfl, hb, hh, fun i hi => ?_⟩⟩
    obtain ⟨Ab, cb, k0, k1, k2, k3⟩ := hc.2 i hi
    have hcell : ∀ j x, j < R.length * 3 → cs[j]? = some x → W.cell? ⟨g, j, none⟩ = some x := fun j x hj hx => by
      rw [Blk.cell (t := 45) hh, ← Array.getElem?_toList]
      rw [← ht, List.getElem?_take_of_lt hj] at hx
      exact hx
    exact ⟨Ab, cb, hcell _ _ (by omega) (by rw [Nat.mul_comm]; exact k0), hcell _ _ (by omega) (by rw [Nat.mul_comm i 3]; exact k1), hcell _ _ (by omega) (by rw [Nat.mul_comm i 3]; exact k2), k3⟩
theorem RSt.ext {u W W' : World} {v : Value} {R : List Fl} (h : RSt u W v R) (hE : Ext W W') : RSt u W' v R := by
  obtain ⟨A, c, h1, h2, h3⟩ := h
  refine ⟨A, c, h1, h2, ?_⟩
  rcases h3 with h3 | ⟨g, cur, e, hb, hh, hc⟩
  · exact .inl h3
  · exact .inr ⟨g, cur, e, hb, hh.ext hE, fun i hi => (hc i hi).ext hE⟩
theorem swap_cells {u W : World} {g : Nat} {cur : Array Value} {R : List Fl} (hb : Blk W g 45 cur) (hc : ∀ i, i < R.length → FC u W g i (R.getD i fl0)) {t : Nat} (ht : t < R.length) {Ab : Option Addr} {cb : Nat} (hy : By u Ab (R.getD (R.length - 1) fl0).b) :
    ∃ cur', Blk (W.setCells g (t * 3) [.int .i64 ((R.getD (R.length - 1) fl0).from_ : Int), .int .i64 ((R.getD (R.length - 1) fl0).to_ : Int), .slice Ab (R.getD (R.length - 1) fl0).b.length cb]) g 45 cur' ∧
      ∀ i, i < (swapN R t).length → FC u (W.setCells g (t * 3) [.int .i64 ((R.getD (R.length - 1) fl0).from_ : Int), .int .i64 ((R.getD (R.length - 1) fl0).to_ : Int), .slice Ab (R.getD (R.length - 1) fl0).b.length cb]) g i ((swapN R t).getD i fl0) := by
  refine ⟨_, ((hb.set _ _).set _ _).set _ _, fun i hi => ?_⟩
  rw [swapN_len] at hi
  rw [swapN_at R t hi]
  have hsome : ∀ j, j < 3 → (W.cell? ⟨g, t * 3 + j, none⟩).isSome = true := fun j hj => by
    obtain ⟨A0, c0, k0, k1, k2, _⟩ := hc t ht
    match j, hj with
    | 0, _ => rw [Nat.add_zero, k0]; rfl
    | 1, _ => rw [k1]; rfl
    | 2, _ => rw [k2]; rfl
  by_cases e : i = t
  · subst e
    rw [if_pos rfl]
    have hin := fun j hj => World.cell?_setCells_in g [.int .i64 ((R.getD (R.length - 1) fl0).from_ : Int), .int .i64 ((R.getD (R.length - 1) fl0).to_ : Int), .slice Ab (R.getD (R.length - 1) fl0).b.length cb] (i * 3) W hsome j hj
    exact ⟨Ab, cb, hin 0 (by show 0 < 3; omega), hin 1 (by show 1 < 3; omega), hin 2 (by show 2 < 3; omega), hy⟩
  · rw [if_neg e]
    obtain ⟨A0, c0, k0, k1, k2, k3⟩ := hc i (by omega)
    refine ⟨A0, c0, ?_, ?_, ?_, k3⟩
    · rw [World.cell?_setCells_out g _ (t * 3) W _ (fun _ _ => by simp; omega)]; exact k0
    · rw [World.cell?_setCells_out g _ (t * 3) W _ (fun _ _ => by simp; omega)]; exact k1
    · rw [World.cell?_setCells_out g _ (t * 3) W _ (fun _ _ => by simp; omega)]; exact k2
theorem Ext.setCells {a w : World} (h : Ext a w) {g o : Nat} (hg : a.heap.size ≤ g) (vs : List Value) : Ext a (w.setCells g o vs) := by
  induction vs generalizing w o with
  | nil => exact h
  | cons v vs ih => exact ih (h.setCell (p := ⟨g, o, none⟩) hg v)

end Go.Proofs.Ytahooohokdbnpaa
