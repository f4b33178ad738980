
/-
  Contracts of ref04.Net.At, Send.
-/
import Derived.Test.YtahooohokdbnpaaRefN
set_option linter.unusedVariables false
set_option linter.unusedSimpArgs false
namespace Go.Proofs.Ytahooohokdbnpaa
open Go.RowKit Go.Shelf Go.Maps Pl

attribute [local go_sem] Oper.semAt_some

/-- the slice at A reads as slices of bytes -/
def LinX (w : World) (A : Option Addr) (l : List (List UInt8)) : Prop :=
  l = [] ∨ ∃ gr o, A = some ⟨gr, o, none⟩ ∧ ∀ i, i < l.length → ∃ Ab cb, w.cell? ⟨gr, o + i, none⟩ = some (.slice Ab (l.getD i []).length cb) ∧ Bs 5 w (.slice Ab (l.getD i []).length cb) (l.getD i [])
theorem LinX.ext {w w' : World} {A : Option Addr} {l : List (List UInt8)} (h : LinX w A l) (hE : Ext w w') : LinX w' A l := by
  rcases h with h | ⟨gr, o, e, hi⟩
  · exact .inl h
  · refine .inr ⟨gr, o, e, fun i hl => ?_⟩
    obtain ⟨Ab, cb, hc, hb⟩ := hi i hl
    exact ⟨Ab, cb, hE.cell hc, hb.ext hE⟩
theorem LinR.x {T : Nat → Prop} {w : World} {A : Option Addr} {n c : Nat} {l : List (List UInt8)} (h : LinR T w (.slice A n c) l) : LinX w A l := by
  obtain ⟨A', c', e, h1, h2, h3⟩ := h
  cases e
  rcases h3 with rfl | ⟨gr, o, cur, rfl, hb, ht, hi⟩
  · exact .inl rfl
  · refine .inr ⟨gr, o, rfl, fun i hl => ?_⟩
    obtain ⟨vb, e, hbs⟩ := hi i hl
    obtain ⟨Ab, cb, rfl, _⟩ := id hbs
    exact ⟨Ab, cb, by rw [hb.cell]; exact e, hbs⟩
theorem Lin.big {e b : TypeId} {w : World} {B : Nat} {v : Value} {l : List (List UInt8)} (h : Lin e b w B v l) : l.length ≤ maxLen := by
  obtain ⟨A, c, rfl, h1, h2⟩ := h.form; omega

/-- append on slices of the call's own -/
theorem run_appendL {w : World} {B : Nat} {v : Value} {l : List (List UInt8)} (h : Lin 36 5 w B v l) (ty : TypeId) (A : Option Addr) (m c : Nat) (l2 : List (List UInt8)) (h2 : LinX w A l2) (hm : m = l2.length)
    (hsz : l.length + l2.length ≤ 1000000) (hB : B ≤ w.heap.size) :
    ∃ v' w', (Builtin.append_ #[30, 30] ty #[v, .slice A m c]).run Try.prog w = .ok v' w' ∧ Lin 36 5 w' B v' (l ++ l2) ∧ w.grownBy w' v.ownBlock ∧ (v'.ownBlock = v.ownBlock ∨ v'.ownBlock = some w.heap.size) := by
  obtain ⟨i0, hi, hz0, hz1, hz2⟩ := info_parts Try.infoRow
  subst hm
  obtain ⟨vs, hown, hbs⟩ := h
  have hvl : vs.length = l.length := by have := hown.1; omega
  rcases h2 with rfl | ⟨gr, o, rfl, hel⟩
  · cases A with
    | none =>
      refine ⟨v, w, ?_, by rw [List.append_nil]; exact ⟨vs, hown, hbs⟩, World.grownBy.refl w _, .inl rfl⟩
      rcases hown.2 with ⟨rfl, _⟩ | ⟨g, cap, cur, rfl, _, _, hnc, _⟩
      · simp [Builtin.append_, run_underlying Try.underlying30, sizeOf, typeInfo, hi, Builtin.lenOf, Builtin.firstCells]
      · simp [Builtin.append_, run_underlying Try.underlying30, sizeOf, typeInfo, hi, Builtin.lenOf, Builtin.firstCells, hnc, storeCells]
    | some ad =>
      obtain ⟨v', w', r1, r2, r3, _, r5⟩ := run_append_own_at (P := Try.prog) w B 30 ty 36 i0 (.slice none 0 0) 1 24 Try.underlying30 hi hz0 hz1 hz2 rfl (by decide) v l.length vs hown ad 0 c []
        rfl (fun j u hu => by simp at hu) (fun u hu => by simp at hu) (by unfold maxLen; simp at hsz; omega) (by simp at hsz; omega) hB
      refine ⟨v', w', r1, ⟨vs, by simpa using r2, fun i hi => ?_⟩, r3, r5⟩
      rw [List.append_nil] at hi ⊢
      exact (hbs i hi).kept (fun k cur hk => hk.grown r3 (fun e => by
        rcases hown.2 with ⟨rfl, _⟩ | ⟨g, cap, cur', rfl, _, hh, _⟩
        · cases e
        · cases e; exact absurd (Blk.type (t := 36) hh hk).1 (by decide)))
  · have hex : ∀ i, i < l2.length → ∃ u, w.cell? ⟨gr, o + i, none⟩ = some u ∧ Bs 5 w u (l2.getD i []) := fun i hi => by
      obtain ⟨Ab, cb, hc, hb⟩ := hel i hi
      exact ⟨_, hc, hb⟩
    obtain ⟨news, hnl, hnq⟩ : ∃ news : List Value, news.length = l2.length ∧ ∀ i, i < l2.length → w.cell? ⟨gr, o + i, none⟩ = some (news.getD i undef) ∧ Bs 5 w (news.getD i undef) (l2.getD i []) := by
      have : ∀ n, n ≤ l2.length → ∃ news : List Value, news.length = n ∧ ∀ i, i < n → w.cell? ⟨gr, o + i, none⟩ = some (news.getD i undef) ∧ Bs 5 w (news.getD i undef) (l2.getD i []) := by
        intro n
        induction n with
        | zero => exact fun _ => ⟨[], rfl, fun i hi => by omega⟩
        | succ n ih =>
          intro hn
          obtain ⟨ns, hl, hq⟩ := ih (by omega)
          obtain ⟨u, hu, hb⟩ := hex n (by omega)
          refine ⟨ns ++ [u], by simp [hl], fun i hi => ?_⟩
          by_cases hin : i < n
          · have := hq i hin
            rw [List.getD_eq_getElem?_getD, List.getElem?_append_left (by omega), ← List.getD_eq_getElem?_getD]
            exact this
          · obtain rfl : i = n := by omega
            rw [show (ns ++ [u]).getD i undef = u by simp [List.getD_eq_getElem?_getD, List.getElem?_append_right (show ns.length ≤ i by omega), hl]]
            exact ⟨hu, hb⟩
      exact this l2.length (Nat.le_refl _)
    obtain ⟨v', w', r1, r2, r3, _, r5⟩ := run_append_own_at (P := Try.prog) w B 30 ty 36 i0 (.slice none 0 0) 1 24 Try.underlying30 hi hz0 hz1 hz2 rfl (by decide) v l.length vs hown ⟨gr, o, none⟩ l2.length c news
      (by rw [hnl, Nat.mul_one]) (fun j u hu => by
        have hj : j < l2.length := by
          rcases Nat.lt_or_ge j l2.length with h | h
          · exact h
          · rw [List.getElem?_eq_none (by omega)] at hu; cases hu
        have h1 : (⟨gr, o, none⟩ : Addr).add j = ⟨gr, o + j, none⟩ := by unfold Addr.add; split <;> simp_all
        rw [h1, (hnq j hj).1, List.getD_eq_getElem?_getD, hu]; rfl) (fun u hu => by
        obtain ⟨j, hj, rfl⟩ := List.getElem_of_mem hu
        have := (hnq j (by omega)).2
        rw [List.getD_eq_getElem?_getD, List.getElem?_eq_getElem hj] at this
        obtain ⟨A', c', e, _⟩ := this
        have e' : news[j] = .slice A' (l2.getD j []).length c' := e
        rw [e']; rfl) (by unfold maxLen; omega) (by omega) hB
    have hkb : ∀ k cur, Blk w k 5 cur → Blk w' k 5 cur := fun k cur hk => hk.grown r3 (fun e => by
        rcases hown.2 with ⟨rfl, _⟩ | ⟨g, cap, cur', rfl, _, hh, _⟩
        · cases e
        · cases e; exact absurd (Blk.type (t := 36) hh hk).1 (by decide))
    refine ⟨v', w', r1, ⟨vs ++ news, by rw [List.length_append]; exact r2, fun i hi => ?_⟩, r3, r5⟩
    rw [List.length_append] at hi
    by_cases hin : i < l.length
    · rw [List.getD_eq_getElem?_getD, List.getElem?_append_left (by omega), ← List.getD_eq_getElem?_getD, List.getD_eq_getElem?_getD (l := l ++ l2), List.getElem?_append_left hin, ← List.getD_eq_getElem?_getD]
      exact (hbs i hin).kept hkb
    · rw [List.getD_eq_getElem?_getD, List.getElem?_append_right (by omega), ← List.getD_eq_getElem?_getD, List.getD_eq_getElem?_getD (l := l ++ l2), List.getElem?_append_right (by omega), ← List.getD_eq_getElem?_getD, hvl]
      exact (hnq (i - l.length) (by omega)).2.kept hkb
theorem wpList_appendL {w : World} {B : Nat} {v : Value} {l : List (List UInt8)} {ops : Array Oper} {rest : List Oper} {o : Oper} {a : Act} {Q : Exit → Act → World → Prop} (hgd : o.guard = none) (s x : Operand)
    (ho : o.op = .call { callee := .builtin .append, args := #[s, x], argTypes := #[30, 30] })
    (hs : a.eval s = v) (hown : Lin 36 5 w B v l) (A : Option Addr) (m c : Nat) (hx : a.eval x = .slice A m c) (l2 : List (List UInt8)) (h : LinX w A l2) (hm : m = l2.length)
    (hsz : l.length + l2.length ≤ 1000000) (hB : B ≤ w.heap.size)
    (hk : ∀ v' w', Lin 36 5 w' B v' (l ++ l2) → w.grownBy w' v.ownBlock → (v'.ownBlock = v.ownBlock ∨ v'.ownBlock = some w.heap.size) → wpList Try.prog ops Q rest (a.put o.dst v') w') : wpList Try.prog ops Q (o :: rest) a w := by
  refine wpList_plain hgd fun _ hK => ?_
  obtain ⟨v', w', hr, h2, h3, h4⟩ := run_appendL hown o.type A m c l2 h hm hsz hB
  unfold Oper.wp execOp
  simp only [ho, resolve, invoke, builtin, Sem.run_bind, Sem.run_pure, Result.andThen_ok, List.map_toArray, List.map_cons, List.map_nil, hs, hx, hr]
  exact hK _ _ (hk v' w' h2 h3 h4)
theorem Lin.r {w : World} {B : Nat} {v : Value} {l : List (List UInt8)} (h : Lin 36 5 w B v l) {T : Nat → Prop} (hT : ∀ k, v.ownBlock = some k → T k) : LinR T w v l := by
  obtain ⟨vs, ⟨h1, h2⟩, h3⟩ := h
  rcases h2 with ⟨rfl, hn⟩ | ⟨g, cap, cur, rfl, hb, hh, hnc, hcm, hcs, ht⟩
  · have : l = [] := List.eq_nil_of_length_eq_zero hn
    subst this
    exact ⟨none, 0, rfl, Nat.le_refl _, Nat.zero_le _, .inl rfl⟩
  · refine ⟨some ⟨g, 0, none⟩, cap, rfl, hnc, hcm, .inr ⟨g, 0, cur, rfl, hh, hT g rfl, fun i hi => ⟨vs.getD i undef, ?_, h3 i hi⟩⟩⟩
    have h5 : (cur.toList.take (l.length * 1))[i]? = vs[i]? := by rw [ht]
    rw [List.getElem?_take_of_lt (by omega)] at h5
    rw [Nat.zero_add, ← Array.getElem?_toList, h5, List.getD_eq_getElem?_getD]
    have : i < vs.length := by omega
    rw [List.getElem?_eq_getElem this]; rfl
/-- a line is stored -/
theorem RefAt.stored {w w2 : World} {T : Nat → Prop} {g : Nat} {N : Nt} (h : RefAt w T g N) (hE : Ext w w2) {m n : Nat} (hm : m < 6) (hn : n < 6) {v : Value} {l : List (List UInt8)} {T' : Nat → Prop} (hv : LinR T' w2 v l) (hT : ∀ k, T k → T' k) (hT' : ∀ k, T' k → T k ∨ ∃ cur, Blk w2 k 36 cur)
    (hok : OkN { N with L := setL N.L (m, n) l }) : RefAt (w2.setCell ⟨g, m * 6 + n, none⟩ v) T' g { N with L := setL N.L (m, n) l } := by
  obtain ⟨h0, hlo, hg, hk, cs, hb, hsz, h36, h37, hl⟩ := h
  have hb2 := hb.ext hE
  have hC : Chg (fun k => k = g) w2 (w2.setCell ⟨g, m * 6 + n, none⟩ v) := Chg.of_grown (grown_set w2 ⟨g, m * 6 + n, none⟩ v) (fun r e => by cases e; rfl)
  have hbyt : ∀ k cur, k = g → ¬ Blk w2 k 5 cur := fun k cur e hx => by subst e; exact absurd (hb2.type hx).1 (by decide)
  have hrow : ∀ k cur, k = g → ¬ Blk w2 k 36 cur := fun k cur e hx => by subst e; exact absurd (hb2.type hx).1 (by decide)
  have hch : ∀ {u : Value} {l' : List (List UInt8)}, LinR T' w2 u l' → LinR T' (w2.setCell ⟨g, m * 6 + n, none⟩ v) u l' := fun {u l'} hu => by
    obtain ⟨A, c, rfl, h1, h2, h3⟩ := hu
    refine ⟨A, c, rfl, h1, h2, ?_⟩
    rcases h3 with h3 | ⟨gr, o, cur, rfl, hb', ht, hi⟩
    · exact .inl h3
    · refine .inr ⟨gr, o, cur, rfl, hC.blk hb' (fun e => hrow gr cur e hb'), ht, fun i hl => ?_⟩
      obtain ⟨vb, e, hbs⟩ := hi i hl
      exact ⟨vb, e, hbs.chg hC hbyt⟩
  have h5 := h0.e5
  have hg6 : ∀ a b, a < 6 → b < 6 → (a * 6 + b = m * 6 + n ↔ (a, b) = (m, n)) := fun a b ha hb => by
    constructor
    · intro e; exact Prod.ext (by show a = m; omega) (by show b = n; omega)
    · intro e; cases e; rfl
  refine ⟨hok, hlo, hT g hg, fun k hk' => ?_, cs.setIfInBounds (m * 6 + n) v, hb2.set _ _, by simp [hsz], ?_, ?_, fun a b ha hb' => ?_⟩
  · rcases hT' k hk' with h1 | ⟨cur, h1⟩
    · rcases hk k h1 with h2 | ⟨cur, h2⟩
      · exact .inl h2
      · exact .inr ⟨cur, hC.blk (h2.ext hE) (fun e => hrow k cur e (h2.ext hE))⟩
    · exact .inr ⟨cur, hC.blk h1 (fun e => hrow k cur e h1)⟩
  · rw [Array.getElem?_setIfInBounds_ne (by omega)]; exact h36
  · rw [Array.getElem?_setIfInBounds_ne (by omega)]; exact h37
  · by_cases e : (a, b) = (m, n)
    · cases e
      refine ⟨v, by rw [Array.getElem?_setIfInBounds_self_of_lt (by omega)], ?_⟩
      show LinR T' _ v (setL N.L (m, n) l (m, n))
      rw [setL_same]
      exact hch hv
    · obtain ⟨u, hu, hr⟩ := hl a b ha hb'
      refine ⟨u, by rw [Array.getElem?_setIfInBounds_ne (fun e' => e ((hg6 a b ha hb').1 e'.symm))]; exact hu, ?_⟩
      show LinR T' _ u (setL N.L (m, n) l (a, b))
      rw [setL_other _ _ e]
      exact hch ((hr.chg (S := fun _ => False) (Chg.of_ext hE) (fun _ h => h.elim) (fun _ _ h => h.elim)).mono hT)

end Go.Proofs.Ytahooohokdbnpaa
