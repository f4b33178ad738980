
/-
  Contract of law05.once.
-/
import Derived.Test.YtgbfeagoadlhmaaPack
import Derived.Test.YtgbfeagoadlhmaaPlayF
import Derived.Test.YtgbfeagoadlhmaaPlayD
import Derived.Test.YtgbfeagoadlhmaaPlayL
import Derived.Test.YtgbfeagoadlhmaaShape
import Derived.Deep.CutRange
set_option linter.unusedVariables false
set_option linter.unusedSimpArgs false
namespace Go.Proofs.Ytgbfeagoadlhmaa
open Go.RowKit Go.Shelf Pl

attribute [local go_sem] Oper.semAt_some

/-- a closure is not nil -/
theorem nil_closure5 (t : TypeId) (ht : ((Try.prog.underlying t).map fun d => match d with | .func .. => true | _ => false) = true) (f : Nat) (lb : Array Value) (w : World) : (binOp .eql t (.func (.func f) #[] lb) .nilFunc).run Try.prog w = .ok (.bool false) w := by
  cases hu : Try.prog.underlying t with
  | none => rw [hu] at ht; cases ht
  | some d =>
    rw [hu] at ht
    cases d with
    | func a b c =>
      have h1 : ∀ d, (Op.equalIn (d + 1) t (.func (.func f) #[] lb) .nilFunc).run Try.prog w = .ok false w := fun d => by simp [Op.equalIn, run_underlying hu]
      have h2 : (Op.equal t (.func (.func f) #[] lb) .nilFunc).run Try.prog w = .ok false w := h1 9999
      simp only [binOp]
      simp [h2]
    | _ => simp at ht
theorem results_cellB {P : Program} {fn : Func} {p : Tmp} {ty : TypeId} (h : fn.results = #[.cell p ty]) (tmps : Array Value) (w : World) (g : Nat) (v : Value) (hp : tmps.getD p undef = .pointer (some ⟨g, 0, none⟩)) (hl : (loadVar ty ⟨g, 0, none⟩).run P w = .ok v w) :
    (results fn tmps).run P w = .ok v w := by
  have hp' : tmps[p]?.getD undef = .pointer (some ⟨g, 0, none⟩) := by simpa using hp
  simp [results, h, hp', asAddr, hl]
theorem load_boolB {w : World} {g : Nat} {x : Bool} (h : Blk w g 4 #[.bool x]) : (loadVar 4 ⟨g, 0, none⟩).run Try.prog w = .ok (.bool x) w := by
  have hc : w.cell? ⟨g, 0, none⟩ = some (.bool x) := by rw [h.cell]; rfl
  simp [go_sem, hc]
theorem cell1B {w : World} {g : Nat} {t : TypeId} {x : Value} (h : Blk w g t #[x]) : w.cell? ⟨g, 0, none⟩ = some x := by rw [h.cell]; rfl

/-- but for two blocks the old memory is as it was -/
def Oth (gi gn : Nat) (w w' : World) : Prop := w.heap.size ≤ w'.heap.size ∧ ∀ k, k < w.heap.size → k ≠ gi → k ≠ gn → w'.heap[k]? = w.heap[k]?
theorem Oth.refl (gi gn : Nat) (w : World) : Oth gi gn w w := ⟨Nat.le_refl _, fun _ _ _ _ => rfl⟩
theorem Oth.grow {gi gn : Nat} {a b c : World} {row : Option Nat} (h : Oth gi gn a b) (hg : b.grownBy c row) (hr : ∀ r, row = some r → r = gi ∨ r = gn ∨ a.heap.size ≤ r) : Oth gi gn a c :=
  ⟨Nat.le_trans h.1 hg.size, fun k hk h1 h2 => (hg.block k (Nat.lt_of_lt_of_le hk h.1) (fun e => by rcases hr k e.symm with q | q | q <;> omega)).trans (h.2 k hk h1 h2)⟩
theorem Oth.blk {gi gn : Nat} {a b : World} {g : Nat} {t : TypeId} {cs : Array Value} (h : Blk a g t cs) (ho : Oth gi gn a b) (h1 : g ≠ gi) (h2 : g ≠ gn) : Blk b g t cs := (ho.2 g h.lt h1 h2).trans h
theorem Oth.cell {gi gn : Nat} {a b : World} {p : Addr} {v : Value} (h : a.cell? p = some v) (ho : Oth gi gn a b) (h1 : p.block ≠ gi) (h2 : p.block ≠ gn) : b.cell? p = some v := by
  rw [World.cell?_of_block (w := a) (ho.2 p.block (block_lt_of_cell h) h1 h2)]
  exact h

/-- what a round has done so far -/
structure Trk (w w5 W : World) (gi gn : Nat) (G fr : Nat → Prop) (wr : World) : Prop where
  kf : KeepsFrom w5.heap.size W wr
  kp : Keeps G (w5.heap.size + 2) fr W wr
  oth : Oth gi gn w5 wr
  ext : Ext w wr
theorem Trk.more {w w5 W wr wr' : World} {gi gn : Nat} {G fr : Nat → Prop} (h : Trk w w5 W gi gn G fr wr) (hE : Ext wr wr') : Trk w w5 W gi gn G fr wr' :=
  ⟨h.kf.trans (KeepsFrom.none (ext_grown hE none)), h.kp.trans (Keeps.grown (ext_grown hE none) (fun r e => by cases e)), h.oth.grow (ext_grown hE none) (fun r e => by cases e), h.ext.trans hE⟩
theorem Trk.set {w w5 W wr : World} {gi gn : Nat} {G fr : Nat → Prop} (h : Trk w w5 W gi gn G fr wr) {g : Nat} {t : TypeId} {cs : Array Value} (hb : Blk wr g t cs) (hg : ((g = gi ∨ g = gn) ∧ g < w5.heap.size) ∨ (w5.heap.size ≤ g ∧ fr g)) (hG : ¬ G g) (hw : w.heap.size ≤ g) (i : Nat) (u : Value) : Trk w w5 W gi gn G fr (wr.setCell ⟨g, i, none⟩ u) :=
  ⟨h.kf.trans (KeepsFrom.cells (grown_set _ _ _) hb), h.kp.trans (Keeps.grown (grown_set _ _ _) (fun r e => by
      cases e
      rcases hg with ⟨_, hg⟩ | ⟨_, hg⟩
      · exact ⟨hG, .inl (by show g < _; omega)⟩
      · exact ⟨hG, .inr hg⟩)), h.oth.grow (grown_set _ _ _) (fun r e => by
      cases e
      rcases hg with ⟨hg | hg, _⟩ | ⟨hg, _⟩
      · exact .inl hg
      · exact .inr (.inl hg)
      · exact .inr (.inr hg)), h.ext.setCell hw u⟩

/-- bytes, whatever they are -/
def U8s (cur : Array Value) (n : Nat) : Prop := ∀ i, i < n → ∃ x : Nat, x < 256 ∧ cur[i]? = some (.int .u8 (x : Int))
theorem U8s.set {cur : Array Value} {n : Nat} (h : U8s cur n) (i x : Nat) (hx : x < 256) : U8s (cur.setIfInBounds i (.int .u8 (x : Int))) n := by
  intro k hk
  obtain ⟨y, hy, hc⟩ := h k hk
  by_cases hik : i = k
  · subst hik
    refine ⟨x, hx, ?_⟩
    have hlt : i < cur.size := by
      rcases Nat.lt_or_ge i cur.size with q | q
      · exact q
      · rw [Array.getElem?_eq_none q] at hc; cases hc
    rw [Array.getElem?_setIfInBounds, if_pos rfl, if_pos hlt]
  · refine ⟨y, hy, ?_⟩
    rw [Array.getElem?_setIfInBounds, if_neg hik]
    exact hc
theorem own_cells {t : TypeId} {W : World} {N : Nat} {v : Value} {l : List UInt8} (h : Own t W N v l) (hl : 0 < l.length) : ∃ g c cur, v = .slice (some ⟨g, 0, none⟩) l.length c ∧ N ≤ g ∧ Blk W g t cur ∧ (∀ i, i < l.length → cur[i]? = some (.int .u8 (at8 l i))) ∧ l.length ≤ c ∧ c ≤ maxLen := by
  obtain ⟨A, c, hv, hby, hc1, hc2⟩ := h.form
  rcases h.2 with ⟨rfl, h0⟩ | ⟨g, cap, cur, rfl, hb, hh, _, _, _, _⟩
  · omega
  · injection hv with e1 e2 e3
    subst e1
    refine ⟨g, cap, cur, rfl, hb, hh, fun i hi => ?_, by omega, by omega⟩
    rcases hby with h0 | ⟨b, o, e, hcc⟩
    · rw [h0] at hl; simp at hl
    · injection e with e; injection e with e1 e2; subst e1; subst e2
      have := hcc i hi
      rw [Nat.zero_add, Blk.cell (t := t) hh] at this
      exact this
theorem u8s_of {cur : Array Value} {l : List UInt8} (h : ∀ i, i < l.length → cur[i]? = some (.int .u8 (at8 l i))) : U8s cur l.length := by
  intro i hi
  refine ⟨(l.getD i 0).toNat, UInt8.toNat_lt _, ?_⟩
  rw [h i hi]
  rfl
theorem by_cur {w : World} {g : Nat} {t : TypeId} {cur : Array Value} {l : List UInt8} (h : Blk w g t cur) (hc : ∀ i, i < l.length → cur[i]? = some (.int .u8 (at8 l i))) : By w (some ⟨g, 0, none⟩) l :=
  .inr ⟨g, 0, rfl, fun i hi => by rw [Nat.zero_add, h.cell]; exact hc i hi⟩

set_option maxHeartbeats 8000000 in
set_option maxRecDepth 100000 in
theorem once_any (w : World) (P : List UInt8) (h : P.length = 1024) (z : Int) (hz1 : -9223372036854775808 ≤ z) (hz2 : z ≤ 9223372036854775807) :
    Calls Try.prog 61 #[.agg (cells8 P), .int .i64 z] w fun e w' => e = .returned (.bool true) ∧ Ext w w' := by
  have HPL := Lib.hid h
  have HX0 := Lib.hid (((ext_new w (.cells (cells8 P) 23)).alloc (.cells #[.int .i64 z] 3)).alloc (.cells #[.bool false] 4))
  have HM0 := Lib.hid (Blk.new (w.alloc (.cells (cells8 P) 23)) 3 #[.int .i64 z])
  have HP0 := Lib.hid ((Blk.new w 23 (cells8 P)).alloc (.cells #[.int .i64 z] 3))
  have HR0 := Lib.hid (Blk.new ((w.alloc (.cells (cells8 P) 23)).alloc (.cells #[.int .i64 z] 3)) 4 #[.bool false])
  have HM0 := Lib.hid (HM0.out.alloc (.cells #[.bool false] 4))
  have HP0 := Lib.hid (HP0.out.alloc (.cells #[.bool false] 4))
  simp only [World.size_alloc] at HM0 HR0
  have KL := Lib.hid (fun W => List_ref W P h)
  have KIT := Lib.hid (fun W => Items_pg W P h)
  have KI := Lib.hid (fun W (k : Nat) (hk : k ≤ 1000) => Item_ref W P (k : Int) h (by omega) (by omega))
  have HIE : Hid (∀ k : Nat, rightB P = true → k < num2 P 14 → slotS P k ≠ 0 → itemE P (k : Int) = 0 ∧ itemB P (k : Int) = itemL P k) := Lib.hid (fun k hr hk hs => by
    have e0 : itemE P (k : Int) = 0 := by
      unfold itemE
      rw [if_pos hr, if_neg (by omega), if_pos]
      unfold hasB
      simp only [Int.toNat_natCast, Bool.and_eq_true, decide_eq_true_eq]
      exact ⟨hk, hs⟩
    refine ⟨e0, ?_⟩
    unfold itemB
    rw [if_pos e0, Int.toNat_natCast])
  have HIL := Lib.hid (fun k hr hk => itemL_length h (k := k) hr hk)
  have HS9 : Hid (∀ k, rightB P = true → k < num2 P 14 → slotS P k ≤ 1000) := Lib.hid (fun k hr hk => by
    by_cases hs : slotS P k = 0
    · omega
    · have := right_slot hr hk hs; omega)
  have HSN : Hid (rightB P = true → slotsN P = num2 P 14 ∧ num2 P 14 ≤ 300) := Lib.hid (fun hr => ⟨by unfold slotsN; rw [hr]; rfl, by have := right_le hr; omega⟩)
  have HSZ : Hid (rightB P = false → slotsN P = 0) := Lib.hid (fun hr => by unfold slotsN; rw [hr]; rfl)
  have HSL : Hid (slotsN P ≤ 300) := Lib.hid (by
    cases hr : rightB P with
    | true => have := (HSN.out hr).1; have := (HSN.out hr).2; omega
    | false => rw [HSZ.out hr]; omega)
  refine callsIn_wide.1 (callsIn_of_wp_marks (n := 3) Try.func61 rfl trivial (wpIn_wide.2 (wp_quiet ?_)) rfl)
  simp only [Try.ntmps61, List.size_toArray, List.length_cons, List.length_nil, Nat.reduceAdd, Nat.reduceSub, Array.replicate_succ, Array.replicate_zero, List.push_toArray, List.append_toArray, List.nil_append, List.cons_append]
  go_upto_region 1 with fail
  have hlp0 := load_pg HP0.out h
  generalize (((w.alloc (.cells (cells8 P) 23)).alloc (.cells #[.int .i64 z] 3)).alloc (.cells #[.bool false] 4)) = w0 at *
  go_wp2_with (refine wpList_load_g rfl 23 _ rfl _ rfl _ hlp0 ?_)
  refine (KL.out w0).mono ?_
  rintro e w1 ⟨A, c0, rfl, hS1, hE1⟩
  have HP1 := Lib.hid (HP0.out.ext hE1)
  have HM1 := Lib.hid (HM0.out.ext hE1)
  have HR1 := Lib.hid (HR0.out.ext hE1)
  have HE1 := Lib.hid (HX0.out.trans hE1)
  have HS1 := Lib.hid hS1
  clear hS1 hE1 HP0 HM0 HR0 HX0 hlp0 KL

  generalize slotsN P = N at *
  go_upto_region 2 with fail
  have hR1 := HR1.out.lt
  have HX2 := Lib.hid ((ext_new w1 (.cells #[.slice A N c0] 94)).alloc (.cells #[.bool (rightB P)] 4))
  have HL2 := Lib.hid ((Blk.new w1 94 #[.slice A N c0]).alloc (.cells #[.bool (rightB P)] 4))
  have HO2 := Lib.hid (Blk.new (w1.alloc (.cells #[.slice A N c0] 94)) 4 #[.bool (rightB P)])
  simp only [World.size_alloc] at HO2
  have HP2 := Lib.hid (HP1.out.ext HX2.out)
  have HM2 := Lib.hid (HM1.out.ext HX2.out)
  have HR2 := Lib.hid (HR1.out.ext HX2.out)
  have HE2 := Lib.hid (HE1.out.trans HX2.out)
  have hlp2 := load_pg HP2.out h
  have hsz2 : ((w1.alloc (.cells #[.slice A N c0] 94)).alloc (.cells #[.bool (rightB P)] 4)).heap.size = w1.heap.size + 2 := by simp
  generalize (w1.alloc (.cells #[.slice A N c0] 94)).alloc (.cells #[.bool (rightB P)] 4) = w2 at *
  clear HP1 HM1 HR1 HE1
  go_wp2_with (refine wpList_load_g rfl 23 _ rfl _ rfl _ hlp2 ?_)
  refine (KIT.out w2).mono ?_
  rintro e w3 ⟨gfn, gp, rfl, hPi, hFi, hgp1, hgp2, hE3⟩
  have HPi := Lib.hid hPi
  have HFi := Lib.hid hFi
  have HX3 := Lib.hid (HX2.out.trans hE3)
  have HL3 := Lib.hid (HL2.out.ext hE3)
  have HO3 := Lib.hid (HO2.out.ext hE3)
  have HP3 := Lib.hid (HP2.out.ext hE3)
  have HM3 := Lib.hid (HM2.out.ext hE3)
  have HR3 := Lib.hid (HR2.out.ext hE3)
  have HE3 := Lib.hid (HE2.out.trans hE3)
  have hFl := hFi.lt
  clear hPi hFi hE3 HP2 HM2 HR2 HE2 HX2 HL2 HO2 KIT hlp2
  have hnil := fun W => nil_closure5 51 (by kernel_rfl) 46 #[.pointer (some ⟨gfn, 0, none⟩), .pointer (some ⟨gp, 0, none⟩)] W
  go_upto_region 6 with fail
  clear hnil
  have HX4 := Lib.hid ((ext_new w3 (.cells #[.int .i64 0] 3)).alloc (.cells #[.int .i64 0] 3))
  have HI5 := Lib.hid ((Blk.new w3 3 #[.int .i64 0]).alloc (.cells #[.int .i64 0] 3))
  have HN5 := Lib.hid (Blk.new (w3.alloc (.cells #[.int .i64 0] 3)) 3 #[.int .i64 0])
  simp only [World.size_alloc] at HN5
  have HPi5 := Lib.hid (HPi.out.ext HX4.out)
  have HFi5 := Lib.hid (HFi.out.ext HX4.out)
  have HX5 := Lib.hid (HX3.out.trans HX4.out)
  have HL5 := Lib.hid (HL3.out.ext HX4.out)
  have HO5 := Lib.hid (HO3.out.ext HX4.out)
  have HP5 := Lib.hid (HP3.out.ext HX4.out)
  have HM5 := Lib.hid (HM3.out.ext HX4.out)
  have HR5 := Lib.hid (HR3.out.ext HX4.out)
  have HE5 := Lib.hid (HE3.out.trans HX4.out)
  have hsz5 : ((w3.alloc (.cells #[.int .i64 0] 3)).alloc (.cells #[.int .i64 0] 3)).heap.size = w3.heap.size + 2 := by simp
  generalize (w3.alloc (.cells #[.int .i64 0] 3)).alloc (.cells #[.int .i64 0] 3) = w5 at *
  obtain ⟨gi, hgi⟩ : ∃ gi, w3.heap.size = gi := ⟨_, rfl⟩
  rw [hgi] at HI5 HN5 hFl hsz5 ⊢
  obtain ⟨gl, hgl⟩ : ∃ gl, w1.heap.size = gl := ⟨_, rfl⟩
  rw [hgl] at HL5 HO5 hR1 hsz2 ⊢
  have HGL := Lib.hid hgl
  clear HX4 HL3 HO3 HP3 HM3 HR3 HE3 HX3 HPi HFi hgi hgl
  go_wp2_with fail
  refine wp_rangeF (σ := Nat) 3 (by omega) (gf := 46) (lb := #[.pointer (some ⟨gfn, 0, none⟩), .pointer (some ⟨gp, 0, none⟩)]) rfl (enters_of Try.func46 (by kernel_rfl) rfl) (items_seq P h gfn gp 2 (by omega))
    (fun W hg => ⟨⟨HPi5.out.blk.grown hg (by simp), h⟩, HFi5.out.grown hg (by simp)⟩) (fun k hk => by rcases hk with rfl | rfl <;> omega)
    (fun N s args s' A hx => by obtain ⟨_, k, v, _, _, _, _, _, rfl, _⟩ := hx; rfl) (fun N s args s' => itX_firm P N s args s')
    (fun s W => Blk W gi 3 #[.int .i64 (s : Int)] ∧ (∃ c : Nat, c ≤ s ∧ Blk W (gi + 1) 3 #[.int .i64 (c : Int)]) ∧ Oth gi (gi + 1) w5 W ∧ Ext w W)
    (fun c s W => c = .ret ∧ Blk W (w.heap.size + 1 + 1) 4 #[.bool true] ∧ Ext w W)
    (fun s A B row h hg hr => by
      obtain ⟨q1, ⟨c, q2, q3⟩, q4, q5⟩ := h
      have hf : ∀ r, row = some r → ∃ o : Obj, A.heap[r]? = some o ∧ o.isCells = false := fun r e => (hr r e).2
      exact ⟨q1.firm hg hf, ⟨c, q2, q3.firm hg hf⟩, q4.grow hg (fun r e => .inr (.inr (hr r e).1)), q5.grown hg (fun k e => by have := (hr k e).1; have := HE5.out.size; omega)⟩)
    (fun c s A B row h hg hr => by
      obtain ⟨q1, q2, q3⟩ := h
      have hf : ∀ r, row = some r → ∃ o : Obj, A.heap[r]? = some o ∧ o.isCells = false := fun r e => (hr r e).2
      exact ⟨q1, q2.firm hg hf, q3.grown hg (fun k e => by have := (hr k e).1; have := HE5.out.size; omega)⟩)
    ⟨HI5.out, ⟨0, Nat.le_refl _, HN5.out⟩, Oth.refl _ _ _, HE5.out⟩
    (fun args T => (((T.setIfInBounds 25 (args.getD 0 undef)).setIfInBounds 26 (args.getD 1 undef)).setIfInBounds 10 (args.getD 0 undef)).setIfInBounds 11 (args.getD 1 undef)) ?assign ?body ?done ?stop
  case assign =>
    rintro l s args s' W K ⟨-, k', v, -, -, -, -, -, rfl, -⟩ hK
    gi_wp2_with fail
    exact hK
  case stop =>
    rintro D c s W hD _ ⟨rfl, hR, hE⟩ hK
    have HR := Lib.hid hR
    have HE := Lib.hid hE
    have HK := Lib.hid hK
    clear hR hE hK
    go_wp2_with fail
    exact postM_mark HK.out (results_cellB Try.results61 _ _ (w.heap.size + 1 + 1) (.bool true) rfl (load_boolB (HR.out.mark HK.out))) ⟨rfl, HE.out.mark (by have := HE5.out.size; omega)⟩
  case body =>
    rintro l s args s' W ⟨hI, ⟨c, hcs, hN⟩, hO, hE⟩ ⟨hr, k, v, hsk, hkm, hem, hnz, rfl, rfl, hOw⟩
    simp only [Array.getD_eq_getD_getElem?, List.getElem?_toArray, List.getElem?_cons_zero, List.getElem?_cons_succ, Option.getD_some, List.setIfInBounds_toArray, List.set_cons_succ, List.set_cons_zero]
    obtain ⟨hn1, hn2⟩ := HSN.out hr
    obtain ⟨he0, hb0⟩ := HIE.out k hr hkm hnz
    have hil := HIL.out k hr hkm
    have hs9 := HS9.out k hr hkm
    obtain ⟨g, cb, cur, hv, hgN, hBg, hcur, hcb1, hcb2⟩ := own_cells hOw (by rw [hil]; omega)
    subst hv
    rw [hil] at hcb1 hcur ⊢
    rw [hr] at HO5 HFi5
    have hkN : k < N := by omega
    have HKI := Lib.hid (fun W => KI.out W k (by omega))
    rw [he0, hb0] at HKI
    have HT0 : Hid (Trk w w5 W gi (gi + 1) (fun q => q = gp ∨ q = gfn) (fun q => (Value.slice (some ⟨g, 0, none⟩) (slotS P k) cb).ownBlock = some q) W) := Lib.hid ⟨KeepsFrom.none (World.grownBy.refl W none), Keeps.refl _ _ _ _, hO, hE⟩
    have HFR : Hid ((fun q => (Value.slice (some ⟨g, 0, none⟩) (slotS P k) cb).ownBlock = some q) g) := Lib.hid rfl
    have HEMP := Lib.hid hem
    have HCU := Lib.hid hcur
    have HIL1 : Hid ((itemL P k).length = slotS P k) := Lib.hid hil
    have HBY : Hid (∀ W', Blk W' g 5 cur → By W' (some ⟨g, 0, none⟩) (itemL P k)) := Lib.hid (fun W' hb => by_cur hb (by rw [hil]; exact hcur))
    have HU0 : Hid (U8s cur (slotS P k)) := Lib.hid (by have := u8s_of (l := itemL P k) (by rw [hil]; exact hcur); rwa [hil] at this)
    have HI0 := Lib.hid hI
    have HN0 := Lib.hid hN
    have HB0 := Lib.hid hBg
    have HNZ := Lib.hid hnz
    have hpw := HE5.out.size
    have HEW := Lib.hid hE
    have HSK := Lib.hid hsk
    clear hI hN hBg hnz hE hO hem hcur hil hOw he0 hb0 hr
    gi_wp2_with fail
    gi_loopw [] (fun wr => ∃ j : Nat, s ≤ j ∧ j ≤ k ∧ Blk wr gi 3 #[.int .i64 (j : Int)] ∧ Blk wr (gi + 1) 3 #[.int .i64 (c : Int)] ∧ Blk wr g 5 cur ∧ Trk w w5 W gi (gi + 1) (fun q => q = gp ∨ q = gfn) (fun q => (Value.slice (some ⟨g, 0, none⟩) (slotS P k) cb).ownBlock = some q) wr) (fun wr => k - (intOf ((wr.cell? ⟨gi, 0, none⟩).getD undef)).toNat)
    case atStart => exact ⟨s, Nat.le_refl _, hsk, HI0.out, HN0.out, HB0.out, HT0.out⟩
    case round =>
      obtain ⟨j, hsj, hjk, hI, hN, hB, hT⟩ := hrel
      have HI := Lib.hid hI
      have HN := Lib.hid hN
      have HB := Lib.hid hB
      have HT := Lib.hid hT
      obtain ⟨g2, rfl, y0, y1⟩ := HS1.out.at_ (i := j) (by omega)
      have hg2 : g2 < w1.heap.size := block_lt_of_cell y0
      have hgl := HGL.out
      have x1 := (HX5.out.cell y1)
      have x1 := Oth.cell x1 HT.out.oth (by show g2 ≠ gi; omega) (by show g2 ≠ gi + 1; omega)
      have c6 := cell1B (Oth.blk HO5.out HT.out.oth (by omega) (by omega))
      have c5 := cell1B (Oth.blk HL5.out HT.out.oth (by omega) (by omega))
      have c8 := cell1B HI.out
      have d1 : decide ((j : Int) < (N : Int)) = true := decide_eq_true (by omega)
      clear y0 y1 hI hN hB hT
      by_cases hj : j < k
      · have hs0 : slotS P j = 0 := HEMP.out j hsj hj
        have e1 : ((slotS P j : Int) == 0) = true := by rw [beq_iff_eq]; omega
        have hf8 := HI.out.frozen 0
        have HBn := Lib.hid (HI.out.set 0 (.int .i64 ((j : Int) + 1)))
        have HNn := Lib.hid (HN.out.far (p := ⟨gi, 0, none⟩) (by show gi + 1 ≠ gi; omega) (.int .i64 ((j : Int) + 1)))
        have HBb := Lib.hid (HB.out.far (p := ⟨gi, 0, none⟩) (by show g ≠ gi; omega) (.int .i64 ((j : Int) + 1)))
        have HTn := Lib.hid (HT.out.set HI.out (.inl ⟨.inl rfl, by omega⟩) (by show ¬ (gi = gp ∨ gi = gfn); omega) (by omega) 0 (.int .i64 ((j : Int) + 1)))
        have HME := Lib.hid (cell1B HBn.out)
        clear hs0 HI HN HB HT
        generalize slotS P j = sj at *
        gi_wp2_with fail
        have hc8 := c8
        exact ⟨⟨j + 1, by omega, by omega, HBn.out, HNn.out, HBb.out, HTn.out⟩, by rw [HME.out, hc8]; simp [intOf]; omega⟩
      · obtain rfl : j = k := by omega
        have hnz := HNZ.out
        have e1 : ((slotS P j : Int) == 0) = false := by rw [beq_eq_false_iff_ne]; omega
        have d2 : decide ((N : Int) ≤ (j : Int)) = false := decide_eq_false (by omega)
        have d3 : ((j : Int) != (j : Int)) = false := by simp
        have HPw := Lib.hid (Oth.blk HP5.out HT.out.oth (by omega) (by omega))
        have hlp := load_pg HPw.out h
        have KK := Lib.hid (HKI.out wr)
        clear hnz HI0 HN0 HB0 HT0 HNZ
        gi_wp2_with (refine wpListIn_run rfl rfl (by intro c h; cases h) (load_run rfl hlp) ?_)
        refine ⟨trivial, (CallsIn.inRound l (callsIn_wide.2 KK.out)).mono ?_⟩
        rintro e w6 ⟨v6, rfl, hO6, hE6⟩
        obtain ⟨A6, c6', rfl, hb6, _, _⟩ := hO6.form
        rw [HIL1.out]
        have HI6 := Lib.hid (HI.out.ext hE6)
        have HN6 := Lib.hid (HN.out.ext hE6)
        have HB6 := Lib.hid (HB.out.ext hE6)
        have HT6 := Lib.hid (HT.out.more hE6)
        have hst1 := str_any (HBY.out w6 HB6.out) cb
        have hst2 := str_any hb6 c6'
        rw [HIL1.out] at hst1 hst2
        clear hO6 hE6 hb6 HI HN HB HT KK HPw hlp x1 c5 c6 c8 d1 e1 d2 d3
        gi_wp2_with (first | (refine wpListIn_run rfl rfl (by intro c h; cases h) (convert_run rfl hst1) ?_) | (refine wpListIn_run rfl rfl (by intro c h; cases h) (convert_run rfl hst2) ?_))
        gi_loopw [14] (fun q wr => ∃ (i : Nat) (cu : Array Value), i ≤ slotS P j ∧ q = .int .i64 (i : Int) ∧ Blk wr g 5 cu ∧ U8s cu (slotS P j) ∧ Blk wr gi 3 #[.int .i64 (j : Int)] ∧ Blk wr (gi + 1) 3 #[.int .i64 (c : Int)] ∧ Trk w w5 W gi (gi + 1) (fun q => q = gp ∨ q = gfn) (fun q => (Value.slice (some ⟨g, 0, none⟩) (slotS P j) cb).ownBlock = some q) wr) (fun q _ => slotS P j - (intOf q).toNat)
        case atStart => exact ⟨0, cur, Nat.zero_le _, rfl, HB6.out, HU0.out, HI6.out, HN6.out, HT6.out⟩
        case round =>
          obtain ⟨i, cu, hi, rfl, hB, hU, hI, hN, hT⟩ := hrel
          have HB := Lib.hid hB
          have HU := Lib.hid hU
          have HI := Lib.hid hI
          have HN := Lib.hid hN
          have HT := Lib.hid hT
          clear hB hU hI hN hT HI6 HN6 HB6 HT6 HU0 hst1 hst2
          by_cases hlt : i < slotS P j
          · have d1 : decide ((i : Int) < (slotS P j : Int)) = true := decide_eq_true (by omega)
            obtain ⟨x, hx, hcx⟩ := HU.out i hlt
            have cx : wr.cell? ⟨g, i, none⟩ = some (.int .u8 (x : Int)) := by rw [HB.out.cell]; exact hcx
            have hfx := HB.out.frozen i
            have HBn := Lib.hid (HB.out.set i (.int .u8 (((x : Int) + 1) % 256)))
            have hun := HU.out.set i ((x + 1) % 256) (by omega)
            rw [show (((x + 1) % 256 : Nat) : Int) = ((x : Int) + 1) % 256 by omega] at hun
            have HUn := Lib.hid hun
            have HIn := Lib.hid (HI.out.far (p := ⟨g, i, none⟩) (by show gi ≠ g; omega) (.int .u8 (((x : Int) + 1) % 256)))
            have HNn := Lib.hid (HN.out.far (p := ⟨g, i, none⟩) (by show gi + 1 ≠ g; omega) (.int .u8 (((x : Int) + 1) % 256)))
            have HTn := Lib.hid (HT.out.set HB.out (.inr ⟨by omega, HFR.out⟩) (by show ¬ (g = gp ∨ g = gfn); omega) (by omega) i (.int .u8 (((x : Int) + 1) % 256)))
            clear hun hcx HB HU HI HN HT
            generalize slotS P j = sn at *
            gi_wp2_with fail
            exact ⟨⟨i + 1, _, by omega, by go_num, HBn.out, HUn.out, HIn.out, HNn.out, HTn.out⟩, by simp [intOf]; omega⟩
          · obtain rfl : i = slotS P j := by omega
            have d1 : decide ((slotS P j : Int) < (slotS P j : Int)) = false := by simp
            have c8 := cell1B HI.out
            have f8 := HI.out.frozen 0
            have HIa := Lib.hid (HI.out.set 0 (.int .i64 ((j : Int) + 1)))
            have HNa := Lib.hid (HN.out.far (p := ⟨gi, 0, none⟩) (by show gi + 1 ≠ gi; omega) (.int .i64 ((j : Int) + 1)))
            have HTa := Lib.hid (HT.out.set HI.out (.inl ⟨.inl rfl, by omega⟩) (by show ¬ (gi = gp ∨ gi = gfn); omega) (by omega) 0 (.int .i64 ((j : Int) + 1)))
            have c9 := cell1B HNa.out
            have f9 := HNa.out.frozen 0
            have HIb := Lib.hid (HIa.out.far (p := ⟨gi + 1, 0, none⟩) (by show gi ≠ gi + 1; omega) (.int .i64 ((c : Int) + 1)))
            have HNb := Lib.hid (HNa.out.set 0 (.int .i64 ((c : Int) + 1)))
            have HTb := Lib.hid (HTa.out.set HNa.out (.inl ⟨.inr rfl, by omega⟩) (by show ¬ (gi + 1 = gp ∨ gi + 1 = gfn); omega) (by omega) 0 (.int .i64 ((c : Int) + 1)))
            have c9' := cell1B HNb.out
            have cM := cell1B (Oth.blk HM5.out HTb.out.oth (by omega) (by omega))
            have HRb := Lib.hid (Oth.blk HR5.out HTb.out.oth (by omega) (by omega))
            have cR := cell1B HRb.out
            have fR := HRb.out.frozen 0
            clear HB HU HI HN HT HIa HNa HTa
            by_cases hm : (c : Int) + 1 = z
            · have e3 : ((c : Int) + 1 == z) = true := by rw [beq_iff_eq]; exact hm
              clear hm
              gi_wp2_with fail
              exact ⟨HTb.out.kf.trans (KeepsFrom.cells (grown_set _ _ _) HRb.out), rfl, HRb.out.set 0 _, HTb.out.ext.setCell (by show _ ≤ w.heap.size + 1 + 1; omega) _⟩
            · have e3 : ((c : Int) + 1 == z) = false := by rw [beq_eq_false_iff_ne]; exact hm
              clear hm
              gi_wp2_with fail
              exact ⟨HTb.out.kf, HTb.out.kp, HIb.out, ⟨c + 1, by omega, HNb.out⟩, HTb.out.oth, HTb.out.ext⟩
  case done =>
    rintro D s W hD ⟨hS1, hS2⟩ ⟨hI, ⟨c, hcs, hN⟩, hO, hE⟩ hK
    have HI := Lib.hid hI
    have HO := Lib.hid hO
    have HE := Lib.hid hE
    have HK := Lib.hid hK
    clear hI hN hO hE hK
    have hpw := HE5.out.size
    cases hr : rightB P with
    | false =>
      rw [hr] at HO5
      have HRw := Lib.hid (Oth.blk HR5.out HO.out (by omega) (by omega))
      have c6 := cell1B (Oth.blk HO5.out HO.out (by omega) (by omega))
      have cR := cell1B HRw.out
      have fR := HRw.out.frozen 0
      clear hS1 hS2 hr
      go_wp2_with fail
      go_loopw [] (fun wr => W = wr) (fun wr => 0)
      case atStart => rfl
      case round =>
        obtain rfl := hrel
        go_wp2_with fail
        have hKs : (W.setCell ⟨w.heap.size + 1 + 1, 0, none⟩ (.bool true)).heap[D]? = some (.deferred (some [])) := (heap_setCell_other _ _ _ _ (by show D ≠ w.heap.size + 1 + 1; omega)).trans HK.out
        exact postM_mark hKs (results_cellB Try.results61 _ _ (w.heap.size + 1 + 1) (.bool true) rfl (load_boolB ((HRw.out.set 0 (.bool true)).mark hKs))) ⟨rfl, (HE.out.setCell (by show _ ≤ w.heap.size + 1 + 1; omega) _).mark (by omega)⟩
    | true =>
      obtain ⟨hs1, hs2⟩ := hS1 hr
      obtain ⟨hn1, hn2⟩ := HSN.out hr
      rw [hr] at HO5
      rw [← hn1] at hs1 hs2
      have HEMP := Lib.hid hs2
      clear hS1 hS2 hr hs2 hn1 hn2
      have hn3 := HSL.out
      go_wp2_with fail
      go_loopw [] (fun wr => ∃ j : Nat, s ≤ j ∧ j ≤ N ∧ Blk wr gi 3 #[.int .i64 (j : Int)] ∧ Oth gi (gi + 1) w5 wr ∧ Ext w wr ∧ wr.heap[D]? = some (.deferred (some []))) (fun wr => N - (intOf ((wr.cell? ⟨gi, 0, none⟩).getD undef)).toNat)
      case atStart => exact ⟨s, Nat.le_refl _, by omega, HI.out, HO.out, HE.out, HK.out⟩
      case round =>
        obtain ⟨j, hsj, hjk, hI, hO, hE, hK⟩ := hrel
        have HIj := Lib.hid hI
        have HOj := Lib.hid hO
        have HEj := Lib.hid hE
        have HKj := Lib.hid hK
        clear hI hO hE hK HI HO HE HK
        have c6 := cell1B (Oth.blk HO5.out HOj.out (by omega) (by omega))
        have c5 := cell1B (Oth.blk HL5.out HOj.out (by omega) (by omega))
        have c8 := cell1B HIj.out
        by_cases hj : j < N
        · obtain ⟨g2, rfl, y0, y1⟩ := HS1.out.at_ (i := j) (by omega)
          have hg2 : g2 < w1.heap.size := block_lt_of_cell y0
          have hgl := HGL.out
          have x1 := (HX5.out.cell y1)
          have x1 := Oth.cell x1 HOj.out (by show g2 ≠ gi; omega) (by show g2 ≠ gi + 1; omega)
          have d1 : decide ((j : Int) < (N : Int)) = true := decide_eq_true (by omega)
          have hs0 : slotS P j = 0 := HEMP.out j hsj (by omega)
          have e1 : ((slotS P j : Int) == 0) = true := by rw [beq_iff_eq]; omega
          have hf8 := HIj.out.frozen 0
          have HBn := Lib.hid (HIj.out.set 0 (.int .i64 ((j : Int) + 1)))
          have HOn := Lib.hid (HOj.out.grow (grown_set wr ⟨gi, 0, none⟩ (.int .i64 ((j : Int) + 1))) (fun r e => by cases e; exact .inl rfl))
          have HEn := Lib.hid (HEj.out.setCell (p := ⟨gi, 0, none⟩) (by show w.heap.size ≤ gi; omega) (.int .i64 ((j : Int) + 1)))
          have HKn := Lib.hid ((heap_setCell_other wr ⟨gi, 0, none⟩ D (.int .i64 ((j : Int) + 1)) (by show D ≠ gi; omega)).trans HKj.out)
          have HME := Lib.hid (cell1B HBn.out)
          clear hs0 HIj HOj HEj HKj y0 y1
          generalize slotS P j = sj at *
          go_wp2_with fail
          have hc8 := c8
          exact ⟨⟨j + 1, by omega, by omega, HBn.out, HOn.out, HEn.out, HKn.out⟩, by rw [HME.out, hc8]; simp [intOf]; omega⟩
        · obtain rfl : j = N := by omega
          have d1 : decide ((j : Int) < (j : Int)) = false := by simp
          have d2 : ((j : Int) == (j : Int)) = true := by simp
          have HRw := Lib.hid (Oth.blk HR5.out HOj.out (by omega) (by omega))
          have cR := cell1B HRw.out
          have fR := HRw.out.frozen 0
          go_wp2_with fail
          have hKs : (wr.setCell ⟨w.heap.size + 1 + 1, 0, none⟩ (.bool true)).heap[D]? = some (.deferred (some [])) := (heap_setCell_other _ _ _ _ (by show D ≠ w.heap.size + 1 + 1; omega)).trans HKj.out
          exact postM_mark hKs (results_cellB Try.results61 _ _ (w.heap.size + 1 + 1) (.bool true) rfl (load_boolB ((HRw.out.set 0 (.bool true)).mark hKs))) ⟨rfl, (HEj.out.setCell (by show _ ≤ w.heap.size + 1 + 1; omega) _).mark (by omega)⟩

end Go.Proofs.Ytgbfeagoadlhmaa

/-
  Contract of law05.looks (by playo.py).
-/
namespace Go.Proofs.Ytgbfeagoadlhmaa
open Go.RowKit Pl

attribute [local go_sem] Oper.semAt_some

set_option maxHeartbeats 8000000 in
set_option maxRecDepth 100000 in
theorem looks_any (w : World) (P : List UInt8) (h : P.length = 1024) (z y : Int) (hz1 : -9223372036854775808 ≤ z) (hz2 : z ≤ 9223372036854775807) (hy1 : -9223372036854775808 ≤ y) (hy2 : y ≤ 9223372036854775807) :
    Calls Try.prog 28 #[.agg (cells8 P), .int .i64 z, .int .i64 y] w fun e w' => e = .returned (.bool true) ∧ Ext w w' := by
  have HPL := Lib.hid h
  have HP0 := Lib.hid (Blk.new w 23 (cells8 P))
  have HE0 := Lib.hid (ext_new w (.cells (cells8 P) 23))
  have KL := Lib.hid (fun W => List_ref W P h)
  have KI := Lib.hid (fun W => Item_pg W P z h hz1 hz2)
  have KI2 := Lib.hid (fun W => Item_ref W P z h hz1 hz2)
  have KR := Lib.hid (fun W => Right_pg W P h)
  have KS := Lib.hid (fun W => Slots_pg W P h)
  have KO := Lib.hid (fun W => Room_pg W P h)
  have KO2 := Lib.hid (fun W => Room_ref W P h)
  have KK := Lib.hid (fun W => Kind_pg W P h)
  have KN := Lib.hid (fun W => LSN_pg W P h)
  have KN2 := Lib.hid (fun W => LSN_ref W P h)
  have KG := Lib.hid (fun W => Good_pg W P h)
  have KG2 := Lib.hid (fun W => Good_ref W P h)
  have KC := Lib.hid (fun W => once_any W P h y hy1 hy2)
  have KC0 := Lib.hid (fun W => once_any W P h 0 (by decide) (by decide))
  have CP12 : Hid (∀ W, Blk W w.heap.size 23 (cells8 P) → W.cell? ⟨w.heap.size, 12, none⟩ = some (.int .u8 (at8 P 12))) := Lib.hid (fun W hb => by rw [hb.cell]; exact cells8_get P 12 (by omega))
  generalize hb8 : at8 P 12 = b12 at *
  generalize itemB P z = L at *
  generalize itemE P z = en at *
  generalize RoomN P = rn at *
  generalize goodB P = gd at *
  generalize num (P.take 8) = ls at *
  unfold ListPost at KL
  generalize slotsN P = sn at *
  generalize rightB P = rb at *
  have e1 : (rb == rb) = true := by simp
  have e2 : (gd == gd) = true := by simp
  go_enter Try.func28, Try.ntmps28
  go_wp2_with (refine wpList_load_row rfl 23 _ rfl _ rfl _ _ _ _ HP0.out Try.pgUnd rfl (pgSize HPL.out) ?_)
  refine (KL.out _).mono ?_
  rintro e w1 ⟨A1, c1, rfl, hs, hE1⟩
  have HP1 := Lib.hid (HP0.out.ext hE1)
  have HE1 := Lib.hid (HE0.out.trans hE1)
  clear hs hE1
  go_wp2_with (refine wpList_load_row rfl 23 _ rfl _ rfl _ _ _ _ HP1.out Try.pgUnd rfl (pgSize HPL.out) ?_)
  refine (KI.out _).mono ?_
  rintro e w2 ⟨v2, rfl, hO2, hE2⟩
  obtain ⟨A9, c9, rfl, hb9, _, _⟩ := hO2.form
  have HB9 := Lib.hid hb9
  have HP2 := Lib.hid (HP1.out.ext hE2)
  have HE2 := Lib.hid (HE1.out.trans hE2)
  clear hO2 hE2 hb9
  go_wp2_with (refine wpList_load_row rfl 23 _ rfl _ rfl _ _ _ _ HP2.out Try.pgUnd rfl (pgSize HPL.out) ?_)
  refine (KI2.out _).mono ?_
  rintro e w3 ⟨v3, rfl, hO3, hE3⟩
  obtain ⟨A11, c11, rfl, hb11, _, _⟩ := hO3.form
  have HB9 := Lib.hid (HB9.out.ext hE3)
  have HB11 := Lib.hid hb11
  have HPa := Lib.hid ((HP2.out.ext hE3).drew)
  have HEa := Lib.hid (((Ext.refl w3).drew))
  have HEw := Lib.hid (HE2.out.trans hE3)
  have HC9 : Hid (∀ W, Ext w3 W → (convert 24 9 (.slice A9 L.length c9)).run Try.prog W = .ok (.string ⟨L.toArray⟩) W) := Lib.hid (fun W hE => str_any (HB9.out.ext hE) c9)
  have HC11 : Hid (∀ W, Ext w3 W → (convert 24 9 (.slice A11 L.length c11)).run Try.prog W = .ok (.string ⟨L.toArray⟩) W) := Lib.hid (fun W hE => str_any (HB11.out.ext hE) c11)
  clear hO3 hE3 hb11 HB9 HB11
  generalize L.length = ln at *
  go_upto_region 4 with fail
  refine wp_eager Ext.pre (n := 62) (by kernel_rfl) (by kernel_rfl) ?_
  refine Eg.batchK Ext.pre (by intro c a d v w h; cases d <;> exact h) (by kernel_rfl) (n := 61) [2] [] _ (by kernel_rfl) (fun K hK => ?_); (simp only [pickOps, List.getElem?_toArray, List.getElem?_cons_zero, List.getElem?_cons_succ, Option.toList_some, List.cons_append, List.nil_append]); (repeat (first | go_big_quiet_step (fail) | quiet_step (fail))); refine wpQuiet_nil (hK _ ?_); clear hK K
  (refine Eg.read Ext.pre (by intro c a d v w h; cases d <;> exact h) (by kernel_rfl) (i := 0) (n := 60) (l := [2]) rfl (by kernel_rfl) (by kernel_rfl) rfl ⟨_, fun w' hR => load_run rfl (load_pg (HPa.out.ext hR) HPL.out), ?_⟩); (simp only [Act.put, List.setIfInBounds_toArray, List.getElem_toArray, List.getElem_cons_succ, List.getElem_cons_zero, List.set_cons_succ, List.set_cons_zero])
  refine Eg.act Ext.pre (i := 1) (n := 59) (l := [2, 0]) rfl (by kernel_rfl) ?_
  go_wp2_with fail
  refine (KR.out _).mono ?_
  rintro e wl1 ⟨rfl, hEwl1⟩
  have HP1 := Lib.hid (HPa.out.ext hEwl1)
  have HE1 := Lib.hid (HEa.out.trans hEwl1)
  go_wp2_with fail
  refine ⟨hEwl1, ?_⟩
  clear hEwl1
  refine Eg.batchK Ext.pre (by intro c a d v w h; cases d <;> exact h) (by kernel_rfl) (n := 55) [3, 4, 7, 8] [2, 0, 1] _ (by kernel_rfl) (fun K hK => ?_); (simp only [pickOps, List.getElem?_toArray, List.getElem?_cons_zero, List.getElem?_cons_succ, Option.toList_some, List.cons_append, List.nil_append]); (repeat (first | go_big_quiet_step (fail) | quiet_step (fail))); refine wpQuiet_nil (hK _ ?_); clear hK K
  (refine Eg.read Ext.pre (by intro c a d v w h; cases d <;> exact h) (by kernel_rfl) (i := 5) (n := 54) (l := [2, 0, 1, 3, 4, 7, 8]) rfl (by kernel_rfl) (by kernel_rfl) rfl ⟨_, fun w' hR => load_run rfl (load_pg (HP1.out.ext hR) HPL.out), ?_⟩); (simp only [Act.put, List.setIfInBounds_toArray, List.getElem_toArray, List.getElem_cons_succ, List.getElem_cons_zero, List.set_cons_succ, List.set_cons_zero])
  refine Eg.act Ext.pre (i := 6) (n := 53) (l := [2, 0, 1, 3, 4, 7, 8, 5]) rfl (by kernel_rfl) ?_
  go_wp2_with fail
  refine (KS.out _).mono ?_
  rintro e wl2 ⟨rfl, hEwl2⟩
  have HP2 := Lib.hid (HP1.out.ext hEwl2)
  have HE2 := Lib.hid (HE1.out.trans hEwl2)
  go_wp2_with fail
  refine ⟨hEwl2, ?_⟩
  clear hEwl2
  refine Eg.batchK Ext.pre (by intro c a d v w h; cases d <;> exact h) (by kernel_rfl) (n := 50) [9, 10, 11] [2, 0, 1, 3, 4, 7, 8, 5, 6] _ (by kernel_rfl) (fun K hK => ?_); (simp only [pickOps, List.getElem?_toArray, List.getElem?_cons_zero, List.getElem?_cons_succ, Option.toList_some, List.cons_append, List.nil_append]); (repeat (first | go_big_quiet_step (fail) | quiet_step (fail))); refine wpQuiet_nil (hK _ ?_); clear hK K
  (refine Eg.read Ext.pre (by intro c a d v w h; cases d <;> exact h) (by kernel_rfl) (i := 12) (n := 49) (l := [2, 0, 1, 3, 4, 7, 8, 5, 6, 9, 10, 11]) rfl (by kernel_rfl) (by kernel_rfl) rfl ⟨_, fun w' hR => load_run rfl (load_pg (HP2.out.ext hR) HPL.out), ?_⟩); (simp only [Act.put, List.setIfInBounds_toArray, List.getElem_toArray, List.getElem_cons_succ, List.getElem_cons_zero, List.set_cons_succ, List.set_cons_zero])
  (refine Eg.read Ext.pre (by intro c a d v w h; cases d <;> exact h) (by kernel_rfl) (i := 14) (n := 48) (l := [2, 0, 1, 3, 4, 7, 8, 5, 6, 9, 10, 11, 12]) rfl (by kernel_rfl) (by kernel_rfl) rfl ⟨_, fun w' hR => load_run rfl (load_pg (HP2.out.ext hR) HPL.out), ?_⟩); (simp only [Act.put, List.setIfInBounds_toArray, List.getElem_toArray, List.getElem_cons_succ, List.getElem_cons_zero, List.set_cons_succ, List.set_cons_zero])
  refine Eg.act Ext.pre (i := 13) (n := 47) (l := [2, 0, 1, 3, 4, 7, 8, 5, 6, 9, 10, 11, 12, 14]) rfl (by kernel_rfl) ?_
  go_wp2_with fail
  refine (KO.out _).mono ?_
  rintro e wl3 ⟨rfl, hEwl3⟩
  have HP3 := Lib.hid (HP2.out.ext hEwl3)
  have HE3 := Lib.hid (HE2.out.trans hEwl3)
  go_wp2_with fail
  refine ⟨hEwl3, ?_⟩
  clear hEwl3
  refine Eg.act Ext.pre (i := 15) (n := 46) (l := [2, 0, 1, 3, 4, 7, 8, 5, 6, 9, 10, 11, 12, 14, 13]) rfl (by kernel_rfl) ?_
  go_wp2_with fail
  refine (KO2.out _).mono ?_
  rintro e wl4 ⟨rfl, hEwl4⟩
  have HP4 := Lib.hid (HP3.out.ext hEwl4)
  have HE4 := Lib.hid (HE3.out.trans hEwl4)
  go_wp2_with fail
  refine ⟨hEwl4, ?_⟩
  clear hEwl4
  refine Eg.batchK Ext.pre (by intro c a d v w h; cases d <;> exact h) (by kernel_rfl) (n := 42) [16, 17, 18, 21] [2, 0, 1, 3, 4, 7, 8, 5, 6, 9, 10, 11, 12, 14, 13, 15] _ (by kernel_rfl) (fun K hK => ?_); (simp only [pickOps, List.getElem?_toArray, List.getElem?_cons_zero, List.getElem?_cons_succ, Option.toList_some, List.cons_append, List.nil_append]); (repeat (first | go_big_quiet_step (fail) | quiet_step (fail))); refine wpQuiet_nil (hK _ ?_); clear hK K
  (refine Eg.read Ext.pre (by intro c a d v w h; cases d <;> exact h) (by kernel_rfl) (i := 19) (n := 41) (l := [2, 0, 1, 3, 4, 7, 8, 5, 6, 9, 10, 11, 12, 14, 13, 15, 16, 17, 18, 21]) rfl (by kernel_rfl) (by kernel_rfl) rfl ⟨_, fun w' hR => load_run rfl (load_pg (HP4.out.ext hR) HPL.out), ?_⟩); (simp only [Act.put, List.setIfInBounds_toArray, List.getElem_toArray, List.getElem_cons_succ, List.getElem_cons_zero, List.set_cons_succ, List.set_cons_zero])
  (refine Eg.read Ext.pre (by intro c a d v w h; cases d <;> exact h) (by kernel_rfl) (i := 22) (n := 40) (l := [2, 0, 1, 3, 4, 7, 8, 5, 6, 9, 10, 11, 12, 14, 13, 15, 16, 17, 18, 21, 19]) rfl (by kernel_rfl) (by kernel_rfl) rfl ⟨_, fun w' hR => load_run rfl (load_u8p ((CP12.out _ (HP4.out.ext hR)))), ?_⟩); (simp only [Act.put, List.setIfInBounds_toArray, List.getElem_toArray, List.getElem_cons_succ, List.getElem_cons_zero, List.set_cons_succ, List.set_cons_zero])
  refine Eg.act Ext.pre (i := 20) (n := 39) (l := [2, 0, 1, 3, 4, 7, 8, 5, 6, 9, 10, 11, 12, 14, 13, 15, 16, 17, 18, 21, 19, 22]) rfl (by kernel_rfl) ?_
  go_wp2_with fail
  refine (KK.out _).mono ?_
  rintro e wl5 ⟨rfl, hEwl5⟩
  have HP5 := Lib.hid (HP4.out.ext hEwl5)
  have HE5 := Lib.hid (HE4.out.trans hEwl5)
  go_wp2_with fail
  refine ⟨hEwl5, ?_⟩
  clear hEwl5
  refine Eg.batchK Ext.pre (by intro c a d v w h; cases d <;> exact h) (by kernel_rfl) (n := 34) [23, 24, 25, 26, 28] [2, 0, 1, 3, 4, 7, 8, 5, 6, 9, 10, 11, 12, 14, 13, 15, 16, 17, 18, 21, 19, 22, 20] _ (by kernel_rfl) (fun K hK => ?_); (simp only [pickOps, List.getElem?_toArray, List.getElem?_cons_zero, List.getElem?_cons_succ, Option.toList_some, List.cons_append, List.nil_append]); (repeat (first | go_big_quiet_step (fail) | quiet_step (fail))); refine wpQuiet_nil (hK _ ?_); clear hK K
  (refine Eg.read Ext.pre (by intro c a d v w h; cases d <;> exact h) (by kernel_rfl) (i := 27) (n := 33) (l := [2, 0, 1, 3, 4, 7, 8, 5, 6, 9, 10, 11, 12, 14, 13, 15, 16, 17, 18, 21, 19, 22, 20, 23, 24, 25, 26, 28]) rfl (by kernel_rfl) (by kernel_rfl) rfl ⟨_, fun w' hR => convert_run rfl (HC9.out w' (HE5.out.trans hR)), ?_⟩); (simp only [Act.put, List.setIfInBounds_toArray, List.getElem_toArray, List.getElem_cons_succ, List.getElem_cons_zero, List.set_cons_succ, List.set_cons_zero])
  (refine Eg.read Ext.pre (by intro c a d v w h; cases d <;> exact h) (by kernel_rfl) (i := 29) (n := 32) (l := [2, 0, 1, 3, 4, 7, 8, 5, 6, 9, 10, 11, 12, 14, 13, 15, 16, 17, 18, 21, 19, 22, 20, 23, 24, 25, 26, 28, 27]) rfl (by kernel_rfl) (by kernel_rfl) rfl ⟨_, fun w' hR => convert_run rfl (HC11.out w' (HE5.out.trans hR)), ?_⟩); (simp only [Act.put, List.setIfInBounds_toArray, List.getElem_toArray, List.getElem_cons_succ, List.getElem_cons_zero, List.set_cons_succ, List.set_cons_zero])
  refine Eg.batchK Ext.pre (by intro c a d v w h; cases d <;> exact h) (by kernel_rfl) (n := 27) [30, 31, 32, 33, 35] [2, 0, 1, 3, 4, 7, 8, 5, 6, 9, 10, 11, 12, 14, 13, 15, 16, 17, 18, 21, 19, 22, 20, 23, 24, 25, 26, 28, 27, 29] _ (by kernel_rfl) (fun K hK => ?_); (simp only [pickOps, List.getElem?_toArray, List.getElem?_cons_zero, List.getElem?_cons_succ, Option.toList_some, List.cons_append, List.nil_append]); (repeat (first | go_big_quiet_step (fail) | quiet_step (fail))); refine wpQuiet_nil (hK _ ?_); clear hK K
  refine Eg.act Ext.pre (i := 34) (n := 26) (l := [2, 0, 1, 3, 4, 7, 8, 5, 6, 9, 10, 11, 12, 14, 13, 15, 16, 17, 18, 21, 19, 22, 20, 23, 24, 25, 26, 28, 27, 29, 30, 31, 32, 33, 35]) rfl (by kernel_rfl) ?_
  go_wp2_with (go_at_call 13; refine (num5_any _ _).mono ?_; rintro e w' ⟨rfl, rfl⟩)
  refine ⟨Ext.refl _, ?_⟩
  refine Eg.batchK Ext.pre (by intro c a d v w h; cases d <;> exact h) (by kernel_rfl) (n := 23) [36, 37, 38] [2, 0, 1, 3, 4, 7, 8, 5, 6, 9, 10, 11, 12, 14, 13, 15, 16, 17, 18, 21, 19, 22, 20, 23, 24, 25, 26, 28, 27, 29, 30, 31, 32, 33, 35, 34] _ (by kernel_rfl) (fun K hK => ?_); (simp only [pickOps, List.getElem?_toArray, List.getElem?_cons_zero, List.getElem?_cons_succ, Option.toList_some, List.cons_append, List.nil_append]); (repeat (first | go_big_quiet_step (fail) | quiet_step (fail))); refine wpQuiet_nil (hK _ ?_); clear hK K
  (refine Eg.read Ext.pre (by intro c a d v w h; cases d <;> exact h) (by kernel_rfl) (i := 39) (n := 22) (l := [2, 0, 1, 3, 4, 7, 8, 5, 6, 9, 10, 11, 12, 14, 13, 15, 16, 17, 18, 21, 19, 22, 20, 23, 24, 25, 26, 28, 27, 29, 30, 31, 32, 33, 35, 34, 36, 37, 38]) rfl (by kernel_rfl) (by kernel_rfl) rfl ⟨_, fun w' hR => load_run rfl (load_pg (HP5.out.ext hR) HPL.out), ?_⟩); (simp only [Act.put, List.setIfInBounds_toArray, List.getElem_toArray, List.getElem_cons_succ, List.getElem_cons_zero, List.set_cons_succ, List.set_cons_zero])
  (refine Eg.read Ext.pre (by intro c a d v w h; cases d <;> exact h) (by kernel_rfl) (i := 41) (n := 21) (l := [2, 0, 1, 3, 4, 7, 8, 5, 6, 9, 10, 11, 12, 14, 13, 15, 16, 17, 18, 21, 19, 22, 20, 23, 24, 25, 26, 28, 27, 29, 30, 31, 32, 33, 35, 34, 36, 37, 38, 39]) rfl (by kernel_rfl) (by kernel_rfl) rfl ⟨_, fun w' hR => load_run rfl (load_pg (HP5.out.ext hR) HPL.out), ?_⟩); (simp only [Act.put, List.setIfInBounds_toArray, List.getElem_toArray, List.getElem_cons_succ, List.getElem_cons_zero, List.set_cons_succ, List.set_cons_zero])
  refine Eg.act Ext.pre (i := 40) (n := 20) (l := [2, 0, 1, 3, 4, 7, 8, 5, 6, 9, 10, 11, 12, 14, 13, 15, 16, 17, 18, 21, 19, 22, 20, 23, 24, 25, 26, 28, 27, 29, 30, 31, 32, 33, 35, 34, 36, 37, 38, 39, 41]) rfl (by kernel_rfl) ?_
  go_wp2_with fail
  refine (KN.out _).mono ?_
  rintro e wl6 ⟨rfl, hEwl6⟩
  have HP6 := Lib.hid (HP5.out.ext hEwl6)
  have HE6 := Lib.hid (HE5.out.trans hEwl6)
  go_wp2_with fail
  refine ⟨hEwl6, ?_⟩
  clear hEwl6
  refine Eg.act Ext.pre (i := 42) (n := 19) (l := [2, 0, 1, 3, 4, 7, 8, 5, 6, 9, 10, 11, 12, 14, 13, 15, 16, 17, 18, 21, 19, 22, 20, 23, 24, 25, 26, 28, 27, 29, 30, 31, 32, 33, 35, 34, 36, 37, 38, 39, 41, 40]) rfl (by kernel_rfl) ?_
  go_wp2_with fail
  refine (KN2.out _).mono ?_
  rintro e wl7 ⟨rfl, hEwl7⟩
  have HP7 := Lib.hid (HP6.out.ext hEwl7)
  have HE7 := Lib.hid (HE6.out.trans hEwl7)
  go_wp2_with fail
  refine ⟨hEwl7, ?_⟩
  clear hEwl7
  refine Eg.batchK Ext.pre (by intro c a d v w h; cases d <;> exact h) (by kernel_rfl) (n := 16) [43, 44, 45] [2, 0, 1, 3, 4, 7, 8, 5, 6, 9, 10, 11, 12, 14, 13, 15, 16, 17, 18, 21, 19, 22, 20, 23, 24, 25, 26, 28, 27, 29, 30, 31, 32, 33, 35, 34, 36, 37, 38, 39, 41, 40, 42] _ (by kernel_rfl) (fun K hK => ?_); (simp only [pickOps, List.getElem?_toArray, List.getElem?_cons_zero, List.getElem?_cons_succ, Option.toList_some, List.cons_append, List.nil_append]); (repeat (first | go_big_quiet_step (fail) | quiet_step (fail))); refine wpQuiet_nil (hK _ ?_); clear hK K
  (refine Eg.read Ext.pre (by intro c a d v w h; cases d <;> exact h) (by kernel_rfl) (i := 46) (n := 15) (l := [2, 0, 1, 3, 4, 7, 8, 5, 6, 9, 10, 11, 12, 14, 13, 15, 16, 17, 18, 21, 19, 22, 20, 23, 24, 25, 26, 28, 27, 29, 30, 31, 32, 33, 35, 34, 36, 37, 38, 39, 41, 40, 42, 43, 44, 45]) rfl (by kernel_rfl) (by kernel_rfl) rfl ⟨_, fun w' hR => load_run rfl (load_pg (HP7.out.ext hR) HPL.out), ?_⟩); (simp only [Act.put, List.setIfInBounds_toArray, List.getElem_toArray, List.getElem_cons_succ, List.getElem_cons_zero, List.set_cons_succ, List.set_cons_zero])
  (refine Eg.read Ext.pre (by intro c a d v w h; cases d <;> exact h) (by kernel_rfl) (i := 48) (n := 14) (l := [2, 0, 1, 3, 4, 7, 8, 5, 6, 9, 10, 11, 12, 14, 13, 15, 16, 17, 18, 21, 19, 22, 20, 23, 24, 25, 26, 28, 27, 29, 30, 31, 32, 33, 35, 34, 36, 37, 38, 39, 41, 40, 42, 43, 44, 45, 46]) rfl (by kernel_rfl) (by kernel_rfl) rfl ⟨_, fun w' hR => load_run rfl (load_pg (HP7.out.ext hR) HPL.out), ?_⟩); (simp only [Act.put, List.setIfInBounds_toArray, List.getElem_toArray, List.getElem_cons_succ, List.getElem_cons_zero, List.set_cons_succ, List.set_cons_zero])
  refine Eg.act Ext.pre (i := 47) (n := 13) (l := [2, 0, 1, 3, 4, 7, 8, 5, 6, 9, 10, 11, 12, 14, 13, 15, 16, 17, 18, 21, 19, 22, 20, 23, 24, 25, 26, 28, 27, 29, 30, 31, 32, 33, 35, 34, 36, 37, 38, 39, 41, 40, 42, 43, 44, 45, 46, 48]) rfl (by kernel_rfl) ?_
  go_wp2_with fail
  refine (KG.out _).mono ?_
  rintro e wl8 ⟨rfl, hEwl8⟩
  have HP8 := Lib.hid (HP7.out.ext hEwl8)
  have HE8 := Lib.hid (HE7.out.trans hEwl8)
  go_wp2_with fail
  refine ⟨hEwl8, ?_⟩
  clear hEwl8
  refine Eg.act Ext.pre (i := 49) (n := 12) (l := [2, 0, 1, 3, 4, 7, 8, 5, 6, 9, 10, 11, 12, 14, 13, 15, 16, 17, 18, 21, 19, 22, 20, 23, 24, 25, 26, 28, 27, 29, 30, 31, 32, 33, 35, 34, 36, 37, 38, 39, 41, 40, 42, 43, 44, 45, 46, 48, 47]) rfl (by kernel_rfl) ?_
  go_wp2_with fail
  refine (KG2.out _).mono ?_
  rintro e wl9 ⟨rfl, hEwl9⟩
  have HP9 := Lib.hid (HP8.out.ext hEwl9)
  have HE9 := Lib.hid (HE8.out.trans hEwl9)
  go_wp2_with fail
  refine ⟨hEwl9, ?_⟩
  clear hEwl9
  refine Eg.batchK Ext.pre (by intro c a d v w h; cases d <;> exact h) (by kernel_rfl) (n := 8) [50, 51, 52, 54] [2, 0, 1, 3, 4, 7, 8, 5, 6, 9, 10, 11, 12, 14, 13, 15, 16, 17, 18, 21, 19, 22, 20, 23, 24, 25, 26, 28, 27, 29, 30, 31, 32, 33, 35, 34, 36, 37, 38, 39, 41, 40, 42, 43, 44, 45, 46, 48, 47, 49] _ (by kernel_rfl) (fun K hK => ?_); (simp only [pickOps, List.getElem?_toArray, List.getElem?_cons_zero, List.getElem?_cons_succ, Option.toList_some, List.cons_append, List.nil_append]); (repeat (first | go_big_quiet_step (fail) | quiet_step (fail))); refine wpQuiet_nil (hK _ ?_); clear hK K
  (refine Eg.read Ext.pre (by intro c a d v w h; cases d <;> exact h) (by kernel_rfl) (i := 53) (n := 7) (l := [2, 0, 1, 3, 4, 7, 8, 5, 6, 9, 10, 11, 12, 14, 13, 15, 16, 17, 18, 21, 19, 22, 20, 23, 24, 25, 26, 28, 27, 29, 30, 31, 32, 33, 35, 34, 36, 37, 38, 39, 41, 40, 42, 43, 44, 45, 46, 48, 47, 49, 50, 51, 52, 54]) rfl (by kernel_rfl) (by kernel_rfl) rfl ⟨_, fun w' hR => load_run rfl (load_pg (HP9.out.ext hR) HPL.out), ?_⟩); (simp only [Act.put, List.setIfInBounds_toArray, List.getElem_toArray, List.getElem_cons_succ, List.getElem_cons_zero, List.set_cons_succ, List.set_cons_zero])
  refine Eg.act Ext.pre (i := 55) (n := 6) (l := [2, 0, 1, 3, 4, 7, 8, 5, 6, 9, 10, 11, 12, 14, 13, 15, 16, 17, 18, 21, 19, 22, 20, 23, 24, 25, 26, 28, 27, 29, 30, 31, 32, 33, 35, 34, 36, 37, 38, 39, 41, 40, 42, 43, 44, 45, 46, 48, 47, 49, 50, 51, 52, 54, 53]) rfl (by kernel_rfl) ?_
  go_wp2_with fail
  refine (KC.out _).mono ?_
  rintro e wl10 ⟨rfl, hEwl10⟩
  have HP10 := Lib.hid (HP9.out.ext hEwl10)
  have HE10 := Lib.hid (HE9.out.trans hEwl10)
  go_wp2_with fail
  refine ⟨hEwl10, ?_⟩
  clear hEwl10
  refine Eg.batchK Ext.pre (by intro c a d v w h; cases d <;> exact h) (by kernel_rfl) (n := 4) [56, 57] [2, 0, 1, 3, 4, 7, 8, 5, 6, 9, 10, 11, 12, 14, 13, 15, 16, 17, 18, 21, 19, 22, 20, 23, 24, 25, 26, 28, 27, 29, 30, 31, 32, 33, 35, 34, 36, 37, 38, 39, 41, 40, 42, 43, 44, 45, 46, 48, 47, 49, 50, 51, 52, 54, 53, 55] _ (by kernel_rfl) (fun K hK => ?_); (simp only [pickOps, List.getElem?_toArray, List.getElem?_cons_zero, List.getElem?_cons_succ, Option.toList_some, List.cons_append, List.nil_append]); (repeat (first | go_big_quiet_step (fail) | quiet_step (fail))); refine wpQuiet_nil (hK _ ?_); clear hK K
  (refine Eg.read Ext.pre (by intro c a d v w h; cases d <;> exact h) (by kernel_rfl) (i := 58) (n := 3) (l := [2, 0, 1, 3, 4, 7, 8, 5, 6, 9, 10, 11, 12, 14, 13, 15, 16, 17, 18, 21, 19, 22, 20, 23, 24, 25, 26, 28, 27, 29, 30, 31, 32, 33, 35, 34, 36, 37, 38, 39, 41, 40, 42, 43, 44, 45, 46, 48, 47, 49, 50, 51, 52, 54, 53, 55, 56, 57]) rfl (by kernel_rfl) (by kernel_rfl) rfl ⟨_, fun w' hR => load_run rfl (load_pg (HP10.out.ext hR) HPL.out), ?_⟩); (simp only [Act.put, List.setIfInBounds_toArray, List.getElem_toArray, List.getElem_cons_succ, List.getElem_cons_zero, List.set_cons_succ, List.set_cons_zero])
  refine Eg.act Ext.pre (i := 59) (n := 2) (l := [2, 0, 1, 3, 4, 7, 8, 5, 6, 9, 10, 11, 12, 14, 13, 15, 16, 17, 18, 21, 19, 22, 20, 23, 24, 25, 26, 28, 27, 29, 30, 31, 32, 33, 35, 34, 36, 37, 38, 39, 41, 40, 42, 43, 44, 45, 46, 48, 47, 49, 50, 51, 52, 54, 53, 55, 56, 57, 58]) rfl (by kernel_rfl) ?_
  go_wp2_with fail
  refine (KC0.out _).mono ?_
  rintro e wl11 ⟨rfl, hEwl11⟩
  have HP11 := Lib.hid (HP10.out.ext hEwl11)
  have HE11 := Lib.hid (HE10.out.trans hEwl11)
  go_wp2_with fail
  refine ⟨hEwl11, ?_⟩
  clear hEwl11
  refine Eg.batchK Ext.pre (by intro c a d v w h; cases d <;> exact h) (by kernel_rfl) (n := 0) [60, 61] [2, 0, 1, 3, 4, 7, 8, 5, 6, 9, 10, 11, 12, 14, 13, 15, 16, 17, 18, 21, 19, 22, 20, 23, 24, 25, 26, 28, 27, 29, 30, 31, 32, 33, 35, 34, 36, 37, 38, 39, 41, 40, 42, 43, 44, 45, 46, 48, 47, 49, 50, 51, 52, 54, 53, 55, 56, 57, 58, 59] _ (by kernel_rfl) (fun K hK => ?_); (simp only [pickOps, List.getElem?_toArray, List.getElem?_cons_zero, List.getElem?_cons_succ, Option.toList_some, List.cons_append, List.nil_append]); (repeat (first | go_big_quiet_step (fail) | quiet_step (fail))); refine wpQuiet_nil (hK _ ?_); clear hK K
  refine Eg.finish (by kernel_rfl) ?_
  go_wp2_with fail
  go_ret
  exact ⟨rfl, HEw.out.trans HE11.out⟩

end Go.Proofs.Ytgbfeagoadlhmaa

/-
  The law PagePlays, walked.
-/
namespace Go.Proofs.Ytgbfeagoadlhmaa
open Go.RowKit Pl

attribute [local go_sem] Oper.semAt_some

/-- a page behind steps -/
def playP (P : List UInt8) (l : List Stp) : List UInt8 := l.foldl doF P
theorem playP_succ (P : List UInt8) (fs : List Stp) (k : Nat) (h : k < fs.length) : playP P (fs.take (k + 1)) = doF (playP P (fs.take k)) (fs.getD k stp0) := by
  unfold playP
  rw [List.take_succ_eq_append_getElem h, List.foldl_append]
  simp [List.getD_eq_getElem?_getD, h]
theorem playP_length {P : List UInt8} (h : P.length = 1024) : ∀ l, (playP P l).length = 1024 := by
  intro l
  induction l generalizing P with
  | nil => exact h
  | cons s l ih => exact ih (doF_length h s)
theorem rawN_small (P : List UInt8) (s : Stp) : rawN P s ≤ 65536 := by
  unfold rawN
  split
  · unfold insN
    split
    · have h1 := emptyN_le P (num2 P 14)
      have h2 := num2_lt P 14
      omega
    · omega
  · omega
theorem oth_pre (gi gn : Nat) : Pre (Oth gi gn) := ⟨Oth.refl gi gn, fun h k => ⟨Nat.le_trans h.1 k.1, fun i hi h1 h2 => (k.2 i (Nat.lt_of_lt_of_le hi h.1) h1 h2).trans (h.2 i hi h1 h2)⟩⟩

set_option maxHeartbeats 8000000 in
set_option maxRecDepth 100000 in
theorem plays_any (w : World) (kd : UInt8) (A : Option Addr) (fs : List Stp) (c : Nat) (y : Int) (hF : Stps w A fs) (hlc : fs.length ≤ c) (hc : c ≤ 9223372036854775807) (hok : ∀ i, i < fs.length → -9223372036854775808 ≤ (fs.getD i stp0).n ∧ (fs.getD i stp0).n ≤ 9223372036854775807 ∧ (fs.getD i stp0).lsn < 18446744073709551616) (hy1 : -9223372036854775808 ≤ y) (hy2 : y ≤ 9223372036854775807) :
    Calls Try.prog 7 #[.int .u8 (kd.toNat : Int), .slice A fs.length c, .int .i64 y] w fun e w' => e = .returned (.bool true) ∧ Ext w w' := by
  have HF := Lib.hid hF
  have KM := Lib.hid (much_any w A fs c 150 hF (by omega) (by omega))
  have HNO : Hid (muchB fs 150 = false → fs.length ≤ 150 ∧ ∀ i, i < fs.length → (fs.getD i stp0).b.length ≤ 60000) := Lib.hid (fun h => much_no h)
  have HOK := Lib.hid hok
  rw [show ((150 : Nat) : Int) = 150 from rfl] at KM
  have hz := (zero_of_info Try.page0).1
  have HZ := Lib.hid zeroP_length
  clear hF hok
  cases hmb : muchB fs 150 with
  | true =>
    rw [hmb] at KM
    clear HNO hmb
    go_enter Try.func7, Try.ntmps7
    go_wp2_with fail
    refine KM.out.mono ?_
    rintro e w1 ⟨rfl, hE1⟩
    go_wp2_with fail
    refine (known5_any w1).mono ?_
    rintro e w2 ⟨rfl, hE2⟩
    go_wp2_with fail
    go_ret
    exact ⟨rfl, hE1.trans hE2⟩
  | false =>
    rw [hmb] at KM
    obtain ⟨hn, hbl⟩ := HNO.out hmb
    have HST : Hid (∀ i, i < fs.length → StpOk (fs.getD i stp0)) := Lib.hid (fun i hi => ⟨(HOK.out i hi).1, (HOK.out i hi).2.1, by have := hbl i hi; omega, (HOK.out i hi).2.2⟩)
    have HRN : Hid (∀ k, (playP (initP kd) (fs.take k)).length = 1024) := Lib.hid (fun k => playP_length (initP_length kd) _)
    have HRS : Hid (∀ k, k < fs.length → playP (initP kd) (fs.take (k + 1)) = doF (playP (initP kd) (fs.take k)) (fs.getD k stp0)) := Lib.hid (fun k hk => playP_succ _ fs k hk)
    have HR0 : Hid (playP (initP kd) (fs.take 0) = initP kd) := Lib.hid rfl
    have HPL0 := Lib.hid (initP_length kd)
    have KI := Lib.hid (fun W => Init_pg W kd)
    have KI2 := Lib.hid (fun W => Init_ref W kd)
    have KLK := Lib.hid (fun W (P : List UInt8) (h : P.length = 1024) (z y : Int) a b c d => looks_any W P h z y a b c d)
    generalize initP kd = P0 at *
    clear HNO hmb HOK hbl
    generalize hln : fs.length = len at *
    generalize zeroP = Z at *
    go_enter Try.func7, Try.ntmps7
    go_wp2_with fail
    refine KM.out.mono ?_
    rintro e w1 ⟨rfl, hE1⟩
    have HE1 := Lib.hid hE1
    clear hE1 KM
    go_wp2_with fail
    refine (KI.out w1).mono ?_
    rintro e w2 ⟨rfl, hE2⟩
    go_wp2_with fail
    refine (KI2.out w2).mono ?_
    rintro e w3 ⟨rfl, hE3⟩
    have hl0 := HPL0.out
    have HE3 := Lib.hid ((HE1.out.trans hE2).trans hE3)
    clear hE2 hE3 HE1
    have hg3 := HE3.out.size
    have HBa := Lib.hid ((Blk.new w3 23 (cells8 Z)).alloc (.cells (cells8 Z) 23))
    have HBb := Lib.hid (Blk.new (w3.alloc (.cells (cells8 Z) 23)) 23 (cells8 Z))
    have HX4 := Lib.hid ((HE3.out.alloc (.cells (cells8 Z) 23)).alloc (.cells (cells8 Z) 23))
    simp only [World.size_alloc] at HBb
    obtain ⟨w4, hw4⟩ : ∃ w4, (w3.alloc (.cells (cells8 Z) 23)).alloc (.cells (cells8 Z) 23) = w4 := ⟨_, rfl⟩
    rw [hw4] at HBa HBb HX4
    have HBa5 := Lib.hid (HBa.out.row (cells8 P0))
    have HBb5 := Lib.hid (HBb.out.rowFar (cells8 P0) (k := w3.heap.size) (by omega))
    have HX5 := Lib.hid (HX4.out.setRow (g := w3.heap.size) hg3 (cells8 P0))
    obtain ⟨w5, hw5⟩ : ∃ w5, w4.setRow w3.heap.size (cells8 P0) = w5 := ⟨_, rfl⟩
    rw [hw5] at HBa5 HBb5 HX5
    have HBa6 := Lib.hid (HBa5.out.rowFar (cells8 P0) (k := w3.heap.size + 1) (by omega))
    have HBb6 := Lib.hid (HBb5.out.row (cells8 P0))
    have HX6 := Lib.hid (HX5.out.setRow (g := w3.heap.size + 1) (by omega) (cells8 P0))
    obtain ⟨w6, hw6⟩ : ∃ w6, w5.setRow (w3.heap.size + 1) (cells8 P0) = w6 := ⟨_, rfl⟩
    rw [hw6] at HBa6 HBb6 HX6
    have hla := load_pg HBa6.out hl0
    have hlb := load_pg HBb6.out hl0
    have hZZ := fun W => neq_self hl0 W
    clear HX4 HX5
    go_upto_region 4 with (first | (refine wpList_store_row rfl 23 _ _ rfl _ _ rfl rfl _ _ HBa.out (pgSize hl0) (by rw [cells8_size, cells8_size, hl0, HZ.out]) (cells8_one _) ?_; rw [hw5]; clear HBa HBb) | (rw [hw4]; refine wpList_store_row rfl 23 _ _ rfl _ _ rfl rfl _ _ HBa.out (pgSize hl0) (by rw [cells8_size, cells8_size, hl0, HZ.out]) (cells8_one _) ?_; rw [hw5]; clear HBa HBb) | (refine wpList_store_row rfl 23 _ _ rfl _ _ rfl rfl _ _ HBb5.out (pgSize hl0) (by rw [cells8_size, cells8_size, hl0, HZ.out]) (cells8_one _) ?_; rw [hw6]; clear HBa5 HBb5))
    clear hw4 hw5 hw6
    generalize w3.heap.size = gp at *
    have hg : w.heap.size ≤ gp := hg3
    have HK6 := Lib.hid (KLK.out w6 P0 hl0 0 y (by decide) (by decide) hy1 hy2)
    go_wp2_with (first | (refine wpList_load_g rfl 23 _ rfl _ rfl _ hla ?_) | (refine wpList_load_g rfl 23 _ rfl _ rfl _ hlb ?_) | (refine wpList_run_g rfl _ (binOp_run_agg Try.pgGuard (b := .neq) rfl rfl rfl (hZZ _)) ?_))
    refine HK6.out.mono ?_
    rintro e w7 ⟨rfl, hE7⟩
    have HBa7 := Lib.hid (HBa6.out.ext hE7)
    have HBb7 := Lib.hid (HBb6.out.ext hE7)
    have HE7 := Lib.hid (HX6.out.trans hE7)
    clear hE7 HBa6 HBb6 HX6 hla hlb hZZ hl0 KI KI2 HK6 HE3
    go_wp2_with fail
    go_loopw [9] (fun i wr => ∃ k : Nat, k ≤ len ∧ i = .int .i64 k ∧ Blk wr gp 23 (cells8 (playP P0 (fs.take k))) ∧ Blk wr (gp + 1) 23 (cells8 (playP P0 (fs.take k))) ∧ Ext w wr) (fun i _ => len - (intOf i).toNat)
    case atStart => exact ⟨0, by omega, rfl, (by rw [HR0.out]; exact HBa7.out), (by rw [HR0.out]; exact HBb7.out), HE7.out⟩
    case round =>
      obtain ⟨k, hk, rfl, hP, hP2, hE⟩ := hrel
      have HP := Lib.hid hP
      have HW := Lib.hid hP2
      have HE := Lib.hid hE
      clear hP hP2 hE HBa7 HBb7 HE7 HR0
      by_cases hlt : k < len
      · have hld : decide ((k : Int) < (len : Int)) = true := by simp; omega
        obtain ⟨g, o, rfl, c0, c1, ⟨Ai, ci, c2, hby, _, _⟩, c3, c4⟩ := (HF.out.ext HE.out).at_ (i := k) (by omega)
        have HSk := Lib.hid (HRS.out k hlt)
        have HOk := Lib.hid (HST.out k hlt)
        have HLS : Hid (∀ W, Ext wr W → (Instr.loadAt 45 (.pointer (some ⟨g, o + k * 5, none⟩))).run Try.prog W = .ok (.agg (stepC (fs.getD k stp0) Ai ci)) W) := Lib.hid (fun W hW => load_stp (hW.cell c0) (hW.cell c1) (hW.cell c2) (hW.cell c3) (hW.cell c4))
        have HBY := Lib.hid hby
        have HC1 := Lib.hid c1
        have HRk := Lib.hid (HRN.out k)
        generalize hsk : fs.getD k stp0 = s at *
        have HQL := Lib.hid (HRN.out (k + 1))
        obtain ⟨Q, hQd⟩ : ∃ Q, playP P0 (fs.take (k + 1)) = Q := ⟨_, rfl⟩
        rw [hQd] at HQL HSk
        have HQD := Lib.hid hQd
        clear hQd hsk c0 c1 c2 c3 c4 hby
        generalize playP P0 (fs.take k) = P at *
        have HKD := Lib.hid (fun W (hW : Ext wr W) => do_all W P HRk.out s Ai ci (HBY.out.ext hW) HOk.out)
        have HKD2 := Lib.hid (fun W (hW : Ext wr W) => Do_all W P HRk.out s Ai ci (HBY.out.ext hW) HOk.out)
        rw [← HSk.out] at HKD HKD2
        have HNB : Hid (-9223372036854775808 ≤ (rawN P s : Int) ∧ (rawN P s : Int) ≤ 9223372036854775807) := Lib.hid (by
          have := rawN_small P s
          omega)
        have HK1 := Lib.hid (fun W => KLK.out W Q HQL.out s.n y HOk.out.n1 HOk.out.n2 hy1 hy2)
        have HK2 := Lib.hid (fun W => KLK.out W Q HQL.out (rawN P s) 0 HNB.out.1 HNB.out.2 (by decide) (by decide))
        have HPl := Lib.hid HP.out.lt
        have HWl := Lib.hid HW.out.lt
        have HSZ := Lib.hid (rfl : wr.heap.size = wr.heap.size)
        go_upto_region 9 with fail
        go_cut [10, 11, 12] from 38 to 89 (fun s5 s6 s7 wx => ∃ gq, s5 = .pointer (some ⟨gq, 0, none⟩) ∧ s6 = .int .i64 (rawN P s : Int) ∧ s7 = .int .i64 (rawE P s : Int) ∧ Blk wx gq 23 (cells8 Q) ∧ wr.heap.size ≤ gq ∧ Ext wr wx)
        case first =>
          have HX := Ext.refl wr.drew
          refine wp_eager (rs_pre 23 wr.drew.heap.size) (n := 14) (by kernel_rfl) (by kernel_rfl) ?_
          refine Eg.batchK (rs_pre 23 wr.drew.heap.size) (by intro c a d v w h; cases d <;> exact h) (by kernel_rfl) (n := 11) [1, 2, 3] [] _ (by kernel_rfl) (fun K hK => ?_); (simp only [pickOps, List.getElem?_toArray, List.getElem?_cons_zero, List.getElem?_cons_succ, Option.toList_some, List.cons_append, List.nil_append]); (repeat (first | go_big_quiet_step (fail) | quiet_step (fail))); refine wpQuiet_nil (hK _ ?_); clear hK K
          (refine Eg.read (rs_pre 23 wr.drew.heap.size) (by intro c a d v w h; cases d <;> exact h) (by kernel_rfl) (i := 0) (n := 10) (l := [1, 2, 3]) rfl (by kernel_rfl) (by kernel_rfl) rfl ⟨_, fun w' hR => load_run rfl (load_pg (HP.out.ext ((Ext.refl wr).drew.trans hR.1)) HRk.out), ?_⟩); (simp only [Act.put, List.setIfInBounds_toArray, List.getElem_toArray, List.getElem_cons_succ, List.getElem_cons_zero, List.set_cons_succ, List.set_cons_zero])
          (refine Eg.read (rs_pre 23 wr.drew.heap.size) (by intro c a d v w h; cases d <;> exact h) (by kernel_rfl) (i := 4) (n := 9) (l := [1, 2, 3, 0]) rfl (by kernel_rfl) (by kernel_rfl) rfl ⟨_, fun w' hR => load_run rfl (HLS.out w' ((Ext.refl wr).drew.trans hR.1)), ?_⟩); (simp only [Act.put, List.setIfInBounds_toArray, List.getElem_toArray, List.getElem_cons_succ, List.getElem_cons_zero, List.set_cons_succ, List.set_cons_zero])
          refine Eg.two ((rs_pre 23 wr.drew.heap.size)) (i := 5) (j := 10) (n := 8) (l := [1, 2, 3, 0, 4]) rfl rfl (by kernel_rfl) ?_ ?_
          · go_wp2_with fail
            refine (HKD.out _ ((Ext.refl wr).drew.trans HX)).mono ?_
            rintro e w9 ⟨rfl, hEc⟩
            go_wp2_with fail
            refine ⟨Rs.of_ext hEc HX.size, ?_⟩
            replace HX := HX.trans hEc
            try replace hBq := hBq.ext hEc
            refine Eg.batchK (rs_pre 23 wr.drew.heap.size) (by intro c a d v w h; cases d <;> exact h) (by kernel_rfl) (n := 4) [6, 7, 8, 9] [1, 2, 3, 0, 4, 5] _ (by kernel_rfl) (fun K hK => ?_); (simp only [pickOps, List.getElem?_toArray, List.getElem?_cons_zero, List.getElem?_cons_succ, Option.toList_some, List.cons_append, List.nil_append]); (repeat (first | go_big_quiet_step (fail) | quiet_step (fail))); refine wpQuiet_nil (hK _ ?_); clear hK K
            refine Eg.act (rs_pre 23 wr.drew.heap.size) (i := 10) (n := 3) (l := [1, 2, 3, 0, 4, 5, 6, 7, 8, 9]) rfl (by kernel_rfl) ?_
            go_wp2_with fail
            generalize hwn : World.alloc _ (.cells (cells8 Z) 23) = wn
            obtain ⟨hBq, hEn⟩ := alloc_facts hwn
            have hgq := HX.size
            first | (refine ⟨Rs.of_ext hEn hgq, ?_⟩) | (replace hEn := ext_drew2 hEn; replace hBq := Blk.drew hBq; refine ⟨Rs.of_ext hEn hgq, ?_⟩)
            replace HX := HX.trans hEn
            clear hwn
            refine Eg.act (rs_pre 23 wr.drew.heap.size) (i := 11) (n := 2) (l := [1, 2, 3, 0, 4, 5, 6, 7, 8, 9, 10]) rfl (by kernel_rfl) ?_
            go_wp2_with (refine wpList_store_row rfl 23 _ _ rfl _ _ rfl rfl _ _ hBq (pgSize HQL.out) (by rw [cells8_size, cells8_size, HQL.out, HZ.out]) (cells8_one _) ?_)
            refine ⟨Rs.setRow hgq hBq _ (by rw [cells8_size, cells8_size, HQL.out, HZ.out]), ?_⟩
            refine Eg.batchK (rs_pre 23 wr.drew.heap.size) (by intro c a d v w h; cases d <;> exact h) (by kernel_rfl) (n := 0) [12, 13] [1, 2, 3, 0, 4, 5, 6, 7, 8, 9, 10, 11] _ (by kernel_rfl) (fun K hK => ?_); (simp only [pickOps, List.getElem?_toArray, List.getElem?_cons_zero, List.getElem?_cons_succ, Option.toList_some, List.cons_append, List.nil_append]); (repeat (first | go_big_quiet_step (fail) | quiet_step (fail))); refine wpQuiet_nil (hK _ ?_); clear hK K
            refine Eg.finish (by kernel_rfl) ?_
            go_wp2_with fail
            go_meet
            exact ⟨_, rfl, rfl, rfl, hBq.row _, hgq, ((Ext.refl wr).drew.trans HX).setRow hgq _⟩
          · go_wp2_with fail
            generalize hwn : World.alloc _ (.cells (cells8 Z) 23) = wn
            obtain ⟨hBq, hEn⟩ := alloc_facts hwn
            have hgq := HX.size
            first | (refine ⟨Rs.of_ext hEn hgq, ?_⟩) | (replace hEn := ext_drew2 hEn; replace hBq := Blk.drew hBq; refine ⟨Rs.of_ext hEn hgq, ?_⟩)
            replace HX := HX.trans hEn
            clear hwn
            refine Eg.act (rs_pre 23 wr.drew.heap.size) (i := 5) (n := 7) (l := [1, 2, 3, 0, 4, 10]) rfl (by kernel_rfl) ?_
            go_wp2_with fail
            refine (HKD.out _ ((Ext.refl wr).drew.trans HX)).mono ?_
            rintro e w9 ⟨rfl, hEc⟩
            go_wp2_with fail
            refine ⟨Rs.of_ext hEc HX.size, ?_⟩
            replace HX := HX.trans hEc
            try replace hBq := hBq.ext hEc
            refine Eg.batchK (rs_pre 23 wr.drew.heap.size) (by intro c a d v w h; cases d <;> exact h) (by kernel_rfl) (n := 3) [6, 7, 8, 9] [1, 2, 3, 0, 4, 10, 5] _ (by kernel_rfl) (fun K hK => ?_); (simp only [pickOps, List.getElem?_toArray, List.getElem?_cons_zero, List.getElem?_cons_succ, Option.toList_some, List.cons_append, List.nil_append]); (repeat (first | go_big_quiet_step (fail) | quiet_step (fail))); refine wpQuiet_nil (hK _ ?_); clear hK K
            refine Eg.act (rs_pre 23 wr.drew.heap.size) (i := 11) (n := 2) (l := [1, 2, 3, 0, 4, 10, 5, 6, 7, 8, 9]) rfl (by kernel_rfl) ?_
            go_wp2_with (refine wpList_store_row rfl 23 _ _ rfl _ _ rfl rfl _ _ hBq (pgSize HQL.out) (by rw [cells8_size, cells8_size, HQL.out, HZ.out]) (cells8_one _) ?_)
            refine ⟨Rs.setRow hgq hBq _ (by rw [cells8_size, cells8_size, HQL.out, HZ.out]), ?_⟩
            refine Eg.batchK (rs_pre 23 wr.drew.heap.size) (by intro c a d v w h; cases d <;> exact h) (by kernel_rfl) (n := 0) [12, 13] [1, 2, 3, 0, 4, 10, 5, 6, 7, 8, 9, 11] _ (by kernel_rfl) (fun K hK => ?_); (simp only [pickOps, List.getElem?_toArray, List.getElem?_cons_zero, List.getElem?_cons_succ, Option.toList_some, List.cons_append, List.nil_append]); (repeat (first | go_big_quiet_step (fail) | quiet_step (fail))); refine wpQuiet_nil (hK _ ?_); clear hK K
            refine Eg.finish (by kernel_rfl) ?_
            go_wp2_with fail
            go_meet
            exact ⟨_, rfl, rfl, rfl, hBq.row _, hgq, ((Ext.refl wr).drew.trans HX).setRow hgq _⟩
        case rest =>
        obtain ⟨gq, rfl, rfl, rfl, hBq, hgp, hEq⟩ := hcut
        obtain ⟨w4, rfl⟩ : ∃ w4 : World, w4 = wc := ⟨_, rfl⟩
        have HBq := Lib.hid hBq
        have HP4 := Lib.hid (HP.out.ext hEq)
        have HW4 := Lib.hid (HW.out.ext hEq)
        have HE4 := Lib.hid hEq
        have HLS4 := Lib.hid (fun W hW => HLS.out W (hEq.trans hW))
        have hql := hBq.lt
        clear hBq hEq HP HW HLS HKD
        go_upto_region 10 with fail
        go_cut [13, 14, 15] from 48 to 89 (fun s5 s6 s7 wx => ∃ gv, s5 = .pointer (some ⟨gv, 0, none⟩) ∧ s6 = .int .i64 (rawN P s : Int) ∧ s7 = .int .i64 (rawE P s : Int) ∧ Blk wx gv 23 (cells8 Q) ∧ w4.heap.size ≤ gv ∧ Ext w4 wx)
        case first =>
          have HX := Ext.refl w4.drew
          refine wp_eager (rs_pre 23 w4.drew.heap.size) (n := 14) (by kernel_rfl) (by kernel_rfl) ?_
          refine Eg.batchK (rs_pre 23 w4.drew.heap.size) (by intro c a d v w h; cases d <;> exact h) (by kernel_rfl) (n := 11) [1, 2, 3] [] _ (by kernel_rfl) (fun K hK => ?_); (simp only [pickOps, List.getElem?_toArray, List.getElem?_cons_zero, List.getElem?_cons_succ, Option.toList_some, List.cons_append, List.nil_append]); (repeat (first | go_big_quiet_step (fail) | quiet_step (fail))); refine wpQuiet_nil (hK _ ?_); clear hK K
          (refine Eg.read (rs_pre 23 w4.drew.heap.size) (by intro c a d v w h; cases d <;> exact h) (by kernel_rfl) (i := 0) (n := 10) (l := [1, 2, 3]) rfl (by kernel_rfl) (by kernel_rfl) rfl ⟨_, fun w' hR => load_run rfl (load_pg (HW4.out.ext ((Ext.refl w4).drew.trans hR.1)) HRk.out), ?_⟩); (simp only [Act.put, List.setIfInBounds_toArray, List.getElem_toArray, List.getElem_cons_succ, List.getElem_cons_zero, List.set_cons_succ, List.set_cons_zero])
          (refine Eg.read (rs_pre 23 w4.drew.heap.size) (by intro c a d v w h; cases d <;> exact h) (by kernel_rfl) (i := 4) (n := 9) (l := [1, 2, 3, 0]) rfl (by kernel_rfl) (by kernel_rfl) rfl ⟨_, fun w' hR => load_run rfl (HLS4.out w' ((Ext.refl w4).drew.trans hR.1)), ?_⟩); (simp only [Act.put, List.setIfInBounds_toArray, List.getElem_toArray, List.getElem_cons_succ, List.getElem_cons_zero, List.set_cons_succ, List.set_cons_zero])
          refine Eg.two ((rs_pre 23 w4.drew.heap.size)) (i := 5) (j := 10) (n := 8) (l := [1, 2, 3, 0, 4]) rfl rfl (by kernel_rfl) ?_ ?_
          · go_wp2_with fail
            refine (HKD2.out _ (HE4.out.trans ((Ext.refl w4).drew.trans HX))).mono ?_
            rintro e w9 ⟨rfl, hEc⟩
            go_wp2_with fail
            refine ⟨Rs.of_ext hEc HX.size, ?_⟩
            replace HX := HX.trans hEc
            try replace hBq := hBq.ext hEc
            refine Eg.batchK (rs_pre 23 w4.drew.heap.size) (by intro c a d v w h; cases d <;> exact h) (by kernel_rfl) (n := 4) [6, 7, 8, 9] [1, 2, 3, 0, 4, 5] _ (by kernel_rfl) (fun K hK => ?_); (simp only [pickOps, List.getElem?_toArray, List.getElem?_cons_zero, List.getElem?_cons_succ, Option.toList_some, List.cons_append, List.nil_append]); (repeat (first | go_big_quiet_step (fail) | quiet_step (fail))); refine wpQuiet_nil (hK _ ?_); clear hK K
            refine Eg.act (rs_pre 23 w4.drew.heap.size) (i := 10) (n := 3) (l := [1, 2, 3, 0, 4, 5, 6, 7, 8, 9]) rfl (by kernel_rfl) ?_
            go_wp2_with fail
            generalize hwn : World.alloc _ (.cells (cells8 Z) 23) = wn
            obtain ⟨hBq, hEn⟩ := alloc_facts hwn
            have hgq := HX.size
            first | (refine ⟨Rs.of_ext hEn hgq, ?_⟩) | (replace hEn := ext_drew2 hEn; replace hBq := Blk.drew hBq; refine ⟨Rs.of_ext hEn hgq, ?_⟩)
            replace HX := HX.trans hEn
            clear hwn
            refine Eg.act (rs_pre 23 w4.drew.heap.size) (i := 11) (n := 2) (l := [1, 2, 3, 0, 4, 5, 6, 7, 8, 9, 10]) rfl (by kernel_rfl) ?_
            go_wp2_with (refine wpList_store_row rfl 23 _ _ rfl _ _ rfl rfl _ _ hBq (pgSize HQL.out) (by rw [cells8_size, cells8_size, HQL.out, HZ.out]) (cells8_one _) ?_)
            refine ⟨Rs.setRow hgq hBq _ (by rw [cells8_size, cells8_size, HQL.out, HZ.out]), ?_⟩
            refine Eg.batchK (rs_pre 23 w4.drew.heap.size) (by intro c a d v w h; cases d <;> exact h) (by kernel_rfl) (n := 0) [12, 13] [1, 2, 3, 0, 4, 5, 6, 7, 8, 9, 10, 11] _ (by kernel_rfl) (fun K hK => ?_); (simp only [pickOps, List.getElem?_toArray, List.getElem?_cons_zero, List.getElem?_cons_succ, Option.toList_some, List.cons_append, List.nil_append]); (repeat (first | go_big_quiet_step (fail) | quiet_step (fail))); refine wpQuiet_nil (hK _ ?_); clear hK K
            refine Eg.finish (by kernel_rfl) ?_
            go_wp2_with fail
            go_meet
            exact ⟨_, rfl, rfl, rfl, hBq.row _, hgq, ((Ext.refl w4).drew.trans HX).setRow hgq _⟩
          · go_wp2_with fail
            generalize hwn : World.alloc _ (.cells (cells8 Z) 23) = wn
            obtain ⟨hBq, hEn⟩ := alloc_facts hwn
            have hgq := HX.size
            first | (refine ⟨Rs.of_ext hEn hgq, ?_⟩) | (replace hEn := ext_drew2 hEn; replace hBq := Blk.drew hBq; refine ⟨Rs.of_ext hEn hgq, ?_⟩)
            replace HX := HX.trans hEn
            clear hwn
            refine Eg.act (rs_pre 23 w4.drew.heap.size) (i := 5) (n := 7) (l := [1, 2, 3, 0, 4, 10]) rfl (by kernel_rfl) ?_
            go_wp2_with fail
            refine (HKD2.out _ (HE4.out.trans ((Ext.refl w4).drew.trans HX))).mono ?_
            rintro e w9 ⟨rfl, hEc⟩
            go_wp2_with fail
            refine ⟨Rs.of_ext hEc HX.size, ?_⟩
            replace HX := HX.trans hEc
            try replace hBq := hBq.ext hEc
            refine Eg.batchK (rs_pre 23 w4.drew.heap.size) (by intro c a d v w h; cases d <;> exact h) (by kernel_rfl) (n := 3) [6, 7, 8, 9] [1, 2, 3, 0, 4, 10, 5] _ (by kernel_rfl) (fun K hK => ?_); (simp only [pickOps, List.getElem?_toArray, List.getElem?_cons_zero, List.getElem?_cons_succ, Option.toList_some, List.cons_append, List.nil_append]); (repeat (first | go_big_quiet_step (fail) | quiet_step (fail))); refine wpQuiet_nil (hK _ ?_); clear hK K
            refine Eg.act (rs_pre 23 w4.drew.heap.size) (i := 11) (n := 2) (l := [1, 2, 3, 0, 4, 10, 5, 6, 7, 8, 9]) rfl (by kernel_rfl) ?_
            go_wp2_with (refine wpList_store_row rfl 23 _ _ rfl _ _ rfl rfl _ _ hBq (pgSize HQL.out) (by rw [cells8_size, cells8_size, HQL.out, HZ.out]) (cells8_one _) ?_)
            refine ⟨Rs.setRow hgq hBq _ (by rw [cells8_size, cells8_size, HQL.out, HZ.out]), ?_⟩
            refine Eg.batchK (rs_pre 23 w4.drew.heap.size) (by intro c a d v w h; cases d <;> exact h) (by kernel_rfl) (n := 0) [12, 13] [1, 2, 3, 0, 4, 10, 5, 6, 7, 8, 9, 11] _ (by kernel_rfl) (fun K hK => ?_); (simp only [pickOps, List.getElem?_toArray, List.getElem?_cons_zero, List.getElem?_cons_succ, Option.toList_some, List.cons_append, List.nil_append]); (repeat (first | go_big_quiet_step (fail) | quiet_step (fail))); refine wpQuiet_nil (hK _ ?_); clear hK K
            refine Eg.finish (by kernel_rfl) ?_
            go_wp2_with fail
            go_meet
            exact ⟨_, rfl, rfl, rfl, hBq.row _, hgq, ((Ext.refl w4).drew.trans HX).setRow hgq _⟩
        case rest =>
        obtain ⟨gv, rfl, rfl, rfl, hBv, hgv, hEv⟩ := hcut
        obtain ⟨w5, rfl⟩ : ∃ w5 : World, w5 = wc := ⟨_, rfl⟩
        have HBv := Lib.hid hBv
        have HBq5 := Lib.hid (HBq.out.ext hEv)
        have HP5 := Lib.hid (HP4.out.ext hEv)
        have HW5 := Lib.hid (HW4.out.ext hEv)
        have HE5 := Lib.hid (HE4.out.trans hEv)
        clear hBv hEv HP4 HW4 HE4 HBq HLS4 HKD2
        have hZZ := fun W => neq_self HQL.out W
        have e2 : ((rawN P s : Int) != (rawN P s : Int)) = false := by simp
        have e3 : ((rawE P s : Int) != (rawE P s : Int)) = false := by simp
        have HN0 : Hid (∀ W, Ext w5 W → (Instr.loadAt 3 (.pointer (some ⟨g, o + k * 5 + 1, none⟩))).run Try.prog W = .ok (.int .i64 s.n) W) := Lib.hid (fun W hW => load_ni ((HE5.out.trans hW).cell HC1.out))
        clear HC1
        obtain ⟨gp2, hgp2⟩ : ∃ q, gp + 1 = q := ⟨_, rfl⟩
        have hPl := HPl.out
        have hWl := HWl.out
        rw [hgp2] at HW5 hWl ⊢
        go_upto_region 11 with fail
        refine wp_eager Ext.pre (n := 30) (by kernel_rfl) (by kernel_rfl) ?_
        (refine Eg.read Ext.pre (by intro c a d v w h; cases d <;> exact h) (by kernel_rfl) (i := 0) (n := 29) (l := []) rfl (by kernel_rfl) (by kernel_rfl) rfl ⟨_, fun w' hR => load_run rfl (load_pg (HBq5.out.ext ((Ext.refl w5).drew.trans hR)) HQL.out), ?_⟩); (simp only [Act.put, List.setIfInBounds_toArray, List.getElem_toArray, List.getElem_cons_succ, List.getElem_cons_zero, List.set_cons_succ, List.set_cons_zero])
        (refine Eg.read Ext.pre (by intro c a d v w h; cases d <;> exact h) (by kernel_rfl) (i := 1) (n := 28) (l := [0]) rfl (by kernel_rfl) (by kernel_rfl) rfl ⟨_, fun w' hR => load_run rfl (load_pg (HBv.out.ext ((Ext.refl w5).drew.trans hR)) HQL.out), ?_⟩); (simp only [Act.put, List.setIfInBounds_toArray, List.getElem_toArray, List.getElem_cons_succ, List.getElem_cons_zero, List.set_cons_succ, List.set_cons_zero])
        refine Eg.act Ext.pre (i := 2) (n := 27) (l := [0, 1]) rfl (by kernel_rfl) ?_
        go_wp2_with (refine wpList_run_g rfl _ (binOp_run_agg Try.pgGuard (b := .neq) rfl rfl rfl (hZZ _)) ?_)
        refine ⟨Ext.refl _, ?_⟩
        refine Eg.batchK Ext.pre (by intro c a d v w h; cases d <;> exact h) (by kernel_rfl) (n := 11) [3, 4, 5, 6, 7, 8, 9, 10, 11, 12, 13, 15, 16, 17, 18, 20] [0, 1, 2] _ (by kernel_rfl) (fun K hK => ?_); (simp only [pickOps, List.getElem?_toArray, List.getElem?_cons_zero, List.getElem?_cons_succ, Option.toList_some, List.cons_append, List.nil_append]); (repeat (first | go_big_quiet_step (fail) | quiet_step (fail))); refine wpQuiet_nil (hK _ ?_); clear hK K
        (refine Eg.read Ext.pre (by intro c a d v w h; cases d <;> exact h) (by kernel_rfl) (i := 14) (n := 10) (l := [0, 1, 2, 3, 4, 5, 6, 7, 8, 9, 10, 11, 12, 13, 15, 16, 17, 18, 20]) rfl (by kernel_rfl) (by kernel_rfl) rfl ⟨_, fun w' hR => load_run rfl (load_pg (HBq5.out.ext ((Ext.refl w5).drew.trans hR)) HQL.out), ?_⟩); (simp only [Act.put, List.setIfInBounds_toArray, List.getElem_toArray, List.getElem_cons_succ, List.getElem_cons_zero, List.set_cons_succ, List.set_cons_zero])
        (refine Eg.read Ext.pre (by intro c a d v w h; cases d <;> exact h) (by kernel_rfl) (i := 19) (n := 9) (l := [0, 1, 2, 3, 4, 5, 6, 7, 8, 9, 10, 11, 12, 13, 15, 16, 17, 18, 20, 14]) rfl (by kernel_rfl) (by kernel_rfl) rfl ⟨_, fun w' hR => load_run rfl (HN0.out w' ((Ext.refl w5).drew.trans hR)), ?_⟩); (simp only [Act.put, List.setIfInBounds_toArray, List.getElem_toArray, List.getElem_cons_succ, List.getElem_cons_zero, List.set_cons_succ, List.set_cons_zero])
        refine Eg.act Ext.pre (i := 21) (n := 8) (l := [0, 1, 2, 3, 4, 5, 6, 7, 8, 9, 10, 11, 12, 13, 15, 16, 17, 18, 20, 14, 19]) rfl (by kernel_rfl) ?_
        go_wp2_with fail
        refine (HK1.out _).mono ?_
        rintro e w6 ⟨rfl, hE6⟩
        have HX6 := Lib.hid ((Ext.refl w5).drew.trans hE6)
        go_wp2_with fail
        refine ⟨hE6, ?_⟩
        clear hE6
        refine Eg.batchK Ext.pre (by intro c a d v w h; cases d <;> exact h) (by kernel_rfl) (n := 4) [22, 23, 24, 26] [0, 1, 2, 3, 4, 5, 6, 7, 8, 9, 10, 11, 12, 13, 15, 16, 17, 18, 20, 14, 19, 21] _ (by kernel_rfl) (fun K hK => ?_); (simp only [pickOps, List.getElem?_toArray, List.getElem?_cons_zero, List.getElem?_cons_succ, Option.toList_some, List.cons_append, List.nil_append]); (repeat (first | go_big_quiet_step (fail) | quiet_step (fail))); refine wpQuiet_nil (hK _ ?_); clear hK K
        (refine Eg.read Ext.pre (by intro c a d v w h; cases d <;> exact h) (by kernel_rfl) (i := 25) (n := 3) (l := [0, 1, 2, 3, 4, 5, 6, 7, 8, 9, 10, 11, 12, 13, 15, 16, 17, 18, 20, 14, 19, 21, 22, 23, 24, 26]) rfl (by kernel_rfl) (by kernel_rfl) rfl ⟨_, fun w' hR => load_run rfl (load_pg (HBq5.out.ext (HX6.out.trans hR)) HQL.out), ?_⟩); (simp only [Act.put, List.setIfInBounds_toArray, List.getElem_toArray, List.getElem_cons_succ, List.getElem_cons_zero, List.set_cons_succ, List.set_cons_zero])
        refine Eg.act Ext.pre (i := 27) (n := 2) (l := [0, 1, 2, 3, 4, 5, 6, 7, 8, 9, 10, 11, 12, 13, 15, 16, 17, 18, 20, 14, 19, 21, 22, 23, 24, 26, 25]) rfl (by kernel_rfl) ?_
        go_wp2_with fail
        refine (HK2.out _).mono ?_
        rintro e w7 ⟨rfl, hE7⟩
        have HX7 := Lib.hid (HX6.out.trans hE7)
        go_wp2_with fail
        refine ⟨hE7, ?_⟩
        clear hE7
        refine Eg.batchK Ext.pre (by intro c a d v w h; cases d <;> exact h) (by kernel_rfl) (n := 0) [28, 29] [0, 1, 2, 3, 4, 5, 6, 7, 8, 9, 10, 11, 12, 13, 15, 16, 17, 18, 20, 14, 19, 21, 22, 23, 24, 26, 25, 27] _ (by kernel_rfl) (fun K hK => ?_); (simp only [pickOps, List.getElem?_toArray, List.getElem?_cons_zero, List.getElem?_cons_succ, Option.toList_some, List.cons_append, List.nil_append]); (repeat (first | go_big_quiet_step (fail) | quiet_step (fail))); refine wpQuiet_nil (hK _ ?_); clear hK K
        refine Eg.finish (by kernel_rfl) ?_
        have HBq7 := Lib.hid (HBq5.out.ext HX7.out)
        have HBv7 := Lib.hid (HBv.out.ext HX7.out)
        have HP7 := Lib.hid (HP5.out.ext HX7.out)
        have HW7 := Lib.hid (HW5.out.ext HX7.out)
        have HE7 := Lib.hid ((HE.out.trans HE5.out).trans HX7.out)
        clear HBq5 HBv HP5 HW5 HE HE5 HX6 HX7 HK1 HK2 HN0 hZZ e2 e3
        go_upto_region 13 with fail
        refine wp_eager (oth_pre gp gp2) (n := 4) (by kernel_rfl) (by kernel_rfl) ?_
        (refine Eg.read (oth_pre gp gp2) (by intro c a d v w h; cases d <;> exact h) (by kernel_rfl) (i := 0) (n := 3) (l := []) rfl (by kernel_rfl) (by kernel_rfl) rfl ⟨_, fun w' hR => load_run rfl (load_pg (Oth.blk HBq7.out.drew hR (by omega) (by omega)) HQL.out), ?_⟩); (simp only [Act.put, List.setIfInBounds_toArray, List.getElem_toArray, List.getElem_cons_succ, List.getElem_cons_zero, List.set_cons_succ, List.set_cons_zero])
        (refine Eg.read (oth_pre gp gp2) (by intro c a d v w h; cases d <;> exact h) (by kernel_rfl) (i := 1) (n := 2) (l := [0]) rfl (by kernel_rfl) (by kernel_rfl) rfl ⟨_, fun w' hR => load_run rfl (load_pg (Oth.blk HBv7.out.drew hR (by omega) (by omega)) HQL.out), ?_⟩); (simp only [Act.put, List.setIfInBounds_toArray, List.getElem_toArray, List.getElem_cons_succ, List.getElem_cons_zero, List.set_cons_succ, List.set_cons_zero])
        refine Eg.act (oth_pre gp gp2) (i := 2) (n := 1) (l := [0, 1]) rfl (by kernel_rfl) ?_
        go_wp2_with (refine wpList_store_row rfl 23 _ _ rfl _ _ rfl rfl _ _ HP7.out.drew (pgSize HQL.out) (by rw [cells8_size, cells8_size, HQL.out, HRk.out]) (cells8_one _) ?_)
        refine ⟨(Oth.refl _ _ _).grow (grown_row _ _ _) (fun r e => by cases e; exact .inl rfl), ?_⟩
        refine Eg.act (oth_pre gp gp2) (i := 3) (n := 0) (l := [0, 1, 2]) rfl (by kernel_rfl) ?_
        go_wp2_with (refine wpList_store_row rfl 23 _ _ rfl _ _ rfl rfl _ _ (HW7.out.drew.rowFar (cells8 Q) (k := gp) (by omega)) (pgSize HQL.out) (by rw [cells8_size, cells8_size, HQL.out, HRk.out]) (cells8_one _) ?_)
        refine ⟨(Oth.refl _ _ _).grow (grown_row _ _ _) (fun r e => by cases e; exact .inr (.inl rfl)), ?_⟩
        refine Eg.finish (by kernel_rfl) ?_
        subst hgp2
        go_wp2_with fail
        exact ⟨⟨k + 1, by omega, by go_num, by rw [HQD.out]; exact (HP7.out.drew.row _).rowFar _ (by omega), by rw [HQD.out]; exact (HW7.out.drew.rowFar _ (by omega)).row _, (HE7.out.drew.setRow hg _).setRow (by omega) _⟩, by simp [intOf]; omega⟩
      · obtain rfl : k = len := by omega
        have hld : decide ((k : Int) < (k : Int)) = false := by simp
        go_wp2_with fail
        refine (known5_any wr).mono ?_
        rintro e w8 ⟨rfl, hE8⟩
        go_wp2_with fail
        go_ret
        exact ⟨rfl, HE.out.trans hE8⟩

end Go.Proofs.Ytgbfeagoadlhmaa
