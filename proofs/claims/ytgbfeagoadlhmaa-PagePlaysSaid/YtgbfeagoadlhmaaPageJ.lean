
/-
  Contract of page.Diff.
-/
import Derived.Test.YtgbfeagoadlhmaaPageI
set_option linter.unusedVariables false
set_option linter.unusedSimpArgs false
namespace Go.Proofs.Ytgbfeagoadlhmaa
open Go.RowKit Pl

theorem load_u8p {w : World} {p : Addr} {x : Int} (h : w.cell? p = some (.int .u8 x)) : (Instr.loadAt 5 (.pointer (some p))).run Try.prog w = .ok (.int .u8 x) w := by
  simp [go_sem, h]

/-- from place L on pages differ from f on, up to t -/
def Df (P Q : List UInt8) (L f t : Nat) : Prop :=
  (f = 1024 ∧ t = 1024 ∨ L ≤ f ∧ f < t ∧ t ≤ 1024 ∧ at8 P f ≠ at8 Q f ∧ at8 P (t - 1) ≠ at8 Q (t - 1)) ∧ ∀ k, L ≤ k → k < 1024 → (k < f ∨ t ≤ k) → at8 P k = at8 Q k
theorem Df.start (P Q : List UInt8) : Df P Q 1024 1024 1024 := ⟨.inl ⟨rfl, rfl⟩, fun k h1 h2 _ => by omega⟩
theorem Df.same {P Q : List UInt8} {j f t : Nat} (h : Df P Q (j + 1) f t) (hs : at8 P j = at8 Q j) : Df P Q j f t := by
  obtain ⟨h1, h2⟩ := h
  refine ⟨?_, fun k a b c => ?_⟩
  · rcases h1 with h1 | ⟨a, b⟩
    · exact .inl h1
    · exact .inr ⟨by omega, b⟩
  · by_cases hk : k = j
    · subst hk; exact hs
    · exact h2 k (by omega) b c
theorem Df.first {P Q : List UInt8} {j t : Nat} (h : Df P Q (j + 1) 1024 t) (hj : j < 1024) (hs : at8 P j ≠ at8 Q j) : Df P Q j j (j + 1) := by
  obtain ⟨h1, h2⟩ := h
  refine ⟨.inr ⟨Nat.le_refl _, by omega, by omega, hs, by simpa using hs⟩, fun k a b c => ?_⟩
  exact h2 k (by omega) b (.inl (by omega))
theorem Df.next {P Q : List UInt8} {j f t : Nat} (h : Df P Q (j + 1) f t) (hf : f ≠ 1024) (hs : at8 P j ≠ at8 Q j) : Df P Q j j t := by
  obtain ⟨h1, h2⟩ := h
  rcases h1 with h1 | ⟨a, b, c, d, e⟩
  · exact absurd h1.1 hf
  · refine ⟨.inr ⟨Nat.le_refl _, by omega, c, hs, e⟩, fun k x y z => ?_⟩
    exact h2 k (by omega) y (by omega)

set_option maxHeartbeats 3200000 in
set_option maxRecDepth 100000 in
theorem Diff_pg (w : World) (P Q : List UInt8) (h : P.length = 1024) (hq : Q.length = 1024) :
    Calls Try.prog 10 #[.agg (cells8 P), .agg (cells8 Q)] w fun e w' => ∃ f t v, Df P Q 12 f t ∧ e = .returned (.tuple #[.int .i64 (f : Int), v]) ∧ Own 5 w' w.heap.size v ((Q.drop f).take (t - f)) ∧ Ext w w' := by
  have HP0 := Lib.hid ((Pg.new w P h).ext (ext_new _ (.cells (cells8 Q) 23)))
  have HQ0 := Lib.hid (Pg.new (w.alloc (.cells (cells8 P) 23)) Q hq)
  rw [World.size_alloc] at HQ0
  have HE0 := Lib.hid (((Ext.refl w).alloc (.cells (cells8 P) 23)).alloc (.cells (cells8 Q) 23))
  generalize hw0 : (w.alloc (.cells (cells8 P) 23)).alloc (.cells (cells8 Q) 23) = w0 at *
  have HS := Lib.hid (Df.start P Q)
  have HPL := Lib.hid h
  have HQL := Lib.hid hq
  clear h hq
  go_enter Try.func10, Try.ntmps10
  go_wp2_with fail
  clear hw0
  go_loopw [6, 7, 8] (fun a b i wr => ∃ f t j : Nat, a = .int .i64 f ∧ b = .int .i64 t ∧ i = .int .i64 ((j : Int) - 1) ∧ 12 ≤ j ∧ j ≤ 1024 ∧ f ≤ 1024 ∧ t ≤ 1024 ∧ Df P Q j f t ∧ Pg wr w.heap.size P ∧ Pg wr (w.heap.size + 1) Q ∧ Ext w wr) (fun _ _ i _ => (intOf i).toNat)
  case atStart => exact ⟨1024, 1024, 1024, rfl, rfl, rfl, by omega, by omega, by omega, by omega, HS.out, HP0.out, HQ0.out, HE0.out⟩
  case round =>
    obtain ⟨f, t, j, rfl, rfl, rfl, hj1, hj2, hf1, ht1, hD, hP, hQ, hE⟩ := hrel
    have HD := Lib.hid hD
    have HP := Lib.hid hP
    have HQ := Lib.hid hQ
    have HE := Lib.hid hE
    by_cases hj : j = 12
    · subst hj
      by_cases hf : f = 1024
      · subst hf
        clear hD hP hQ hE
        go_wp2_with fail
        go_ret2
        refine ⟨1024, t, _, HD.out, rfl, ?_, HE.out⟩
        rw [List.drop_of_length_le (by rw [HQL.out]; omega), List.take_nil]
        exact Own.nil _ _ _
      · have hfb : ((f : Int) == 1024) = false := by rw [beq_eq_false_iff_ne]; omega
        have hft : f < t := by
          rcases hD.1 with h1 | h1
          · exact absurd h1.1 hf
          · exact h1.2.1
        have hsl := fun W => slice_pg (w.heap.size + 1) f t (by omega) ht1 (by omega) W
        have hlen := hQ.sub_len f (t - f) (by omega)
        have hby := hQ.by_ f (t - f) (by omega)
        generalize hL : (Q.drop f).take (t - f) = L at *
        have HL := Lib.hid hL
        have hBj := Bys.one (c := 1024 - f) hby (by rw [hlen]; omega) 24
        have KJ := Lib.hid (join_any _ [L] 1 (by simp) (by simp [hlen]; omega) _ hBj)
        rw [hlen, show [L].flatten = L by simp, show [L].length = 1 from rfl] at KJ
        clear hBj hby hL hD hP hQ hE hf
        go_wp2_with fail
        refine KJ.out.mono ?_
        rintro e w3 ⟨v, rfl, hO, hE3⟩
        go_wp2_with fail
        go_ret2
        refine ⟨f, t, v, HD.out, rfl, ?_, (HE.out.alloc _).trans hE3⟩
        rw [HL.out]
        exact hO.down (by have := HE.out.size; simp; omega)
    · obtain ⟨i, rfl⟩ : ∃ i, j = i + 1 := ⟨j - 1, by omega⟩
      rw [show ((i + 1 : Nat) : Int) - 1 = (i : Int) by omega] at *
      have hid : decide ((12 : Int) ≤ (i : Int)) = true := by simp; omega
      have hcP : wr.drew.cell? ⟨w.heap.size, i, none⟩ = some (.int .u8 (at8 P i)) := by show wr.cell? _ = _; rw [hP.blk.cell]; exact cells8_get P i (by rw [HPL.out]; omega)
      have hcQ : wr.drew.cell? ⟨w.heap.size + 1, i, none⟩ = some (.int .u8 (at8 Q i)) := by show wr.cell? _ = _; rw [hQ.blk.cell]; exact cells8_get Q i (by rw [HQL.out]; omega)
      clear hD hP hQ hE
      by_cases hs : at8 P i = at8 Q i
      · have HN := Lib.hid (HD.out.same hs)
        have hsb : (at8 P i == at8 Q i) = true := by rw [beq_iff_eq]; exact hs
        clear hs
        generalize at8 P i = x at *
        generalize at8 Q i = y at *
        go_wp2_with fail
        refine wp_eager Ext.pre (n := 7) (by kernel_rfl) (by kernel_rfl) ?_
        refine Eg.batchK Ext.pre (by intro c a d v w h; cases d <;> exact h) (by kernel_rfl) (n := 3) [0, 1, 3, 4] [] _ (by kernel_rfl) (fun K hK => ?_); (simp only [pickOps, List.getElem?_toArray, List.getElem?_cons_zero, List.getElem?_cons_succ, Option.toList_some, List.cons_append, List.nil_append]); (repeat (first | go_big_quiet_step (fail) | quiet_step (fail))); refine wpQuiet_nil (hK _ ?_); clear hK K
        (refine Eg.read Ext.pre (by intro c a d v w h; cases d <;> exact h) (by kernel_rfl) (i := 2) (n := 2) (l := [0, 1, 3, 4]) rfl (by kernel_rfl) (by kernel_rfl) rfl ⟨_, fun w' hR => load_run rfl (load_u8p (hR.cell hcP)), ?_⟩); (simp only [Act.put, List.setIfInBounds_toArray, List.getElem_toArray, List.getElem_cons_succ, List.getElem_cons_zero, List.set_cons_succ, List.set_cons_zero])
        (refine Eg.read Ext.pre (by intro c a d v w h; cases d <;> exact h) (by kernel_rfl) (i := 5) (n := 1) (l := [0, 1, 3, 4, 2]) rfl (by kernel_rfl) (by kernel_rfl) rfl ⟨_, fun w' hR => load_run rfl (load_u8p (hR.cell hcQ)), ?_⟩); (simp only [Act.put, List.setIfInBounds_toArray, List.getElem_toArray, List.getElem_cons_succ, List.getElem_cons_zero, List.set_cons_succ, List.set_cons_zero])
        refine Eg.batchK Ext.pre (by intro c a d v w h; cases d <;> exact h) (by kernel_rfl) (n := 0) [6] [0, 1, 3, 4, 2, 5] _ (by kernel_rfl) (fun K hK => ?_); (simp only [pickOps, List.getElem?_toArray, List.getElem?_cons_zero, List.getElem?_cons_succ, Option.toList_some, List.cons_append, List.nil_append]); (repeat (first | go_big_quiet_step (fail) | quiet_step (fail))); refine wpQuiet_nil (hK _ ?_); clear hK K
        refine Eg.finish (by kernel_rfl) ?_
        go_wp2_with fail
        exact ⟨⟨f, t, i, rfl, rfl, rfl, by omega, by omega, hf1, ht1, HN.out, ⟨HP.out.blk.drew, HP.out.len⟩, ⟨HQ.out.blk.drew, HQ.out.len⟩, HE.out.drew⟩, by simp [intOf]; omega⟩
      · have hsb : (at8 P i == at8 Q i) = false := by rw [beq_eq_false_iff_ne]; exact hs
        by_cases hf : f = 1024
        · subst hf
          have HN := Lib.hid (HD.out.first (by omega) hs)
          clear hs
          generalize at8 P i = x at *
          generalize at8 Q i = y at *
          go_wp2_with fail
          refine wp_eager Ext.pre (n := 7) (by kernel_rfl) (by kernel_rfl) ?_
          refine Eg.batchK Ext.pre (by intro c a d v w h; cases d <;> exact h) (by kernel_rfl) (n := 3) [0, 1, 3, 4] [] _ (by kernel_rfl) (fun K hK => ?_); (simp only [pickOps, List.getElem?_toArray, List.getElem?_cons_zero, List.getElem?_cons_succ, Option.toList_some, List.cons_append, List.nil_append]); (repeat (first | go_big_quiet_step (fail) | quiet_step (fail))); refine wpQuiet_nil (hK _ ?_); clear hK K
          (refine Eg.read Ext.pre (by intro c a d v w h; cases d <;> exact h) (by kernel_rfl) (i := 2) (n := 2) (l := [0, 1, 3, 4]) rfl (by kernel_rfl) (by kernel_rfl) rfl ⟨_, fun w' hR => load_run rfl (load_u8p (hR.cell hcP)), ?_⟩); (simp only [Act.put, List.setIfInBounds_toArray, List.getElem_toArray, List.getElem_cons_succ, List.getElem_cons_zero, List.set_cons_succ, List.set_cons_zero])
          (refine Eg.read Ext.pre (by intro c a d v w h; cases d <;> exact h) (by kernel_rfl) (i := 5) (n := 1) (l := [0, 1, 3, 4, 2]) rfl (by kernel_rfl) (by kernel_rfl) rfl ⟨_, fun w' hR => load_run rfl (load_u8p (hR.cell hcQ)), ?_⟩); (simp only [Act.put, List.setIfInBounds_toArray, List.getElem_toArray, List.getElem_cons_succ, List.getElem_cons_zero, List.set_cons_succ, List.set_cons_zero])
          refine Eg.batchK Ext.pre (by intro c a d v w h; cases d <;> exact h) (by kernel_rfl) (n := 0) [6] [0, 1, 3, 4, 2, 5] _ (by kernel_rfl) (fun K hK => ?_); (simp only [pickOps, List.getElem?_toArray, List.getElem?_cons_zero, List.getElem?_cons_succ, Option.toList_some, List.cons_append, List.nil_append]); (repeat (first | go_big_quiet_step (fail) | quiet_step (fail))); refine wpQuiet_nil (hK _ ?_); clear hK K
          refine Eg.finish (by kernel_rfl) ?_
          go_wp2_with fail
          exact ⟨⟨i, i + 1, i, rfl, by go_num, rfl, by omega, by omega, by omega, by omega, HN.out, ⟨HP.out.blk.drew, HP.out.len⟩, ⟨HQ.out.blk.drew, HQ.out.len⟩, HE.out.drew⟩, by simp [intOf]; omega⟩
        · have HN := Lib.hid (HD.out.next hf hs)
          have hfb : ((f : Int) == 1024) = false := by rw [beq_eq_false_iff_ne]; omega
          clear hs hf
          generalize at8 P i = x at *
          generalize at8 Q i = y at *
          go_wp2_with fail
          refine wp_eager Ext.pre (n := 7) (by kernel_rfl) (by kernel_rfl) ?_
          refine Eg.batchK Ext.pre (by intro c a d v w h; cases d <;> exact h) (by kernel_rfl) (n := 3) [0, 1, 3, 4] [] _ (by kernel_rfl) (fun K hK => ?_); (simp only [pickOps, List.getElem?_toArray, List.getElem?_cons_zero, List.getElem?_cons_succ, Option.toList_some, List.cons_append, List.nil_append]); (repeat (first | go_big_quiet_step (fail) | quiet_step (fail))); refine wpQuiet_nil (hK _ ?_); clear hK K
          (refine Eg.read Ext.pre (by intro c a d v w h; cases d <;> exact h) (by kernel_rfl) (i := 2) (n := 2) (l := [0, 1, 3, 4]) rfl (by kernel_rfl) (by kernel_rfl) rfl ⟨_, fun w' hR => load_run rfl (load_u8p (hR.cell hcP)), ?_⟩); (simp only [Act.put, List.setIfInBounds_toArray, List.getElem_toArray, List.getElem_cons_succ, List.getElem_cons_zero, List.set_cons_succ, List.set_cons_zero])
          (refine Eg.read Ext.pre (by intro c a d v w h; cases d <;> exact h) (by kernel_rfl) (i := 5) (n := 1) (l := [0, 1, 3, 4, 2]) rfl (by kernel_rfl) (by kernel_rfl) rfl ⟨_, fun w' hR => load_run rfl (load_u8p (hR.cell hcQ)), ?_⟩); (simp only [Act.put, List.setIfInBounds_toArray, List.getElem_toArray, List.getElem_cons_succ, List.getElem_cons_zero, List.set_cons_succ, List.set_cons_zero])
          refine Eg.batchK Ext.pre (by intro c a d v w h; cases d <;> exact h) (by kernel_rfl) (n := 0) [6] [0, 1, 3, 4, 2, 5] _ (by kernel_rfl) (fun K hK => ?_); (simp only [pickOps, List.getElem?_toArray, List.getElem?_cons_zero, List.getElem?_cons_succ, Option.toList_some, List.cons_append, List.nil_append]); (repeat (first | go_big_quiet_step (fail) | quiet_step (fail))); refine wpQuiet_nil (hK _ ?_); clear hK K
          refine Eg.finish (by kernel_rfl) ?_
          go_wp2_with fail
          exact ⟨⟨i, t, i, rfl, rfl, rfl, by omega, by omega, by omega, ht1, HN.out, ⟨HP.out.blk.drew, HP.out.len⟩, ⟨HQ.out.blk.drew, HQ.out.len⟩, HE.out.drew⟩, by simp [intOf]; omega⟩

end Go.Proofs.Ytgbfeagoadlhmaa
