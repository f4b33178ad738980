/-
  The walk of WireKeeps.
-/
import Derived.Test.YtojgjmkkcadabaaKeepsA
import Derived.Test.YtojgjmkkcadabaaKeepsP
set_option linter.unusedVariables false
set_option linter.unusedSimpArgs false
namespace Go.Proofs.Ytojgjmkkcadabaa
open Go.RowKit Pl

theorem load_i64 {w : World} {p : Addr} {n : Int} (h : w.cell? p = some (.int .i64 n)) : (Instr.loadAt 3 (.pointer (some p))).run Try.prog w = .ok (.int .i64 n) w := by
  simp [go_sem, h]
theorem load_u64 {w : World} {p : Addr} {n : Int} (h : w.cell? p = some (.int .u64 n)) : (Instr.loadAt 22 (.pointer (some p))).run Try.prog w = .ok (.int .u64 n) w := by
  simp [go_sem, h]

theorem encs_take (fs : List Fld) (j : Nat) (h : j < fs.length) : encs (fs.take (j + 1)) = encs (fs.take j) ++ encF (fs.getD j fld0) := by
  unfold encs
  rw [List.take_succ_eq_append_getElem h, List.map_append, List.flatten_append]
  simp [List.getD_eq_getElem?_getD, h]
theorem encF_len (f : Fld) (h : okF f) : (encF f).length ≤ 3002 := by
  unfold encF
  by_cases hz : f.size = 0
  · rw [if_pos hz, blob_length]; have := h.1; omega
  · rw [if_neg hz, put_length]
    obtain ⟨k, hk, h1, h8, _⟩ := room_true (h.2 hz)
    rw [hk]; simp; omega
theorem okF_take (fs : List Fld) (j : Nat) (h : j < fs.length) (h1 : ∀ f ∈ fs.take j, okF f) (h2 : okF (fs.getD j fld0)) : ∀ f ∈ fs.take (j + 1), okF f := by
  rw [List.take_succ_eq_append_getElem h]
  intro f hf
  rcases List.mem_append.1 hf with hf | hf
  · exact h1 f hf
  · simp at hf
    subst hf
    simpa [List.getD_eq_getElem?_getD, h] using h2

def KRel (w : World) (A : Option Addr) (fs : List Fld) (n : Nat) (row i : Value) (wr : World) : Prop :=
  ∃ j : Nat, j ≤ n ∧ j ≤ 101 ∧ i = .int .i64 j ∧ Own 5 wr w.heap.size row (encs (fs.take j)) ∧ (∀ f ∈ fs.take j, okF f) ∧ (encs (fs.take j)).length ≤ j * 3002 ∧ Ext w wr

set_option maxHeartbeats 8000000 in
set_option maxRecDepth 100000 in
theorem keepsl_any (A : Option Addr) (fs : List Fld) (c : Nat) (hc : fs.length ≤ c) (hc' : c ≤ 9223372036854775807) (w : World) (hF : Flds w A fs) (hnum : ∀ i, i < fs.length → (fs.getD i fld0).n < 18446744073709551616) :
    Calls Try.prog 6 #[.slice A fs.length c] w fun e w' => e = .returned (.bool true) ∧ Ext w w' := by
  generalize hn : fs.length = n at *
  have HN := Lib.hid hn
  have HF := Lib.hid hF
  have HM := Lib.hid hnum
  clear hn hF hnum
  go_enter Try.func6, Try.ntmps6
  go_wp2_with (go_at_call 18; refine (known_any _).mono ?_; rintro e w0 ⟨rfl, hE0⟩)
  go_loopw [3, 4] (fun row i wr => KRel w A fs n row i wr) (fun _ i _ => n - (intOf i).toNat)
  case atStart => exact ⟨0, Nat.zero_le _, Nat.zero_le _, rfl, by rw [List.take_zero]; exact Own.nil _ _ _, by simp, by simp [encs], hE0⟩
  case round =>
    obtain ⟨j, hj, hj1, rfl, hO, hok, hlen, hE⟩ := hrel
    by_cases hlt : j < n
    · have HT := Lib.hid (encs_take fs j (by rw [HN.out]; exact hlt))
      have HOK := Lib.hid (okF_take fs j (by rw [HN.out]; exact hlt) hok)
      obtain ⟨b, o, rfl, c0, c1, Ai, ci, c2, hby, hci, hci'⟩ := (HF.out.ext hE).at_ (i := j) (by rw [HN.out]; exact hlt)
      have hfn := HM.out j hlt
      generalize hf : fs.getD j fld0 = f at *
      obtain ⟨fn, fz, fb⟩ := f
      dsimp only at *
      have HBY := Lib.hid hby
      clear hf hby
      have HTH := hE.drew
      have hsz := hE.size
      by_cases h100 : 100 < j
      · have g1 : decide (100 < (j : Int)) = true := by simp; omega
        go_wp2_with fail
        refine wp_eager Ext.pre (n := 33) (by kernel_rfl) (by kernel_rfl) ?_
        refine Eg.batchK Ext.pre (by intro c a d v w h; cases d <;> exact h) (by kernel_rfl) (n := 26) [0, 1, 2, 3, 4, 5, 6] [] _ (by kernel_rfl) (fun K hK => ?_); (simp only [pickOps, List.getElem?_toArray, List.getElem?_cons_zero, List.getElem?_cons_succ, Option.toList_some, List.cons_append, List.nil_append]); (repeat (first | go_big_quiet_step (fail) | quiet_step (fail))); refine wpQuiet_nil (hK _ ?_); clear hK K
        (refine Eg.skip Ext.pre (by intro c a d v w h; cases d <;> exact h) (by kernel_rfl) (i := 7) (n := 25) (l := [0, 1, 2, 3, 4, 5, 6]) rfl (by kernel_rfl) (by kernel_rfl) rfl ?_); (simp only [Act.put, List.setIfInBounds_toArray, List.getElem_toArray, List.getElem_cons_succ, List.getElem_cons_zero, List.set_cons_succ, List.set_cons_zero])
        refine Eg.batchK Ext.pre (by intro c a d v w h; cases d <;> exact h) (by kernel_rfl) (n := 17) [8, 9, 10, 11, 12, 13, 14, 15] [0, 1, 2, 3, 4, 5, 6, 7] _ (by kernel_rfl) (fun K hK => ?_); (simp only [pickOps, List.getElem?_toArray, List.getElem?_cons_zero, List.getElem?_cons_succ, Option.toList_some, List.cons_append, List.nil_append]); (repeat (first | go_big_quiet_step (fail) | quiet_step (fail))); refine wpQuiet_nil (hK _ ?_); clear hK K
        (refine Eg.skip Ext.pre (by intro c a d v w h; cases d <;> exact h) (by kernel_rfl) (i := 16) (n := 16) (l := [0, 1, 2, 3, 4, 5, 6, 7, 8, 9, 10, 11, 12, 13, 14, 15]) rfl (by kernel_rfl) (by kernel_rfl) rfl ?_); (simp only [Act.put, List.setIfInBounds_toArray, List.getElem_toArray, List.getElem_cons_succ, List.getElem_cons_zero, List.set_cons_succ, List.set_cons_zero])
        refine Eg.batchK Ext.pre (by intro c a d v w h; cases d <;> exact h) (by kernel_rfl) (n := 6) [17, 18, 19, 20, 21, 22, 24, 25, 26, 27] [0, 1, 2, 3, 4, 5, 6, 7, 8, 9, 10, 11, 12, 13, 14, 15, 16] _ (by kernel_rfl) (fun K hK => ?_); (simp only [pickOps, List.getElem?_toArray, List.getElem?_cons_zero, List.getElem?_cons_succ, Option.toList_some, List.cons_append, List.nil_append]); (repeat (first | go_big_quiet_step (fail) | quiet_step (fail))); refine wpQuiet_nil (hK _ ?_); clear hK K
        (refine Eg.skip Ext.pre (by intro c a d v w h; cases d <;> exact h) (by kernel_rfl) (i := 23) (n := 5) (l := [0, 1, 2, 3, 4, 5, 6, 7, 8, 9, 10, 11, 12, 13, 14, 15, 16, 17, 18, 19, 20, 21, 22, 24, 25, 26, 27]) rfl (by kernel_rfl) (by kernel_rfl) rfl ?_); (simp only [Act.put, List.setIfInBounds_toArray, List.getElem_toArray, List.getElem_cons_succ, List.getElem_cons_zero, List.set_cons_succ, List.set_cons_zero])
        (refine Eg.skip Ext.pre (by intro c a d v w h; cases d <;> exact h) (by kernel_rfl) (i := 28) (n := 4) (l := [0, 1, 2, 3, 4, 5, 6, 7, 8, 9, 10, 11, 12, 13, 14, 15, 16, 17, 18, 19, 20, 21, 22, 24, 25, 26, 27, 23]) rfl (by kernel_rfl) (by kernel_rfl) rfl ?_); (simp only [Act.put, List.setIfInBounds_toArray, List.getElem_toArray, List.getElem_cons_succ, List.getElem_cons_zero, List.set_cons_succ, List.set_cons_zero])
        refine Eg.act Ext.pre (i := 29) (n := 3) (l := [0, 1, 2, 3, 4, 5, 6, 7, 8, 9, 10, 11, 12, 13, 14, 15, 16, 17, 18, 19, 20, 21, 22, 24, 25, 26, 27, 23, 28]) rfl (by kernel_rfl) ?_
        refine wpList_step (fun K hK => ?_)
        go_simp
        refine hK _ _ ?_
        clear hK K
        refine wpList_nil ?_
        refine ⟨Ext.pre.refl _, ?_⟩
        refine Eg.batchK Ext.pre (by intro c a d v w h; cases d <;> exact h) (by kernel_rfl) (n := 0) [30, 31, 32] [0, 1, 2, 3, 4, 5, 6, 7, 8, 9, 10, 11, 12, 13, 14, 15, 16, 17, 18, 19, 20, 21, 22, 24, 25, 26, 27, 23, 28, 29] _ (by kernel_rfl) (fun K hK => ?_); (simp only [pickOps, List.getElem?_toArray, List.getElem?_cons_zero, List.getElem?_cons_succ, Option.toList_some, List.cons_append, List.nil_append]); (repeat (first | go_big_quiet_step (fail) | quiet_step (fail))); refine wpQuiet_nil (hK _ ?_); clear hK K
        refine Eg.finish (by kernel_rfl) ?_
        go_wp2
        go_ret
        exact ⟨rfl, HTH⟩
      have g1 : decide (100 < (j : Int)) = false := by simp; omega
      by_cases h3000 : 3000 < fb.length
      · have g2 : decide (3000 < (fb.length : Int)) = true := by simp; omega
        go_wp2_with fail
        refine wp_eager Ext.pre (n := 33) (by kernel_rfl) (by kernel_rfl) ?_
        refine Eg.batchK Ext.pre (by intro c a d v w h; cases d <;> exact h) (by kernel_rfl) (n := 26) [0, 1, 2, 3, 4, 5, 6] [] _ (by kernel_rfl) (fun K hK => ?_); (simp only [pickOps, List.getElem?_toArray, List.getElem?_cons_zero, List.getElem?_cons_succ, Option.toList_some, List.cons_append, List.nil_append]); (repeat (first | go_big_quiet_step (fail) | quiet_step (fail))); refine wpQuiet_nil (hK _ ?_); clear hK K
        (refine Eg.read Ext.pre (by intro c a d v w h; cases d <;> exact h) (by kernel_rfl) (i := 7) (n := 25) (l := [0, 1, 2, 3, 4, 5, 6]) rfl (by kernel_rfl) (by kernel_rfl) rfl ⟨_, fun w' hR => load_run rfl (load_slk (((Ext.refl wr).drew.trans hR).cell c2)), ?_⟩); (simp only [Act.put, List.setIfInBounds_toArray])
        refine Eg.batchK Ext.pre (by intro c a d v w h; cases d <;> exact h) (by kernel_rfl) (n := 17) [8, 9, 10, 11, 12, 13, 14, 15] [0, 1, 2, 3, 4, 5, 6, 7] _ (by kernel_rfl) (fun K hK => ?_); (simp only [pickOps, List.getElem?_toArray, List.getElem?_cons_zero, List.getElem?_cons_succ, Option.toList_some, List.cons_append, List.nil_append]); (repeat (first | go_big_quiet_step (fail) | quiet_step (fail))); refine wpQuiet_nil (hK _ ?_); clear hK K
        (refine Eg.skip Ext.pre (by intro c a d v w h; cases d <;> exact h) (by kernel_rfl) (i := 16) (n := 16) (l := [0, 1, 2, 3, 4, 5, 6, 7, 8, 9, 10, 11, 12, 13, 14, 15]) rfl (by kernel_rfl) (by kernel_rfl) rfl ?_); (simp only [Act.put, List.setIfInBounds_toArray, List.getElem_toArray, List.getElem_cons_succ, List.getElem_cons_zero, List.set_cons_succ, List.set_cons_zero])
        refine Eg.batchK Ext.pre (by intro c a d v w h; cases d <;> exact h) (by kernel_rfl) (n := 6) [17, 18, 19, 20, 21, 22, 24, 25, 26, 27] [0, 1, 2, 3, 4, 5, 6, 7, 8, 9, 10, 11, 12, 13, 14, 15, 16] _ (by kernel_rfl) (fun K hK => ?_); (simp only [pickOps, List.getElem?_toArray, List.getElem?_cons_zero, List.getElem?_cons_succ, Option.toList_some, List.cons_append, List.nil_append]); (repeat (first | go_big_quiet_step (fail) | quiet_step (fail))); refine wpQuiet_nil (hK _ ?_); clear hK K
        (refine Eg.skip Ext.pre (by intro c a d v w h; cases d <;> exact h) (by kernel_rfl) (i := 23) (n := 5) (l := [0, 1, 2, 3, 4, 5, 6, 7, 8, 9, 10, 11, 12, 13, 14, 15, 16, 17, 18, 19, 20, 21, 22, 24, 25, 26, 27]) rfl (by kernel_rfl) (by kernel_rfl) rfl ?_); (simp only [Act.put, List.setIfInBounds_toArray, List.getElem_toArray, List.getElem_cons_succ, List.getElem_cons_zero, List.set_cons_succ, List.set_cons_zero])
        (refine Eg.skip Ext.pre (by intro c a d v w h; cases d <;> exact h) (by kernel_rfl) (i := 28) (n := 4) (l := [0, 1, 2, 3, 4, 5, 6, 7, 8, 9, 10, 11, 12, 13, 14, 15, 16, 17, 18, 19, 20, 21, 22, 24, 25, 26, 27, 23]) rfl (by kernel_rfl) (by kernel_rfl) rfl ?_); (simp only [Act.put, List.setIfInBounds_toArray, List.getElem_toArray, List.getElem_cons_succ, List.getElem_cons_zero, List.set_cons_succ, List.set_cons_zero])
        refine Eg.act Ext.pre (i := 29) (n := 3) (l := [0, 1, 2, 3, 4, 5, 6, 7, 8, 9, 10, 11, 12, 13, 14, 15, 16, 17, 18, 19, 20, 21, 22, 24, 25, 26, 27, 23, 28]) rfl (by kernel_rfl) ?_
        refine wpList_step (fun K hK => ?_)
        go_simp
        refine hK _ _ ?_
        clear hK K
        refine wpList_nil ?_
        refine ⟨Ext.pre.refl _, ?_⟩
        refine Eg.batchK Ext.pre (by intro c a d v w h; cases d <;> exact h) (by kernel_rfl) (n := 0) [30, 31, 32] [0, 1, 2, 3, 4, 5, 6, 7, 8, 9, 10, 11, 12, 13, 14, 15, 16, 17, 18, 19, 20, 21, 22, 24, 25, 26, 27, 23, 28, 29] _ (by kernel_rfl) (fun K hK => ?_); (simp only [pickOps, List.getElem?_toArray, List.getElem?_cons_zero, List.getElem?_cons_succ, Option.toList_some, List.cons_append, List.nil_append]); (repeat (first | go_big_quiet_step (fail) | quiet_step (fail))); refine wpQuiet_nil (hK _ ?_); clear hK K
        refine Eg.finish (by kernel_rfl) ?_
        go_wp2
        go_ret
        exact ⟨rfl, HTH⟩
      have g2 : decide (3000 < (fb.length : Int)) = false := by simp; omega
      have HB1 := Lib.hid (blob_yes Ai fb ci (by omega) hci wr.drew HBY.out.drew)
      generalize hfl : fb.length = m at *
      have HFL := Lib.hid hfl
      obtain ⟨Ar, cr, rfl, hbr, hcr, hcr'⟩ := hO.form
      have HOr := Lib.hid hO
      have HBR := Lib.hid hbr
      generalize hEn : encs (fs.take j) = E at *
      have HEn := Lib.hid hEn
      have hcr2 : cr ≤ 9223372036854775807 := by unfold maxLen at hcr'; omega
      clear hfl hO hEn hbr hcr'
      by_cases hz : fz = 0
      · subst hz
        have HEF : Hid (encF ⟨fn, 0, fb⟩ = blob fb) := rfl
        have hokf : okF ⟨fn, 0, fb⟩ := ⟨by show fb.length ≤ 3000; rw [HFL.out]; omega, fun h => absurd rfl h⟩
        have HOF := Lib.hid hokf
        clear hokf
        go_wp2_with fail
        refine wp_eager Ext.pre (n := 33) (by kernel_rfl) (by kernel_rfl) ?_
        refine Eg.batchK Ext.pre (by intro c a d v w h; cases d <;> exact h) (by kernel_rfl) (n := 26) [0, 1, 2, 3, 4, 5, 6] [] _ (by kernel_rfl) (fun K hK => ?_); (simp only [pickOps, List.getElem?_toArray, List.getElem?_cons_zero, List.getElem?_cons_succ, Option.toList_some, List.cons_append, List.nil_append]); (repeat (first | go_big_quiet_step (fail) | quiet_step (fail))); refine wpQuiet_nil (hK _ ?_); clear hK K
        (refine Eg.read Ext.pre (by intro c a d v w h; cases d <;> exact h) (by kernel_rfl) (i := 7) (n := 25) (l := [0, 1, 2, 3, 4, 5, 6]) rfl (by kernel_rfl) (by kernel_rfl) rfl ⟨_, fun w' hR => load_run rfl (load_slk (((Ext.refl wr).drew.trans hR).cell c2)), ?_⟩); (simp only [Act.put, List.setIfInBounds_toArray])
        refine Eg.batchK Ext.pre (by intro c a d v w h; cases d <;> exact h) (by kernel_rfl) (n := 17) [8, 9, 10, 11, 12, 13, 14, 15] [0, 1, 2, 3, 4, 5, 6, 7] _ (by kernel_rfl) (fun K hK => ?_); (simp only [pickOps, List.getElem?_toArray, List.getElem?_cons_zero, List.getElem?_cons_succ, Option.toList_some, List.cons_append, List.nil_append]); (repeat (first | go_big_quiet_step (fail) | quiet_step (fail))); refine wpQuiet_nil (hK _ ?_); clear hK K
        (refine Eg.read Ext.pre (by intro c a d v w h; cases d <;> exact h) (by kernel_rfl) (i := 16) (n := 16) (l := [0, 1, 2, 3, 4, 5, 6, 7, 8, 9, 10, 11, 12, 13, 14, 15]) rfl (by kernel_rfl) (by kernel_rfl) rfl ⟨_, fun w' hR => load_run rfl (load_i64 (((Ext.refl wr).drew.trans hR).cell c1)), ?_⟩); (simp only [Act.put, List.setIfInBounds_toArray])
        refine Eg.batchK Ext.pre (by intro c a d v w h; cases d <;> exact h) (by kernel_rfl) (n := 6) [17, 18, 19, 20, 21, 22, 24, 25, 26, 27] [0, 1, 2, 3, 4, 5, 6, 7, 8, 9, 10, 11, 12, 13, 14, 15, 16] _ (by kernel_rfl) (fun K hK => ?_); (simp only [pickOps, List.getElem?_toArray, List.getElem?_cons_zero, List.getElem?_cons_succ, Option.toList_some, List.cons_append, List.nil_append]); (repeat (first | go_big_quiet_step (fail) | quiet_step (fail))); refine wpQuiet_nil (hK _ ?_); clear hK K
        (refine Eg.skip Ext.pre (by intro c a d v w h; cases d <;> exact h) (by kernel_rfl) (i := 23) (n := 5) (l := [0, 1, 2, 3, 4, 5, 6, 7, 8, 9, 10, 11, 12, 13, 14, 15, 16, 17, 18, 19, 20, 21, 22, 24, 25, 26, 27]) rfl (by kernel_rfl) (by kernel_rfl) rfl ?_); (simp only [Act.put, List.setIfInBounds_toArray, List.getElem_toArray, List.getElem_cons_succ, List.getElem_cons_zero, List.set_cons_succ, List.set_cons_zero])
        (refine Eg.skip Ext.pre (by intro c a d v w h; cases d <;> exact h) (by kernel_rfl) (i := 28) (n := 4) (l := [0, 1, 2, 3, 4, 5, 6, 7, 8, 9, 10, 11, 12, 13, 14, 15, 16, 17, 18, 19, 20, 21, 22, 24, 25, 26, 27, 23]) rfl (by kernel_rfl) (by kernel_rfl) rfl ?_); (simp only [Act.put, List.setIfInBounds_toArray, List.getElem_toArray, List.getElem_cons_succ, List.getElem_cons_zero, List.set_cons_succ, List.set_cons_zero])
        refine Eg.act Ext.pre (i := 29) (n := 3) (l := [0, 1, 2, 3, 4, 5, 6, 7, 8, 9, 10, 11, 12, 13, 14, 15, 16, 17, 18, 19, 20, 21, 22, 24, 25, 26, 27, 23, 28]) rfl (by kernel_rfl) ?_
        refine wpList_step (fun K hK => ?_)
        go_simp
        refine hK _ _ ?_
        clear hK K
        refine wpList_nil ?_
        refine ⟨Ext.pre.refl _, ?_⟩
        refine Eg.batchK Ext.pre (by intro c a d v w h; cases d <;> exact h) (by kernel_rfl) (n := 0) [30, 31, 32] [0, 1, 2, 3, 4, 5, 6, 7, 8, 9, 10, 11, 12, 13, 14, 15, 16, 17, 18, 19, 20, 21, 22, 24, 25, 26, 27, 23, 28, 29] _ (by kernel_rfl) (fun K hK => ?_); (simp only [pickOps, List.getElem?_toArray, List.getElem?_cons_zero, List.getElem?_cons_succ, Option.toList_some, List.cons_append, List.nil_append]); (repeat (first | go_big_quiet_step (fail) | quiet_step (fail))); refine wpQuiet_nil (hK _ ?_); clear hK K
        refine Eg.finish (by kernel_rfl) ?_
        have d2 := (Ext.refl wr).drew.cell c2
        go_wp2_with fail
        refine HB1.out.mono ?_
        rintro e w1 ⟨v, rfl, hO1, hE1⟩
        have d1 := hE1.cell ((Ext.refl wr).drew.cell c1)
        obtain ⟨Av, cv, rfl, hbv, hcv, hcv'⟩ := hO1.form
        have hcv2 : cv ≤ 9223372036854775807 := by unfold maxLen at hcv'; omega
        have HBV := Lib.hid hbv
        have hbl : (blob fb).length = m + 2 := by rw [blob_length, HFL.out]
        have HJ := Lib.hid (Bys.two (HBR.out.ext ((Ext.refl wr).drew.trans hE1)) hcr hbv hcv 23)
        rw [hbl] at HJ hcv ⊢
        clear hO1 hbv hbl hcv' d2 c0 c1 c2
        have HE1 := Lib.hid hE1
        clear hE1
        go_wp2_with (go_at_call 17; refine (num_any _ _).mono ?_; rintro e w' ⟨rfl, rfl⟩)
        refine (join_any _ [E, blob fb] 2 (by simp) (by simp [blob_length, HFL.out]; omega) _ HJ.out).mono ?_
        rintro e w2 ⟨v2, rfl, hO2, hE2⟩
        have hO3 : Own 5 w2 w.heap.size v2 (encs (fs.take (j + 1))) := by
          rw [HT.out, HEF.out]
          have h := hO2.down (B' := w.heap.size) (by have := HE1.out.size; simp at this ⊢; omega)
          simpa using h
        have HO3 := Lib.hid hO3
        have HE3 : Hid (Ext w w2) := ((hE.drew.trans HE1.out).alloc _).trans hE2
        clear hO2 hO3 hE2
        go_wp2_with fail
        refine ⟨⟨j + 1, by omega, by omega, by go_num, HO3.out, HOK.out HOF.out, ?_, HE3.out⟩, by simp [intOf]; omega⟩
        rw [HT.out, List.length_append]
        have := encF_len _ HOF.out
        omega
      · have g3 : (fz != 0) = true := by simpa using hz
        have HRM := Lib.hid (fun W => room_any fn hfn fz W)
        cases hr : roomB fn fz with
        | false =>
          rw [hr] at HRM
          clear hr
          go_wp2_with fail
          refine wp_eager Ext.pre (n := 33) (by kernel_rfl) (by kernel_rfl) ?_
          refine Eg.batchK Ext.pre (by intro c a d v w h; cases d <;> exact h) (by kernel_rfl) (n := 26) [0, 1, 2, 3, 4, 5, 6] [] _ (by kernel_rfl) (fun K hK => ?_); (simp only [pickOps, List.getElem?_toArray, List.getElem?_cons_zero, List.getElem?_cons_succ, Option.toList_some, List.cons_append, List.nil_append]); (repeat (first | go_big_quiet_step (fail) | quiet_step (fail))); refine wpQuiet_nil (hK _ ?_); clear hK K
          (refine Eg.read Ext.pre (by intro c a d v w h; cases d <;> exact h) (by kernel_rfl) (i := 7) (n := 25) (l := [0, 1, 2, 3, 4, 5, 6]) rfl (by kernel_rfl) (by kernel_rfl) rfl ⟨_, fun w' hR => load_run rfl (load_slk (((Ext.refl wr).drew.trans hR).cell c2)), ?_⟩); (simp only [Act.put, List.setIfInBounds_toArray])
          refine Eg.batchK Ext.pre (by intro c a d v w h; cases d <;> exact h) (by kernel_rfl) (n := 17) [8, 9, 10, 11, 12, 13, 14, 15] [0, 1, 2, 3, 4, 5, 6, 7] _ (by kernel_rfl) (fun K hK => ?_); (simp only [pickOps, List.getElem?_toArray, List.getElem?_cons_zero, List.getElem?_cons_succ, Option.toList_some, List.cons_append, List.nil_append]); (repeat (first | go_big_quiet_step (fail) | quiet_step (fail))); refine wpQuiet_nil (hK _ ?_); clear hK K
          (refine Eg.read Ext.pre (by intro c a d v w h; cases d <;> exact h) (by kernel_rfl) (i := 16) (n := 16) (l := [0, 1, 2, 3, 4, 5, 6, 7, 8, 9, 10, 11, 12, 13, 14, 15]) rfl (by kernel_rfl) (by kernel_rfl) rfl ⟨_, fun w' hR => load_run rfl (load_i64 (((Ext.refl wr).drew.trans hR).cell c1)), ?_⟩); (simp only [Act.put, List.setIfInBounds_toArray])
          refine Eg.batchK Ext.pre (by intro c a d v w h; cases d <;> exact h) (by kernel_rfl) (n := 6) [17, 18, 19, 20, 21, 22, 24, 25, 26, 27] [0, 1, 2, 3, 4, 5, 6, 7, 8, 9, 10, 11, 12, 13, 14, 15, 16] _ (by kernel_rfl) (fun K hK => ?_); (simp only [pickOps, List.getElem?_toArray, List.getElem?_cons_zero, List.getElem?_cons_succ, Option.toList_some, List.cons_append, List.nil_append]); (repeat (first | go_big_quiet_step (fail) | quiet_step (fail))); refine wpQuiet_nil (hK _ ?_); clear hK K
          (refine Eg.read Ext.pre (by intro c a d v w h; cases d <;> exact h) (by kernel_rfl) (i := 23) (n := 5) (l := [0, 1, 2, 3, 4, 5, 6, 7, 8, 9, 10, 11, 12, 13, 14, 15, 16, 17, 18, 19, 20, 21, 22, 24, 25, 26, 27]) rfl (by kernel_rfl) (by kernel_rfl) rfl ⟨_, fun w' hR => load_run rfl (load_u64 (((Ext.refl wr).drew.trans hR).cell c0)), ?_⟩); (simp only [Act.put, List.setIfInBounds_toArray])
          (refine Eg.read Ext.pre (by intro c a d v w h; cases d <;> exact h) (by kernel_rfl) (i := 28) (n := 4) (l := [0, 1, 2, 3, 4, 5, 6, 7, 8, 9, 10, 11, 12, 13, 14, 15, 16, 17, 18, 19, 20, 21, 22, 24, 25, 26, 27, 23]) rfl (by kernel_rfl) (by kernel_rfl) rfl ⟨_, fun w' hR => load_run rfl (load_i64 (((Ext.refl wr).drew.trans hR).cell c1)), ?_⟩); (simp only [Act.put, List.setIfInBounds_toArray])
          refine Eg.act Ext.pre (i := 29) (n := 3) (l := [0, 1, 2, 3, 4, 5, 6, 7, 8, 9, 10, 11, 12, 13, 14, 15, 16, 17, 18, 19, 20, 21, 22, 24, 25, 26, 27, 23, 28]) rfl (by kernel_rfl) ?_
          go_wp2_with fail
          refine (HRM.out _).mono ?_
          rintro e w3 ⟨rfl, rfl⟩
          go_wp2_with fail
          refine ⟨Ext.refl _, ?_⟩
          refine Eg.batchK Ext.pre (by intro c a d v w h; cases d <;> exact h) (by kernel_rfl) (n := 0) [30, 31, 32] [0, 1, 2, 3, 4, 5, 6, 7, 8, 9, 10, 11, 12, 13, 14, 15, 16, 17, 18, 19, 20, 21, 22, 24, 25, 26, 27, 23, 28, 29] _ (by kernel_rfl) (fun K hK => ?_); (simp only [pickOps, List.getElem?_toArray, List.getElem?_cons_zero, List.getElem?_cons_succ, Option.toList_some, List.cons_append, List.nil_append]); (repeat (first | go_big_quiet_step (fail) | quiet_step (fail))); refine wpQuiet_nil (hK _ ?_); clear hK K
          refine Eg.finish (by kernel_rfl) ?_
          go_wp2
          go_ret
          exact ⟨rfl, HTH⟩
        | true =>
          rw [hr] at HRM
          have hokf : okF ⟨fn, fz, fb⟩ := ⟨by show fb.length ≤ 3000; rw [HFL.out]; omega, fun _ => hr⟩
          have HEF : Hid (encF ⟨fn, fz, fb⟩ = put fn fz.toNat) := by unfold encF; rw [if_neg hz]; rfl
          have HOF := Lib.hid hokf
          obtain ⟨k, rfl, hk1, hk8, hkn⟩ := room_true hr
          rw [Int.toNat_natCast] at HEF
          have HP := Lib.hid (fun W => put_yes fn k hkn hk1 hk8 W)
          clear hr hokf hz hkn
          go_wp2_with fail
          refine wp_eager Ext.pre (n := 33) (by kernel_rfl) (by kernel_rfl) ?_
          refine Eg.batchK Ext.pre (by intro c a d v w h; cases d <;> exact h) (by kernel_rfl) (n := 26) [0, 1, 2, 3, 4, 5, 6] [] _ (by kernel_rfl) (fun K hK => ?_); (simp only [pickOps, List.getElem?_toArray, List.getElem?_cons_zero, List.getElem?_cons_succ, Option.toList_some, List.cons_append, List.nil_append]); (repeat (first | go_big_quiet_step (fail) | quiet_step (fail))); refine wpQuiet_nil (hK _ ?_); clear hK K
          (refine Eg.read Ext.pre (by intro c a d v w h; cases d <;> exact h) (by kernel_rfl) (i := 7) (n := 25) (l := [0, 1, 2, 3, 4, 5, 6]) rfl (by kernel_rfl) (by kernel_rfl) rfl ⟨_, fun w' hR => load_run rfl (load_slk (((Ext.refl wr).drew.trans hR).cell c2)), ?_⟩); (simp only [Act.put, List.setIfInBounds_toArray])
          refine Eg.batchK Ext.pre (by intro c a d v w h; cases d <;> exact h) (by kernel_rfl) (n := 17) [8, 9, 10, 11, 12, 13, 14, 15] [0, 1, 2, 3, 4, 5, 6, 7] _ (by kernel_rfl) (fun K hK => ?_); (simp only [pickOps, List.getElem?_toArray, List.getElem?_cons_zero, List.getElem?_cons_succ, Option.toList_some, List.cons_append, List.nil_append]); (repeat (first | go_big_quiet_step (fail) | quiet_step (fail))); refine wpQuiet_nil (hK _ ?_); clear hK K
          (refine Eg.read Ext.pre (by intro c a d v w h; cases d <;> exact h) (by kernel_rfl) (i := 16) (n := 16) (l := [0, 1, 2, 3, 4, 5, 6, 7, 8, 9, 10, 11, 12, 13, 14, 15]) rfl (by kernel_rfl) (by kernel_rfl) rfl ⟨_, fun w' hR => load_run rfl (load_i64 (((Ext.refl wr).drew.trans hR).cell c1)), ?_⟩); (simp only [Act.put, List.setIfInBounds_toArray])
          refine Eg.batchK Ext.pre (by intro c a d v w h; cases d <;> exact h) (by kernel_rfl) (n := 6) [17, 18, 19, 20, 21, 22, 24, 25, 26, 27] [0, 1, 2, 3, 4, 5, 6, 7, 8, 9, 10, 11, 12, 13, 14, 15, 16] _ (by kernel_rfl) (fun K hK => ?_); (simp only [pickOps, List.getElem?_toArray, List.getElem?_cons_zero, List.getElem?_cons_succ, Option.toList_some, List.cons_append, List.nil_append]); (repeat (first | go_big_quiet_step (fail) | quiet_step (fail))); refine wpQuiet_nil (hK _ ?_); clear hK K
          (refine Eg.read Ext.pre (by intro c a d v w h; cases d <;> exact h) (by kernel_rfl) (i := 23) (n := 5) (l := [0, 1, 2, 3, 4, 5, 6, 7, 8, 9, 10, 11, 12, 13, 14, 15, 16, 17, 18, 19, 20, 21, 22, 24, 25, 26, 27]) rfl (by kernel_rfl) (by kernel_rfl) rfl ⟨_, fun w' hR => load_run rfl (load_u64 (((Ext.refl wr).drew.trans hR).cell c0)), ?_⟩); (simp only [Act.put, List.setIfInBounds_toArray])
          (refine Eg.read Ext.pre (by intro c a d v w h; cases d <;> exact h) (by kernel_rfl) (i := 28) (n := 4) (l := [0, 1, 2, 3, 4, 5, 6, 7, 8, 9, 10, 11, 12, 13, 14, 15, 16, 17, 18, 19, 20, 21, 22, 24, 25, 26, 27, 23]) rfl (by kernel_rfl) (by kernel_rfl) rfl ⟨_, fun w' hR => load_run rfl (load_i64 (((Ext.refl wr).drew.trans hR).cell c1)), ?_⟩); (simp only [Act.put, List.setIfInBounds_toArray])
          refine Eg.act Ext.pre (i := 29) (n := 3) (l := [0, 1, 2, 3, 4, 5, 6, 7, 8, 9, 10, 11, 12, 13, 14, 15, 16, 17, 18, 19, 20, 21, 22, 24, 25, 26, 27, 23, 28]) rfl (by kernel_rfl) ?_
          go_wp2_with fail
          refine (HRM.out _).mono ?_
          rintro e w3 ⟨rfl, rfl⟩
          go_wp2_with fail
          refine ⟨Ext.refl _, ?_⟩
          refine Eg.batchK Ext.pre (by intro c a d v w h; cases d <;> exact h) (by kernel_rfl) (n := 0) [30, 31, 32] [0, 1, 2, 3, 4, 5, 6, 7, 8, 9, 10, 11, 12, 13, 14, 15, 16, 17, 18, 19, 20, 21, 22, 24, 25, 26, 27, 23, 28, 29] _ (by kernel_rfl) (fun K hK => ?_); (simp only [pickOps, List.getElem?_toArray, List.getElem?_cons_zero, List.getElem?_cons_succ, Option.toList_some, List.cons_append, List.nil_append]); (repeat (first | go_big_quiet_step (fail) | quiet_step (fail))); refine wpQuiet_nil (hK _ ?_); clear hK K
          refine Eg.finish (by kernel_rfl) ?_
          have d2 := (Ext.refl wr).drew.cell c2
          go_wp2_with fail
          refine HB1.out.mono ?_
          rintro e w1 ⟨v, rfl, hO1, hE1⟩
          have d0 := hE1.cell ((Ext.refl wr).drew.cell c0)
          have d1 := hE1.cell ((Ext.refl wr).drew.cell c1)
          have HE1 := Lib.hid hE1
          clear hO1 hE1 d2 c0 c1 c2
          go_wp2_with fail
          refine wp_eager Ext.pre (n := 16) (by kernel_rfl) (by kernel_rfl) ?_
          refine Eg.batchK Ext.pre (by intro c a d v w h; cases d <;> exact h) (by kernel_rfl) (n := 8) [0, 1, 2, 3, 5, 6, 7, 8] [] _ (by kernel_rfl) (fun K hK => ?_); (simp only [pickOps, List.getElem?_toArray, List.getElem?_cons_zero, List.getElem?_cons_succ, Option.toList_some, List.cons_append, List.nil_append]); (repeat (first | go_big_quiet_step (fail) | quiet_step (fail))); refine wpQuiet_nil (hK _ ?_); clear hK K
          (refine Eg.read Ext.pre (by intro c a d v w h; cases d <;> exact h) (by kernel_rfl) (i := 4) (n := 7) (l := [0, 1, 2, 3, 5, 6, 7, 8]) rfl (by kernel_rfl) (by kernel_rfl) rfl ⟨_, fun w' hR => load_run rfl (load_u64 (((Ext.refl w1).drew.trans hR).cell d0)), ?_⟩); (simp only [Act.put, List.setIfInBounds_toArray])
          (refine Eg.read Ext.pre (by intro c a d v w h; cases d <;> exact h) (by kernel_rfl) (i := 9) (n := 6) (l := [0, 1, 2, 3, 5, 6, 7, 8, 4]) rfl (by kernel_rfl) (by kernel_rfl) rfl ⟨_, fun w' hR => load_run rfl (load_i64 (((Ext.refl w1).drew.trans hR).cell d1)), ?_⟩); (simp only [Act.put, List.setIfInBounds_toArray])
          refine Eg.act Ext.pre (i := 10) (n := 5) (l := [0, 1, 2, 3, 5, 6, 7, 8, 4, 9]) rfl (by kernel_rfl) ?_
          go_wp2_with fail
          refine (HP.out _).mono ?_
          rintro e w3 ⟨g3, rfl, hB3, hg3, hE3⟩
          go_wp2_with fail
          refine ⟨hE3, ?_⟩
          refine Eg.batchK Ext.pre (by intro c a d v w h; cases d <;> exact h) (by kernel_rfl) (n := 0) [11, 12, 13, 14, 15] [0, 1, 2, 3, 5, 6, 7, 8, 4, 9, 10] _ (by kernel_rfl) (fun K hK => ?_); (simp only [pickOps, List.getElem?_toArray, List.getElem?_cons_zero, List.getElem?_cons_succ, Option.toList_some, List.cons_append, List.nil_append]); (repeat (first | go_big_quiet_step (fail) | quiet_step (fail))); refine wpQuiet_nil (hK _ ?_); clear hK K
          refine Eg.finish (by kernel_rfl) ?_
          have hbv : By w3 (some ⟨g3, 0, none⟩) (put fn k) := By.of_blk hB3
          have hE13 : Ext wr w3 := (((Ext.refl wr).drew.trans HE1.out).drew).trans hE3
          have HJ := Lib.hid (Bys.two (c := cr) (d := k) (HBR.out.ext hE13) hcr hbv (by rw [put_length]; omega) 23)
          rw [put_length] at HJ
          have HE13 := Lib.hid hE13
          clear hB3 hg3 hE3 hbv hE13 d0 d1
          go_wp2_with (go_at_call 17; refine (num_any _ _).mono ?_; rintro e w' ⟨rfl, rfl⟩)
          refine (join_any _ [E, put fn k] 2 (by simp) (by simp [put_length]; omega) _ HJ.out).mono ?_
          rintro e w4 ⟨v2, rfl, hO2, hE2⟩
          have hO3 : Own 5 w4 w.heap.size v2 (encs (fs.take (j + 1))) := by
            rw [HT.out, HEF.out]
            have h := hO2.down (B' := w.heap.size) (by have := HE13.out.size; simp at this ⊢; omega)
            simpa using h
          have HO3 := Lib.hid hO3
          have HE3 : Hid (Ext w w4) := ((hE.trans HE13.out).alloc _).trans hE2
          clear hO2 hO3 hE2
          go_wp2_with fail
          refine ⟨⟨j + 1, by omega, by omega, by go_num, HO3.out, HOK.out HOF.out, ?_, HE3.out⟩, by simp [intOf]; omega⟩
          rw [HT.out, List.length_append]
          have := encF_len _ HOF.out
          omega
    · obtain rfl : j = n := by omega
      have hall : fs.take j = fs := by have h := HN.out; subst h; exact List.take_length
      rw [hall] at hO hok hlen
      obtain ⟨Ar, cr, rfl, hbr, hcr, hcr'⟩ := hO.form
      have hlenF : ∀ i, i < fs.length → (fs.getD i fld0).b.length ≤ 9000 := by
        intro i hi
        have := (hok (fs.getD i fld0) (by rw [List.getD_eq_getElem?_getD, List.getElem?_eq_getElem hi]; exact List.getElem_mem hi)).1
        omega
      have hR := read_any Ar (encs fs) cr (by omega) hcr wr hbr
      have HA := Lib.hid (keepN_all fs hok)
      have HC := Lib.hid (keepN_cut fs hok)
      have hKA := fun W r s hRd hE => keeps_any A fs c (by rw [HN.out]; exact hc) hc' r s W hRd hE hlenF
      rw [HN.out] at hKA
      have HKA := Lib.hid hKA
      have hcr2 : cr ≤ 9223372036854775807 := by unfold maxLen at hcr'; omega
      generalize encs fs = E at *
      have HBR := Lib.hid hbr
      have HFr := Lib.hid (HF.out.ext hE)
      have HEr := Lib.hid hE
      have hsz := hE.size
      clear hall hO hok hbr hcr' hlenF hE hKA
      generalize hl : E.length = l at *
      have HL := Lib.hid hl
      have HR := Lib.hid hR
      clear hl hR
      go_wp2_with fail
      refine HR.out.mono ?_
      rintro e w1 ⟨r, rfl, hR1, hr1, hE1⟩
      have hk := HKA.out w1 r (some E) hR1 (HFr.out.ext hE1)
      rw [HA.out] at hk
      have HK := Lib.hid hk
      have HBR1 := Lib.hid (HBR.out.ext hE1)
      have HF1 := Lib.hid (HFr.out.ext hE1)
      have HE1 := Lib.hid (HEr.out.trans hE1)
      have HR1 := Lib.hid hR1
      clear hk hE1 hR1
      go_wp2_with fail
      refine HK.out.mono ?_
      rintro e w2 ⟨rfl, hR2, hU2⟩
      have hen := end_any w2 r _ hR2
      rw [if_pos rfl] at hen
      have HEN := Lib.hid hen
      have HBR2 := Lib.hid (HBR1.out.rd HR1.out hU2)
      have HF2 := Lib.hid (HF1.out.upd HR1.out hU2)
      have hE2 : Ext w w2 := hU2.ext HE1.out (by omega)
      clear hen hU2 hR2
      rcases l with _ | m
      · go_wp2_with (first | (go_at_call 17; refine (num_any _ _).mono ?_; rintro e w' ⟨rfl, rfl⟩) | (go_at_call 27; refine HEN.out.mono ?_; rintro e w' ⟨rfl, rfl⟩))
        go_ret
        exact ⟨rfl, hE2⟩
      · have htl : (E.take m).length = m := by rw [List.length_take, HL.out]; omega
        have hrd := read_any Ar (E.take m) cr (by omega) (by omega) w2 (HBR2.out.take m)
        rw [htl] at hrd
        have HRD := Lib.hid hrd
        clear htl hrd
        go_wp2_with (first | (go_at_call 17; refine (num_any _ _).mono ?_; rintro e w' ⟨rfl, rfl⟩) | (go_at_call 27; refine HEN.out.mono ?_; rintro e w' ⟨rfl, rfl⟩))
        refine HRD.out.mono ?_
        rintro e w3 ⟨r3, rfl, hR3, hr3, hE3⟩
        have hk := HKA.out w3 r3 (some (E.take m)) hR3 (HF2.out.ext hE3)
        rw [HC.out m (Nat.lt_succ_self m)] at hk
        have HK3 := Lib.hid hk
        have hE23 := hE2.trans hE3
        have hsz2 := hE2.size
        clear hk hR3 hE3
        go_wp2_with fail
        refine HK3.out.mono ?_
        rintro e w4 ⟨rfl, hR4, hU4⟩
        have HFA := Lib.hid (failed_any w4 r3 none hR4)
        have hE4 : Ext w w4 := hU4.ext hE23 (by omega)
        clear hR4 hU4
        go_wp2_with (go_at_call 28; refine HFA.out.mono ?_; rintro e w' ⟨rfl, rfl⟩; simp only [brokenB])
        go_ret
        exact ⟨rfl, hE4⟩

end Go.Proofs.Ytojgjmkkcadabaa
