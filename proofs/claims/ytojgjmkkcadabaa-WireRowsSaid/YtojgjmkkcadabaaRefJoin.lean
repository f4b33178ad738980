/-
  Contracts of the reference's Join and Blob.
-/
import Derived.Test.YtojgjmkkcadabaaCopy
import Derived.Test.YtojgjmkkcadabaaReadC
set_option linter.unusedVariables false
set_option linter.unusedSimpArgs false
namespace Go.Proofs.Ytojgjmkkcadabaa
open Go.RowKit Pl

/-- what has been laid when j lists are joined, and the noughts behind -/
def joined (L : List (List UInt8)) (j : Nat) : List UInt8 := (L.take j).flatten ++ List.replicate (L.flatten.length - (L.take j).flatten.length) 0
theorem joined_zero (L : List (List UInt8)) : joined L 0 = List.replicate L.flatten.length 0 := by simp [joined]
theorem joined_length (L : List (List UInt8)) (j : Nat) : (joined L j).length = L.flatten.length := by
  have := flat_le L j
  simp [joined] at *; omega
theorem joined_all (L : List (List UInt8)) (j : Nat) (h : L.length ≤ j) : joined L j = L.flatten := by
  simp [joined, List.take_of_length_le h]
theorem joined_step (L : List (List UInt8)) (j : Nat) (h : j < L.length) : over (joined L j) (L.take j).flatten.length (L.getD j []) = joined L (j + 1) := by
  have h1 := flat_le L (j + 1)
  unfold over joined
  rw [take_next L j h] at *
  rw [List.length_append] at h1
  rw [List.take_append_of_le_length (Nat.le_refl _), List.take_of_length_le (Nat.le_refl _)]
  congr 1
  rw [List.drop_append, List.drop_of_length_le (by omega)]
  simp
  omega
theorem zeros_cells (n : Nat) : madeCells #[.int .u8 0] n = cells8 (List.replicate n 0) := by
  apply Array.toList_inj.1
  rw [toList_madeCells_one]
  simp [cells8, u8]

theorem load_sl {w : World} {p : Addr} {A : Option Addr} {n c : Nat} (h : w.cell? p = some (.slice A n c)) : (Instr.loadAt 23 (.pointer (some p))).run Try.prog w = .ok (.slice A n c) w := by
  simp [go_sem, h]

set_option maxHeartbeats 1600000 in
theorem rjoin_any (A : Option Addr) (L : List (List UInt8)) (c : Nat) (hL : L.length ≤ 70368744177664) (hsz : L.flatten.length ≤ 70368744177664) (w : World) (hb : Bys w A L) :
    Calls Try.prog 35 #[.slice A L.length c] w fun e w' => ∃ g, e = .returned (.slice (some ⟨g, 0, none⟩) L.flatten.length L.flatten.length) ∧ Blk w' g 5 (cells8 L.flatten) ∧ w.heap.size ≤ g ∧ Ext w w' := by
  generalize hn : L.length = n at *
  have HN := Lib.hid hn
  have HB := Lib.hid hb
  clear hb hn
  go_enter Try.func35, Try.ntmps35
  go_wp2
  go_loop [3, 4] (fun s i => ∃ j : Nat, j ≤ n ∧ i = .int .i64 j ∧ s = .int .i64 (lenI L j)) (fun _ i => n - (intOf i).toNat)
  case atStart => exact ⟨0, Nat.zero_le _, rfl, by rw [lenI_zero]⟩
  case round =>
    obtain ⟨j, hj, rfl, rfl⟩ := hrel
    by_cases hlt : j < n
    · obtain ⟨b, o, rfl, Ai, ci, h1, h2, h3⟩ := HB.out.at_ (i := j) (by rw [HN.out]; exact hlt)
      clear h2 h3
      have b1 := lenI_lo L j
      have b2 := lenI_hi L (j + 1)
      have e1 := lenI_step L j (by rw [HN.out]; exact hlt)
      have b3 : lenI L j + ((L.getD j []).length : Int) ≤ 70368744177664 := by omega
      have HE := Lib.hid e1
      clear e1 b2
      generalize (L.getD j []).length = m at *
      go_wp2
      exact ⟨⟨j + 1, by omega, by go_num, by rw [HE.out]⟩, by simp [intOf]; omega⟩
    · obtain rfl : j = n := by omega
      have hmk := make8 L.flatten.length hsz
      have e0 : lenI L j = (L.flatten.length : Int) := by unfold lenI; rw [List.take_of_length_le (by rw [HN.out]; omega)]
      rw [e0]
      have HM := Lib.hid e0
      clear e0
      generalize hf : L.flatten.length = f at *
      have HF := Lib.hid hf
      clear hf
      go_wp2
      go_loopw [6, 7] (fun at_ i wr => ∃ k : Nat, k ≤ j ∧ i = .int .i64 k ∧ at_ = .int .i64 (lenI L k) ∧ Blk wr w.heap.size 5 (cells8 (joined L k)) ∧ Ext w wr) (fun _ i _ => j - (intOf i).toNat)
      case atStart => exact ⟨0, Nat.zero_le _, rfl, by rw [lenI_zero], by rw [joined_zero, HF.out, ← zeros_cells]; exact Blk.new _ _ _, (Ext.refl _).alloc _⟩
      case round =>
        obtain ⟨k, hk, rfl, rfl, hO, hE⟩ := hrel
        by_cases hlt2 : k < j
        · obtain ⟨b, o, rfl, Ai, ci, h1, h2, h3⟩ := (HB.out.ext hE).at_ (i := k) (by rw [HN.out]; exact hlt2)
          have b1 := lenI_lo L k
          have b2 := lenI_hi L (k + 1)
          rw [HF.out] at b2
          have e1 := lenI_step L k (by rw [HN.out]; exact hlt2)
          have hbB : b < w.heap.size := by
            obtain ⟨b', o', hA, _, _, hcell, _⟩ := HB.out.at_ (i := k) (by rw [HN.out]; exact hlt2)
            cases hA
            exact block_lt_of_cell hcell
          obtain ⟨p, hp⟩ : ∃ p : Nat, p = (L.take k).flatten.length := ⟨_, rfl⟩
          have hpI : lenI L k = (p : Int) := by unfold lenI; rw [hp]
          rw [hpI] at b1 e1 ⊢
          have hpf : p ≤ f := by omega
          have HP := Lib.hid hp
          have H2 := Lib.hid h2
          have HE := Lib.hid e1
          have hpf2 : p + (L.getD k []).length ≤ f := by omega
          clear h2 h3 e1 hpI hp b2 b1
          generalize hm : (L.getD k []).length = m at *
          have HMM := Lib.hid hm
          clear hm
          go_wp2_with fail
          refine wp_eager (below_pre w.heap.size) (n := 8) (by kernel_rfl) (by kernel_rfl) ?_
          refine Eg.batchK (below_pre w.heap.size) (by intro c a d v w h; cases d <;> exact h) (by kernel_rfl) (n := 2) [0, 1, 2, 3, 4, 5] [] _ (by kernel_rfl) (fun K hK => ?_); (simp only [pickOps, List.getElem?_toArray, List.getElem?_cons_zero, List.getElem?_cons_succ, Option.toList_some, List.cons_append, List.nil_append]); (repeat (first | go_big_quiet_step (fail) | quiet_step (fail))); refine wpQuiet_nil (hK _ ?_); clear hK K
          (refine Eg.read (below_pre w.heap.size) (by intro c a d v w h; cases d <;> exact h) (by kernel_rfl) (i := 6) (n := 1) (l := [0, 1, 2, 3, 4, 5]) rfl (by kernel_rfl) (by kernel_rfl) rfl ⟨_, fun w' hR => load_run rfl (load_sl ((Below.cell hR hbB).trans h1)), ?_⟩); (simp only [Act.put, List.setIfInBounds_toArray])
          refine Eg.act (below_pre w.heap.size) (i := 7) (n := 0) (l := [0, 1, 2, 3, 4, 5, 6]) rfl (by kernel_rfl) ?_
          refine wpList_copy8 (l := L.getD k []) (D := joined L k) (g := w.heap.size) Try.byt rfl _ _ rfl hO.drew H2.out.drew p _ _ _ _ HMM.out.symm _ rfl rfl ?_ ?_ ?_ ?_
          · rw [joined_length, HF.out, HMM.out]; exact hpf2
          · rw [HMM.out]; omega
          · rw [HMM.out]
            intro hm0
            rw [if_neg (by omega)]
          intro w1 hB1 hU1
          have hE1 : Below w.heap.size wr.drew w1 := Below.grown (Below.refl _ _) hU1.grown hE.size (fun k e => by cases e; exact Nat.le_refl _)
          refine wpList_nil ?_
          refine ⟨hE1, ?_⟩
          refine Eg.finish (by kernel_rfl) ?_
          have hE2 : Ext w w1 := Below.trans (Below.drew hE) hE1
          have hB2 := hB1
          rw [HP.out, joined_step L k (by rw [HN.out]; exact hlt2)] at hB2
          have h1' : w1.cell? ⟨b, o + k, none⟩ = some (.slice Ai m ci) := (Below.cell hE1 hbB).trans h1
          clear h1
          have HB2 := Lib.hid hB2
          clear hB1 hB2 hU1 hE1 hO hE
          go_wp2
          refine ⟨⟨k + 1, by omega, by go_num, ?_, HB2.out, hE2⟩, by simp [intOf]; omega⟩
          rw [← HE.out]
        · obtain rfl : k = j := by omega
          go_wp2
          go_ret
          rw [joined_all L k (by rw [HN.out]; omega)] at hO
          exact ⟨_, by rw [HF.out]; rfl, hO, Nat.le_refl _, hE⟩

end Go.Proofs.Ytojgjmkkcadabaa
