/-
  Contracts of crc.Zeros, crc.Join, and of the reference's through and Far.
-/
import Derived.Test.YtojgjmkkcadabaaCrcC
set_option linter.unusedVariables false
set_option linter.unusedSimpArgs false
namespace Go.Proofs.Ytojgjmkkcadabaa
open Go.RowKit Pl

set_option maxHeartbeats 800000 in
theorem czeros_any (s : BitVec 32) (n : Nat) (hn : n < 9223372036854775808) (w : World) : Calls Try.prog 47 #[.int .u32 (s.toNat : Int), .int .i64 n] w fun e w' => e = .returned (.int .u32 ((crcZeros s n).toNat : Int)) ∧ Ext w w' := by
  have hx := not32 s
  generalize hs : ~~~ s = s' at *
  have HS := Lib.hid hs
  clear hs
  go_enter Try.func47, Try.ntmps47
  go_wp2_with fail
  refine (zeros_any s' n hn _).mono ?_
  rintro e w1 ⟨rfl, hE1⟩
  go_wp2
  go_ret
  exact ⟨by unfold crcZeros; rw [← not32, HS.out]; rfl, hE1⟩
theorem not_not32 (s : BitVec 32) : ~~~ ~~~ s = s := by simp
set_option maxHeartbeats 800000 in
theorem czeros_neg (s : BitVec 32) (n : Int) (hn : n ≤ 0) (w : World) : Calls Try.prog 47 #[.int .u32 (s.toNat : Int), .int .i64 n] w fun e w' => e = .returned (.int .u32 (s.toNat : Int)) ∧ w = w' := by
  have hx := not32 s
  have hy := not32 (~~~ s)
  rw [not_not32] at hy
  generalize hs : ~~~ s = s' at *
  clear hs
  go_enter Try.func47, Try.ntmps47
  go_wp2_with fail
  refine (zeros_neg s' n hn _).mono ?_
  rintro e w1 ⟨rfl, rfl⟩
  go_wp2
  go_ret
  exact ⟨rfl, rfl⟩
set_option maxHeartbeats 800000 in
theorem cjoin_any (a b : BitVec 32) (n : Nat) (hn : n < 9223372036854775808) (w : World) : Calls Try.prog 44 #[.int .u32 (a.toNat : Int), .int .u32 (b.toNat : Int), .int .i64 n] w fun e w' => e = .returned (.int .u32 ((crcJoin a b n).toNat : Int)) ∧ Ext w w' := by
  go_enter Try.func44, Try.ntmps44
  go_wp2_with fail
  refine (zeros_any a n hn _).mono ?_
  rintro e w1 ⟨rfl, hE1⟩
  go_wp2
  go_ret
  exact ⟨by unfold crcJoin; rw [← xor32]; rfl, hE1⟩

theorem shr_bit (x : BitVec 32) (k : Nat) : (((x.toNat : Int) / 2 ^ k).tmod 2 == 1) = x.getLsbD k := by
  rw [Int.tmod_eq_emod_of_nonneg (Int.ediv_nonneg (by omega) (Int.pow_nonneg (by omega)))]
  have h := sh_mod (x >>> k)
  rw [BitVec.getLsbD_ushiftRight, Nat.add_zero, BitVec.toNat_ushiftRight, Nat.shiftRight_eq_div_pow] at h
  rw [← h]
  simp

set_option maxHeartbeats 800000 in
theorem through_any (n : Nat) (x : BitVec 32) (w : World) : Calls Try.prog 62 #[.agg (sq n), .int .u32 (x.toNat : Int)] w fun e w' => e = .returned (.int .u32 ((its n x).toNat : Int)) ∧ Ext w w' := by
  have hE := (Ext.refl w).alloc (.cells (sq n) 90)
  have HT := Lib.hid (Blk.new w 90 (sq n))
  go_enter Try.func62, Try.ntmps62
  go_wp2
  go_loop [5, 6] (fun p i => ∃ k : Nat, k ≤ 32 ∧ i = .int .i64 k ∧ p = .int .u32 ((its n (low x k)).toNat : Int)) (fun _ i => 32 - (intOf i).toNat)
  case atStart => exact ⟨0, Nat.zero_le _, rfl, by show _ = Value.int _ ((its n 0#32).toNat : Int); rw [its_zero]; rfl⟩
  case round =>
    obtain ⟨k, hk, rfl, rfl⟩ := hrel
    by_cases hk32 : k < 32
    · have hl := shr_bit x k
      have HS := Lib.hid (its_low_step n x k)
      have hcell : (w.alloc (.cells (sq n) 90)).cell? ⟨w.heap.size, k, none⟩ = some (.int .u32 ((img n k).toNat : Int)) := by rw [HT.out.cell]; exact sq_get n k hk32
      have hy := x.isLt
      cases hb : x.getLsbD k with
      | false =>
        rw [hb] at hl HS
        clear hb
        go_wp2
        exact ⟨⟨k + 1, by omega, by go_num, by rw [HS.out]; simp⟩, by simp [intOf]; omega⟩
      | true =>
        rw [hb] at hl HS
        clear hb
        go_wp2
        exact ⟨⟨k + 1, by omega, by go_num, by rw [HS.out, if_pos rfl, ← xor32]⟩, by simp [intOf]; omega⟩
    · obtain rfl : k = 32 := by omega
      have HZ := Lib.hid (low_all x 32 (shr_out x 32 (Nat.le_refl _)))
      go_wp2
      go_ret
      exact ⟨by rw [HZ.out]; rfl, hE⟩

theorem img8 (i : Nat) : its 8 (1#32 <<< i) = img 8 i := rfl

set_option maxHeartbeats 2000000 in
set_option maxRecDepth 100000 in
theorem far_any (r : BitVec 32) (n : Nat) (hn : n < 9223372036854775808) (w : World) : Calls Try.prog 48 #[.int .u32 (r.toNat : Int), .int .i64 n] w fun e w' => e = .returned (.int .u32 ((zer r n).toNat : Int)) ∧ Ext w w' := by
  go_enter Try.func48, Try.ntmps48
  go_wp2
  rw [← sqTo_zero 8]
  go_loopw [6] (fun i wr => ∃ j : Nat, j ≤ 32 ∧ i = .int .i64 j ∧ Blk wr w.heap.size 90 (sqTo 8 j) ∧ Ext w wr) (fun i _ => 32 - (intOf i).toNat)
  case atStart => exact ⟨0, Nat.zero_le _, rfl, Blk.new _ _ _, (Ext.refl w).alloc _⟩
  case round =>
    obtain ⟨j, hj, rfl, hB, hE⟩ := hrel
    by_cases hlt : j < 32
    · obtain ⟨v, hv⟩ : ∃ v, wr.cell? ⟨w.heap.size, j, none⟩ = some v := by
        rw [hB.cell]
        exact ⟨_, Array.getElem?_eq_getElem (by rw [sqTo_size]; exact hlt)⟩
      have hf := hB.frozen j
      have HB := Lib.hid hB
      have HE := Lib.hid hE
      clear hB hE
      have hd : decide ((j : Int) < 32) = true := by simp; omega
      have hs := shl_one j
      have HI := Lib.hid (img8 j)
      generalize 1#32 <<< j = y at *
      have hs' : (2 : Int) ^ j % 4294967296 = (y.toNat : Int) := hs.symm
      clear hs
      go_wp2_with (go_at_call 61; refine (rstep_any _ _).mono ?_; rintro e w' ⟨rfl, rfl⟩)
      refine ⟨⟨j + 1, by omega, by go_num, ?_, HE.out.setCell (by simp) _⟩, by simp [intOf]; omega⟩
      rw [HI.out, ← sqTo_step]
      exact HB.out.set _ _
    · obtain rfl : j = 32 := by omega
      rw [sqTo_all] at hB
      have HB := Lib.hid hB
      have HE := Lib.hid hE
      clear hB hE
      go_wp2_with fail
      rw [show ((32 : Nat) : Int) = 32 from rfl]
      obtain ⟨wo, rfl⟩ : ∃ wo : World, wo = wr := ⟨_, rfl⟩
      go_loopw [0, 1] (fun s i wr => ∃ (k m : Nat) (x : BitVec 32), k ≤ n ∧ i = .int .i64 k ∧ s = .int .u32 (x.toNat : Int) ∧ its (8 * n) r = its (m * k) x ∧ Blk wr w.heap.size 90 (sq m) ∧ Ext w wr) (fun _ i _ => (intOf i).toNat)
      case atStart => exact ⟨n, 8, r, Nat.le_refl _, rfl, rfl, rfl, HB.out, HE.out⟩
      case round =>
        obtain ⟨k, m, x, hkn, rfl, rfl, hz, hB, hE⟩ := hrel
        have HBj := Lib.hid hB
        have HEj := Lib.hid hE
        have HZ := Lib.hid hz
        have hszw := hB.lt
        clear hB hE HB HE hz
        by_cases hk0 : 0 < k
        · have hkd : decide (0 < (k : Int)) = true := by simp; omega
          rcases Nat.mod_two_eq_zero_or_one k with hm | hm
          · have ha : ((k : Int) % 2 == 1) = false := by simp; omega
            have HM := Lib.hid hm
            clear hm
            go_wp2_with fail
            rw [← sqTo_zero (2 * m)]
            have HQ0 := Lib.hid (HBj.out.alloc (.cells (sqTo (2 * m) 0) 90))
            have HQ1 := Lib.hid (Blk.new wr 90 (sqTo (2 * m) 0))
            have HQ2 := Lib.hid (HEj.out.alloc (.cells (sqTo (2 * m) 0) 90))
            generalize wr.alloc (.cells (sqTo (2 * m) 0) 90) = w2 at *
            generalize wr.heap.size = g at *
            go_loopw [8] (fun i wr => ∃ j : Nat, j ≤ 32 ∧ i = .int .i64 j ∧ Blk wr w.heap.size 90 (sq m) ∧ Blk wr g 90 (sqTo (2 * m) j) ∧ Ext w wr) (fun i _ => 32 - (intOf i).toNat)
            case atStart => exact ⟨0, Nat.zero_le _, rfl, HQ0.out, HQ1.out, HQ2.out⟩
            case round =>
              obtain ⟨j, hj, rfl, hC0, hC1, hC2⟩ := hrel
              have hszj := hC1.lt
              have HC0 := Lib.hid hC0
              have HC1 := Lib.hid hC1
              have HC2 := Lib.hid hC2
              clear hC0 hC1 hC2
              by_cases hlt : j < 32
              · have hd : decide ((j : Int) < 32) = true := by simp; omega
                have hc0 : wr.cell? ⟨w.heap.size, j, none⟩ = some (.int .u32 ((img m j).toNat : Int)) := by rw [HC0.out.cell]; exact sq_get m j hlt
                go_wp2_with fail
                refine wp_eager (below_pre g) (n := 8) (by kernel_rfl) (by kernel_rfl) ?_
                refine Eg.batchK (below_pre g) (by intro c a d v w h; cases d <;> exact h) (by kernel_rfl) (n := 5) [0, 2, 3] [] _ (by kernel_rfl) (fun K hK => ?_); (simp only [pickOps, List.getElem?_toArray, List.getElem?_cons_zero, List.getElem?_cons_succ, Option.toList_some, List.cons_append, List.nil_append]); (repeat (first | go_big_quiet_step (fail) | quiet_step (fail))); refine wpQuiet_nil (hK _ ?_); clear hK K
                (refine Eg.read (below_pre g) (by intro c a d v w h; cases d <;> exact h) (by kernel_rfl) (i := 1) (n := 4) (l := [0, 2, 3]) rfl (by kernel_rfl) (by kernel_rfl) rfl ⟨_, fun w' hR => load_run rfl (load_row (Blk.below (B := g) (w := wr.drew) HC0.out.drew hR (by omega)) Try.underlying90 rfl (by rw [sq_size]; kernel_rfl)), ?_⟩); (simp only [Act.put, List.setIfInBounds_toArray])
                (refine Eg.read (below_pre g) (by intro c a d v w h; cases d <;> exact h) (by kernel_rfl) (i := 4) (n := 3) (l := [0, 2, 3, 1]) rfl (by kernel_rfl) (by kernel_rfl) rfl ⟨_, fun w' hR => load_run rfl (load_u32 ((Below.cell (B := g) (w := wr.drew) hR (p := ⟨w.heap.size, j, none⟩) (by show w.heap.size < _; omega)).trans hc0)), ?_⟩); (simp only [Act.put, List.setIfInBounds_toArray])
                refine Eg.act (below_pre g) (i := 5) (n := 2) (l := [0, 2, 3, 1, 4]) rfl (by kernel_rfl) ?_
                go_wp2_with fail
                refine (through_any m _ _).mono ?_
                rintro e w4 ⟨rfl, hE4⟩
                go_wp2_with fail
                refine ⟨Below.mono hE4 (by show _ ≤ wr.heap.size; omega), ?_⟩
                have HB4 := Lib.hid (Blk.ext HC1.out.drew hE4)
                (have hv : ∃ v, w4.cell? ⟨g, j, none⟩ = some v := by rw [HB4.out.cell]; exact ⟨_, Array.getElem?_eq_getElem (by rw [sqTo_size]; exact hlt)⟩)
                obtain ⟨v, hv⟩ := hv
                have hf := HB4.out.frozen j
                refine Eg.batchK (below_pre g) (by intro c a d v w h; cases d <;> exact h) (by kernel_rfl) (n := 1) [6] [0, 2, 3, 1, 4, 5] _ (by kernel_rfl) (fun K hK => ?_); (simp only [pickOps, List.getElem?_toArray, List.getElem?_cons_zero, List.getElem?_cons_succ, Option.toList_some, List.cons_append, List.nil_append]); (repeat (first | go_big_quiet_step (fail) | quiet_step (fail))); refine wpQuiet_nil (hK _ ?_); clear hK K
                refine Eg.act (below_pre g) (i := 7) (n := 0) (l := [0, 2, 3, 1, 4, 5, 6]) rfl (by kernel_rfl) ?_
                go_wp2_with fail
                refine ⟨Below.setCell (Below.refl _ _) (by simp) _, ?_⟩
                refine Eg.finish (by kernel_rfl) ?_
                go_wp2_with fail
                have HE4 := HC2.out.drew.trans hE4
                rw [img_twice]
                refine ⟨⟨j + 1, by omega, by go_num, (Blk.ext HC0.out.drew hE4).far (by simp; omega) _, ?_, HE4.setCell (by simp; omega) _⟩, by simp [intOf]; omega⟩
                rw [← sqTo_step]
                exact HB4.out.set _ _
              · obtain rfl : j = 32 := by omega
                rw [sqTo_all] at HC1
                go_wp2_with (first | (refine wpList_load_row rfl 90 _ rfl _ rfl _ _ _ _ HC1.out Try.underlying90 rfl (by rw [sq_size]; kernel_rfl) ?_) | (refine wpList_store_row rfl 90 _ _ rfl _ _ rfl rfl _ _ HC0.out (by rw [sq_size]; kernel_rfl) (by rw [sq_size, sq_size]) (sq_one _) ?_))
                go_wp2
                refine ⟨⟨k / 2, 2 * m, x, by omega, by go_num, rfl, ?_, HC0.out.row _, HC2.out.setRow (Nat.le_refl _) _⟩, by simp [intOf]; omega⟩
                rw [HZ.out, show m * k = m * (2 * (k / 2)) by congr 1; have := HM.out; omega, zer_even]
          · have ha : ((k : Int) % 2 == 1) = true := by simp; omega
            have HM := Lib.hid hm
            clear hm
            go_wp2_with (refine wpList_load_row rfl 90 _ rfl _ rfl _ _ _ _ HBj.out Try.underlying90 rfl (by rw [sq_size]; kernel_rfl) ?_)
            refine (through_any m _ _).mono ?_
            rintro e w3 ⟨rfl, hE3⟩
            have HB3 := Lib.hid (HBj.out.ext hE3)
            have HE3 := Lib.hid (HEj.out.trans hE3)
            have hsz3 := HB3.out.lt
            clear hE3
            go_wp2_with fail
            rw [← sqTo_zero (2 * m)]
            have HQ0 := Lib.hid (HB3.out.alloc (.cells (sqTo (2 * m) 0) 90))
            have HQ1 := Lib.hid (Blk.new w3 90 (sqTo (2 * m) 0))
            have HQ2 := Lib.hid (HE3.out.alloc (.cells (sqTo (2 * m) 0) 90))
            generalize w3.alloc (.cells (sqTo (2 * m) 0) 90) = w2 at *
            generalize w3.heap.size = g at *
            go_loopw [8] (fun i wr => ∃ j : Nat, j ≤ 32 ∧ i = .int .i64 j ∧ Blk wr w.heap.size 90 (sq m) ∧ Blk wr g 90 (sqTo (2 * m) j) ∧ Ext w wr) (fun i _ => 32 - (intOf i).toNat)
            case atStart => exact ⟨0, Nat.zero_le _, rfl, HQ0.out, HQ1.out, HQ2.out⟩
            case round =>
              obtain ⟨j, hj, rfl, hC0, hC1, hC2⟩ := hrel
              have hszj := hC1.lt
              have HC0 := Lib.hid hC0
              have HC1 := Lib.hid hC1
              have HC2 := Lib.hid hC2
              clear hC0 hC1 hC2
              by_cases hlt : j < 32
              · have hd : decide ((j : Int) < 32) = true := by simp; omega
                have hc0 : wr.cell? ⟨w.heap.size, j, none⟩ = some (.int .u32 ((img m j).toNat : Int)) := by rw [HC0.out.cell]; exact sq_get m j hlt
                go_wp2_with fail
                refine wp_eager (below_pre g) (n := 8) (by kernel_rfl) (by kernel_rfl) ?_
                refine Eg.batchK (below_pre g) (by intro c a d v w h; cases d <;> exact h) (by kernel_rfl) (n := 5) [0, 2, 3] [] _ (by kernel_rfl) (fun K hK => ?_); (simp only [pickOps, List.getElem?_toArray, List.getElem?_cons_zero, List.getElem?_cons_succ, Option.toList_some, List.cons_append, List.nil_append]); (repeat (first | go_big_quiet_step (fail) | quiet_step (fail))); refine wpQuiet_nil (hK _ ?_); clear hK K
                (refine Eg.read (below_pre g) (by intro c a d v w h; cases d <;> exact h) (by kernel_rfl) (i := 1) (n := 4) (l := [0, 2, 3]) rfl (by kernel_rfl) (by kernel_rfl) rfl ⟨_, fun w' hR => load_run rfl (load_row (Blk.below (B := g) (w := wr.drew) HC0.out.drew hR (by omega)) Try.underlying90 rfl (by rw [sq_size]; kernel_rfl)), ?_⟩); (simp only [Act.put, List.setIfInBounds_toArray])
                (refine Eg.read (below_pre g) (by intro c a d v w h; cases d <;> exact h) (by kernel_rfl) (i := 4) (n := 3) (l := [0, 2, 3, 1]) rfl (by kernel_rfl) (by kernel_rfl) rfl ⟨_, fun w' hR => load_run rfl (load_u32 ((Below.cell (B := g) (w := wr.drew) hR (p := ⟨w.heap.size, j, none⟩) (by show w.heap.size < _; omega)).trans hc0)), ?_⟩); (simp only [Act.put, List.setIfInBounds_toArray])
                refine Eg.act (below_pre g) (i := 5) (n := 2) (l := [0, 2, 3, 1, 4]) rfl (by kernel_rfl) ?_
                go_wp2_with fail
                refine (through_any m _ _).mono ?_
                rintro e w4 ⟨rfl, hE4⟩
                go_wp2_with fail
                refine ⟨Below.mono hE4 (by show _ ≤ wr.heap.size; omega), ?_⟩
                have HB4 := Lib.hid (Blk.ext HC1.out.drew hE4)
                (have hv : ∃ v, w4.cell? ⟨g, j, none⟩ = some v := by rw [HB4.out.cell]; exact ⟨_, Array.getElem?_eq_getElem (by rw [sqTo_size]; exact hlt)⟩)
                obtain ⟨v, hv⟩ := hv
                have hf := HB4.out.frozen j
                refine Eg.batchK (below_pre g) (by intro c a d v w h; cases d <;> exact h) (by kernel_rfl) (n := 1) [6] [0, 2, 3, 1, 4, 5] _ (by kernel_rfl) (fun K hK => ?_); (simp only [pickOps, List.getElem?_toArray, List.getElem?_cons_zero, List.getElem?_cons_succ, Option.toList_some, List.cons_append, List.nil_append]); (repeat (first | go_big_quiet_step (fail) | quiet_step (fail))); refine wpQuiet_nil (hK _ ?_); clear hK K
                refine Eg.act (below_pre g) (i := 7) (n := 0) (l := [0, 2, 3, 1, 4, 5, 6]) rfl (by kernel_rfl) ?_
                go_wp2_with fail
                refine ⟨Below.setCell (Below.refl _ _) (by simp) _, ?_⟩
                refine Eg.finish (by kernel_rfl) ?_
                go_wp2_with fail
                have HE4 := HC2.out.drew.trans hE4
                rw [img_twice]
                refine ⟨⟨j + 1, by omega, by go_num, (Blk.ext HC0.out.drew hE4).far (by simp; omega) _, ?_, HE4.setCell (by simp; omega) _⟩, by simp [intOf]; omega⟩
                rw [← sqTo_step]
                exact HB4.out.set _ _
              · obtain rfl : j = 32 := by omega
                rw [sqTo_all] at HC1
                go_wp2_with (first | (refine wpList_load_row rfl 90 _ rfl _ rfl _ _ _ _ HC1.out Try.underlying90 rfl (by rw [sq_size]; kernel_rfl) ?_) | (refine wpList_store_row rfl 90 _ _ rfl _ _ rfl rfl _ _ HC0.out (by rw [sq_size]; kernel_rfl) (by rw [sq_size, sq_size]) (sq_one _) ?_))
                go_wp2
                refine ⟨⟨k / 2, 2 * m, its m x, by omega, by go_num, rfl, ?_, HC0.out.row _, HC2.out.setRow (Nat.le_refl _) _⟩, by simp [intOf]; omega⟩
                rw [HZ.out, show m * k = m * (2 * (k / 2) + 1) by congr 1; have := HM.out; omega, zer_odd]
        · obtain rfl : k = 0 := by omega
          go_wp2
          go_ret
          refine ⟨?_, HEj.out⟩
          unfold zer
          rw [HZ.out, Nat.mul_zero]
          rfl

end Go.Proofs.Ytojgjmkkcadabaa
