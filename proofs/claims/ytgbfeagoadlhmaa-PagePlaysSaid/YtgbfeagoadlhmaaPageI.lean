
/-
  Contract of page.Drop (written by pageh.py).
-/
import Derived.Test.YtgbfeagoadlhmaaPageH
set_option linter.unusedVariables false
set_option linter.unusedSimpArgs false
namespace Go.Proofs.Ytgbfeagoadlhmaa
open Go.RowKit Pl

/-- how many of the first k slots are left when empty ones at the end are taken off -/
def lastN (P : List UInt8) : Nat → Nat
  | 0 => 0
  | k + 1 => if slotS P k = 0 then lastN P k else k + 1
theorem lastN_le (P : List UInt8) : ∀ k, lastN P k ≤ k
  | 0 => Nat.le_refl _
  | k + 1 => by unfold lastN; split; exact Nat.le_succ_of_le (lastN_le P k); exact Nat.le_refl _
def dropS (P : List UInt8) (n : Nat) : List UInt8 := set2 (point2 P n 0 0) 14 (lastN (point2 P n 0 0) (num2 P 14))
def dropP (P : List UInt8) (n : Nat) : List UInt8 := if lastN (point2 P n 0 0) (num2 P 14) = 0 then set2 (dropS P n) 16 1024 else dropS P n
def dropR (P : List UInt8) (z : Int) : List UInt8 := if itemE P z = 0 then dropP P z.toNat else zeroP

set_option maxHeartbeats 3200000 in
set_option maxRecDepth 100000 in
theorem Drop_pg (w : World) (P : List UInt8) (z : Int) (h : P.length = 1024) (hz1 : -9223372036854775808 ≤ z) (hz2 : z ≤ 9223372036854775807) :
    Calls Try.prog 39 #[.agg (cells8 P), .int .i64 z] w fun e w' => e = .returned (.tuple #[.agg (cells8 (dropR P z)), .int .i64 (itemE P z : Int)]) ∧ Ext w w' := by
  have hz := (zero_of_info Try.page0).1
  have HP0 := Lib.hid ((Pg.new w P h).ext (ext_new _ (.cells (cells8 zeroP) 23)))
  have HB0 := Lib.hid (Blk.new (w.alloc (.cells (cells8 P) 23)) 23 (cells8 zeroP))
  rw [World.size_alloc] at HB0
  have HE0 := Lib.hid (((Ext.refl w).alloc (.cells (cells8 P) 23)).alloc (.cells (cells8 zeroP) 23))
  generalize hw0 : (w.alloc (.cells (cells8 P) 23)).alloc (.cells (cells8 zeroP) 23) = w0 at *
  have KR := Lib.hid (right_pg _ _ P HP0.out)
  have HZ := Lib.hid zeroP_length
  have HIE : Hid (itemE P z = if rightB P then (if z < 0 then 2 else if hasB P z.toNat then 0 else 6) else 4) := Lib.hid rfl
  have HIR : Hid (dropR P z = if itemE P z = 0 then dropP P z.toNat else zeroP) := Lib.hid rfl
  cases hr : rightB P with
  | false =>
    rw [hr] at KR HIE
    simp only [Bool.false_eq_true, if_false] at HIE
    rw [HIE.out] at HIR
    rw [HIE.out, HIR.out]
    clear hr
    simp only [Nat.reduceEqDiff, if_false]
    generalize zeroP = Z at *
    go_enter Try.func39, Try.ntmps39
    go_wp2_with fail
    refine KR.out.mono ?_
    rintro e w1 ⟨rfl, hE1⟩
    have HBk := Lib.hid (HB0.out.ext (hE1))
    have HEk := Lib.hid (HE0.out.trans (hE1))
    go_wp2_with (refine wpList_store_row rfl 23 _ _ rfl _ _ rfl rfl _ _ HBk.out (pgSize HZ.out) rfl (cells8_one Z) ?_)
    refine bodyPost_ret (results_row2 Try.results39 _ _ (w.heap.size + 1) _ (cells8 Z) (0, 0) _ rfl (HBk.out.row (cells8 Z)) Try.pgUnd rfl (pgSize HZ.out)) rfl ⟨rfl, HEk.out.setRow (by omega) _⟩
  | true =>
    have hle := right_le hr
    rw [hr] at KR HIE
    simp only [if_true] at HIE
    clear hr
    by_cases hz : z < 0
    · rw [if_pos hz] at HIE
      rw [HIE.out] at HIR
      rw [HIE.out, HIR.out]
      simp only [Nat.reduceEqDiff, if_false]
      have hzd : decide (z < 0) = true := by simpa using hz
      generalize zeroP = Z at *
      go_enter Try.func39, Try.ntmps39
      go_wp2_with fail
      refine KR.out.mono ?_
      rintro e w1 ⟨rfl, hE1⟩
      have HBk := Lib.hid (HB0.out.ext (hE1))
      have HEk := Lib.hid (HE0.out.trans (hE1))
      go_wp2_with (refine wpList_store_row rfl 23 _ _ rfl _ _ rfl rfl _ _ HBk.out (pgSize HZ.out) rfl (cells8_one Z) ?_)
      refine bodyPost_ret (results_row2 Try.results39 _ _ (w.heap.size + 1) _ (cells8 Z) (0, 0) _ rfl (HBk.out.row (cells8 Z)) Try.pgUnd rfl (pgSize HZ.out)) rfl ⟨rfl, HEk.out.setRow (by omega) _⟩
    · rw [if_neg hz] at HIE
      obtain ⟨n, rfl⟩ := Int.eq_ofNat_of_zero_le (show 0 ≤ z by omega)
      have hzd : decide ((n : Int) < 0) = false := by simp
      have KF := Lib.hid (fun W (h : Pg W w.heap.size P) => find_pg W _ P n h (by omega))
      rw [Int.toNat_natCast] at HIE HIR
      have HH : Hid (hasB P n = (decide (n < num2 P 14) && decide (slotS P n ≠ 0))) := Lib.hid rfl
      cases hh : hasB P n with
      | false =>
        rw [hh] at HIE KF
        simp only [Bool.false_eq_true, if_false] at HIE KF
        rw [HIE.out] at HIR
        rw [HIE.out, HIR.out]
        simp only [Nat.reduceEqDiff, if_false]
        clear hh
        generalize zeroP = Z at *
        go_enter Try.func39, Try.ntmps39
        go_wp2_with fail
        refine KR.out.mono ?_
        rintro e w1 ⟨rfl, hE1⟩
        have K3 := Lib.hid (KF.out w1 (HP0.out.ext hE1))
        go_wp2_with fail
        refine K3.out.mono ?_
        rintro e w2 ⟨rfl, hE2⟩
        have HBk := Lib.hid (HB0.out.ext (hE1.trans hE2))
        have HEk := Lib.hid (HE0.out.trans (hE1.trans hE2))
        go_wp2_with (refine wpList_store_row rfl 23 _ _ rfl _ _ rfl rfl _ _ HBk.out (pgSize HZ.out) rfl (cells8_one Z) ?_)
        refine bodyPost_ret (results_row2 Try.results39 _ _ (w.heap.size + 1) _ (cells8 Z) (0, 0) _ rfl (HBk.out.row (cells8 Z)) Try.pgUnd rfl (pgSize HZ.out)) rfl ⟨rfl, HEk.out.setRow (by omega) _⟩
      | true =>
        rw [hh] at HIE KF HH
        simp only [if_true] at HIE KF
        rw [HIE.out] at HIR
        rw [HIE.out, HIR.out]
        simp only [if_true]
        have hhv := HH.out.symm
        simp only [Bool.and_eq_true, decide_eq_true_eq] at hhv
        have hnl := hhv.1
        clear hh hhv HH
        have HDP : Hid (dropP P n = if lastN (point2 P n 0 0) (num2 P 14) = 0 then set2 (dropS P n) 16 1024 else dropS P n) := Lib.hid rfl
        have HDS : Hid (dropS P n = set2 (point2 P n 0 0) 14 (lastN (point2 P n 0 0) (num2 P 14))) := Lib.hid rfl
        have HRL : Hid ((point2 P n 0 0).length = 1024) := Lib.hid (set2_length _ _ _ (set2_length _ _ _ h (by omega)) (by omega))
        have HN14 : Hid (num2 (point2 P n 0 0) 14 = num2 P 14) := Lib.hid (by
          unfold point2
          rw [num2_set2_far (by rw [set2_length _ _ _ h (by omega)]; omega) (by rw [set2_length _ _ _ h (by omega)]; omega) (by omega), num2_set2_far (by omega) (by omega) (by omega)])
        have HSLn : Hid ((dropS P n).length = 1024) := Lib.hid (by rw [HDS.out]; exact set2_length _ _ _ HRL.out (by omega))
        have HQL : Hid ((dropP P n).length = 1024) := Lib.hid (by
          rw [HDP.out]; split
          · exact set2_length _ _ _ HSLn.out (by omega)
          · exact HSLn.out)
        generalize dropP P n = Q at *
        generalize dropS P n = S at *
        have KP := Lib.hid (fun W (hP : Pg W w.heap.size P) => point_pg W _ P n 0 0 (by omega) (by omega) (by omega) hP)
        generalize point2 P n 0 0 = R at *
        have HLL := Lib.hid (lastN_le R (num2 P 14))
        generalize slotS P n = sn at *
        generalize slotA P n = an at *
        have KS := Lib.hid (fun W (hP : Pg W w.heap.size R) => slots_pg W _ R hP)
        rw [HN14.out] at KS
        generalize num2 P 14 = m at *
        generalize zeroP = Z at *
        go_enter Try.func39, Try.ntmps39
        go_wp2_with fail
        refine KR.out.mono ?_
        rintro e w1 ⟨rfl, hE1⟩
        have K3 := Lib.hid (KF.out w1 (HP0.out.ext hE1))
        go_wp2_with fail
        refine K3.out.mono ?_
        rintro e w2 ⟨rfl, hE2⟩
        have hE12 := hE1.trans hE2
        have K4 := Lib.hid (KP.out w2 (HP0.out.ext hE12))
        rw [show ((0 : Nat) : Int) = 0 from rfl] at K4
        have HB2 := Lib.hid (HB0.out.ext hE12)
        have HE2 := Lib.hid (HE0.out.trans hE12)
        go_wp2_with fail
        refine K4.out.mono ?_
        rintro e w3 ⟨⟨v3, rfl⟩, hP3, hG3⟩
        have HB3 := Lib.hid (HB2.out.grown hG3 (by simp))
        have HE3 := Lib.hid (HE2.out.grown hG3 (by simp))
        clear hE1 hE2 hE12 K3 K4 KF KP HP0 HE0 HB0 KR hw0
        go_wp2_with fail
        refine (finder_pg w3 w.heap.size).mono ?_
        rintro e w4 ⟨c, rfl, hC4, hc4, hE4⟩
        have hP4 := hP3.ext hE4
        have K5 := Lib.hid (KS.out w4 hP4)
        have HB4 := Lib.hid (HB3.out.ext hE4)
        have HE4 := Lib.hid (HE3.out.trans hE4)
        have HP4 := Lib.hid hP4
        have HC4 := Lib.hid hC4
        clear hP3 hG3 hE4 hC4 hP4 HB3 HE3 HB2 HE2
        go_wp2_with fail
        refine K5.out.mono ?_
        rintro e w4' ⟨rfl, rfl⟩
        go_wp2_with fail
        have hmb : m ≤ 251 := by omega
        go_loopw [10] (fun q wr => ∃ j : Nat, j ≤ m ∧ q = .int .i64 j ∧ lastN R j = lastN R m ∧ Blk wr c 77 #[.pointer (some ⟨w.heap.size, 0, none⟩)] ∧ Pg wr w.heap.size R ∧ Blk wr (w.heap.size + 1) 23 (cells8 Z) ∧ Ext w wr) (fun i _ => (intOf i).toNat)
        case atStart => exact ⟨m, Nat.le_refl _, rfl, rfl, HC4.out, HP4.out, HB4.out, HE4.out⟩
        case round =>
          obtain ⟨j, hj, rfl, hlast, hC, hP, hB, hE⟩ := hrel
          have HLA := Lib.hid hlast
          have HC := Lib.hid hC
          have HP := Lib.hid hP
          have HB := Lib.hid hB
          have HE := Lib.hid hE
          clear hlast hC hP hB hE HC4 HP4 HB4 HE4 K5 KS
          by_cases hj0 : j = 0
          · subst hj0
            have HL0 : Hid (lastN R m = 0) := Lib.hid (by rw [← HLA.out]; rfl)
            rw [HL0.out] at HDP HDS
            rw [if_pos rfl] at HDP
            have K6 := Lib.hid (set_pg wr _ R 14 0 (by omega) (by omega) HP.out)
            rw [show ((14 : Nat) : Int) = 14 from rfl, show ((0 : Nat) : Int) = 0 from rfl] at K6
            go_wp2_with fail
            refine K6.out.mono ?_
            rintro e w5 ⟨⟨v5, rfl⟩, hP5, hG5⟩
            rw [← HDS.out] at hP5
            have HB5 := Lib.hid (HB.out.grown hG5 (by simp))
            have HE5 := Lib.hid (HE.out.grown hG5 (by simp))
            have K7 := Lib.hid (set_pg w5 _ S 16 1024 (by omega) (by omega) hP5)
            rw [show ((16 : Nat) : Int) = 16 from rfl, show ((1024 : Nat) : Int) = 1024 from rfl] at K7
            go_wp2_with fail
            refine K7.out.mono ?_
            rintro e w7 ⟨⟨v7, rfl⟩, hP7, hG7⟩
            rw [← HDP.out] at hP7
            have HP7 := Lib.hid hP7
            have HB7 := Lib.hid (HB5.out.grown hG7 (by simp))
            have HE7 := Lib.hid (HE5.out.grown hG7 (by simp))
            clear hP7 hP5 hG5 hG7 K6 K7
            go_wp2_with (first | (refine wpList_load_row rfl 23 _ rfl _ rfl _ _ _ _ HP7.out.blk Try.pgUnd rfl (pgSize HQL.out) ?_) | (refine wpList_store_row rfl 23 _ _ rfl _ _ rfl rfl _ _ HB7.out (pgSize HQL.out) (by rw [cells8_size, cells8_size, HQL.out, HZ.out]) (cells8_one Q) ?_))
            refine bodyPost_ret (results_row2 Try.results39 _ _ (w.heap.size + 1) _ (cells8 Q) (0, 0) _ rfl (HB7.out.row (cells8 Q)) Try.pgUnd rfl (pgSize HQL.out)) rfl ⟨rfl, HE7.out.setRow (by omega) _⟩
          · have hjd : decide ((0 : Int) < (j : Int)) = true := by simp; omega
            have KW := Lib.hid (where_pg wr w.heap.size c R (j - 1) (by omega) HP.out HC.out)
            have HLS : Hid (lastN R j = if slotS R (j - 1) = 0 then lastN R (j - 1) else j) := Lib.hid (by obtain ⟨k, rfl⟩ : ∃ k, j = k + 1 := ⟨j - 1, by omega⟩; simp only [lastN, Nat.add_sub_cancel])
            rw [show ((j - 1 : Nat) : Int) = (j : Int) - 1 by omega] at KW
            by_cases hs : slotS R (j - 1) = 0
            · rw [if_pos hs] at HLS
              rw [hs] at KW
              clear hs
              go_wp2_with fail
              refine KW.out.mono ?_
              rintro e w' ⟨rfl, rfl⟩
              go_wp2_with fail
              exact ⟨⟨j - 1, by omega, by rw [show ((j - 1 : Nat) : Int) = (j : Int) - 1 by omega], by rw [← HLS.out, HLA.out], HC.out.drew, ⟨HP.out.blk.drew, HP.out.len⟩, HB.out.drew, HE.out.drew⟩, by simp [intOf]; omega⟩
            · rw [if_neg hs] at HLS
              have HLm : Hid (lastN R m = j) := Lib.hid (by rw [← HLA.out, HLS.out])
              rw [HLm.out] at HDP HDS
              rw [if_neg hj0] at HDP
              have hsb : ((slotS R (j - 1) : Int) != 0) = true := by rw [bne_iff_ne]; omega
              have hsb2 : ((slotS R (j - 1) : Int) == 0) = false := by rw [beq_eq_false_iff_ne]; omega
              have hjb : ((j : Int) == 0) = false := by rw [beq_eq_false_iff_ne]; omega
              have K6 := Lib.hid (set_pg wr.drew _ R 14 j (by omega) (by omega) ⟨HP.out.blk.drew, HP.out.len⟩)
              rw [show ((14 : Nat) : Int) = 14 from rfl] at K6
              generalize slotS R (j - 1) = sj at *
              clear hs
              go_wp2_with fail
              refine KW.out.mono ?_
              rintro e w' ⟨rfl, rfl⟩
              go_wp2_with fail
              refine K6.out.mono ?_
              rintro e w7 ⟨⟨v7, rfl⟩, hP7, hG7⟩
              rw [← HDS.out, ← HDP.out] at hP7
              have HP7 := Lib.hid hP7
              have HB7 := Lib.hid (HB.out.drew.grown hG7 (by simp))
              have HE7 := Lib.hid (HE.out.drew.grown hG7 (by simp))
              clear hP7 hG7 K6 KW
              go_wp2_with (first | (refine wpList_load_row rfl 23 _ rfl _ rfl _ _ _ _ HP7.out.blk Try.pgUnd rfl (pgSize HQL.out) ?_) | (refine wpList_store_row rfl 23 _ _ rfl _ _ rfl rfl _ _ HB7.out (pgSize HQL.out) (by rw [cells8_size, cells8_size, HQL.out, HZ.out]) (cells8_one Q) ?_))
              refine bodyPost_ret (results_row2 Try.results39 _ _ (w.heap.size + 1) _ (cells8 Q) (0, 0) _ rfl (HB7.out.row (cells8 Q)) Try.pgUnd rfl (pgSize HQL.out)) rfl ⟨rfl, HE7.out.setRow (by omega) _⟩


end Go.Proofs.Ytgbfeagoadlhmaa
