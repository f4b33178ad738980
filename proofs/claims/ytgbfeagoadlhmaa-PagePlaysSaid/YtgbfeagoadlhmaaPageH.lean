
/-
  Contract of page.Set (written by pageh.py).
-/
import Derived.Test.YtgbfeagoadlhmaaPageG
set_option linter.unusedVariables false
set_option linter.unusedSimpArgs false
namespace Go.Proofs.Ytgbfeagoadlhmaa
open Go.RowKit Pl

/-- what page.Set answers -/
def setE (P : List UInt8) (z : Int) (n : Nat) : Nat := if rightB P then (if z < 0 then 2 else if 1 ≤ n ∧ n ≤ 1000 then (if hasB P z.toNat then (if slotS P z.toNat = n then 0 else 2) else 6) else 2) else 4
def setR (P : List UInt8) (z : Int) (l : List UInt8) : List UInt8 := if setE P z l.length = 0 then over P (slotA P z.toNat) l else zeroP

set_option maxHeartbeats 3200000 in
set_option maxRecDepth 100000 in
theorem Set_pg (w : World) (P : List UInt8) (z : Int) (A : Option Addr) (l : List UInt8) (c : Nat) (h : P.length = 1024) (hb : By w A l) (hl : l.length < 2 ^ 62) (hz1 : -9223372036854775808 ≤ z) (hz2 : z ≤ 9223372036854775807) :
    Calls Try.prog 40 #[.agg (cells8 P), .int .i64 z, .slice A l.length c] w fun e w' => e = .returned (.tuple #[.agg (cells8 (setR P z l)), .int .i64 (setE P z l.length : Int)]) ∧ Ext w w' := by
  have hz := (zero_of_info Try.page0).1
  have HP0 := Lib.hid ((Pg.new w P h).ext (ext_new _ (.cells (cells8 zeroP) 23)))
  have HB0 := Lib.hid (Blk.new (w.alloc (.cells (cells8 P) 23)) 23 (cells8 zeroP))
  rw [World.size_alloc] at HB0
  have HE0 := Lib.hid (((Ext.refl w).alloc (.cells (cells8 P) 23)).alloc (.cells (cells8 zeroP) 23))
  generalize hw0 : (w.alloc (.cells (cells8 P) 23)).alloc (.cells (cells8 zeroP) 23) = w0 at *
  have KR := Lib.hid (right_pg _ _ P HP0.out)
  have HZ := Lib.hid zeroP_length
  have HIE : Hid (setE P z l.length = if rightB P then (if z < 0 then 2 else if 1 ≤ l.length ∧ l.length ≤ 1000 then (if hasB P z.toNat then (if slotS P z.toNat = l.length then 0 else 2) else 6) else 2) else 4) := Lib.hid rfl
  have HIR : Hid (setR P z l = if setE P z l.length = 0 then over P (slotA P z.toNat) l else zeroP) := Lib.hid rfl
  have KM := Lib.hid (fun W => may_pg W l.length hl)
  have HHB := Lib.hid hb
  clear hb
  cases hr : rightB P with
  | false =>
    rw [hr] at KR HIE
    simp only [Bool.false_eq_true, if_false] at HIE
    rw [HIE.out] at HIR
    rw [HIE.out, HIR.out]
    clear hr
    simp only [Nat.reduceEqDiff, if_false]
    generalize zeroP = Z at *
    go_enter Try.func40, Try.ntmps40
    go_wp2_with fail
    refine KR.out.mono ?_
    rintro e w1 ⟨rfl, hE1⟩
    have HBk := Lib.hid (HB0.out.ext (hE1))
    have HEk := Lib.hid (HE0.out.trans (hE1))
    go_wp2_with (refine wpList_store_row rfl 23 _ _ rfl _ _ rfl rfl _ _ HBk.out (pgSize HZ.out) rfl (cells8_one Z) ?_)
    refine bodyPost_ret (results_row2 Try.results40 _ _ (w.heap.size + 1) _ (cells8 Z) (0, 0) _ rfl (HBk.out.row (cells8 Z)) Try.pgUnd rfl (pgSize HZ.out)) rfl ⟨rfl, HEk.out.setRow (by omega) _⟩
  | true =>
    have hle := right_le hr
    have HSL := Lib.hid (fun n hn hs => right_slot hr (n := n) hn hs)
    rw [hr] at KR HIE
    simp only [if_true] at HIE
    clear hr
    by_cases hz : z < 0
    · rw [if_pos hz] at HIE
      rw [HIE.out] at HIR
      rw [HIE.out, HIR.out]
      simp only [Nat.reduceEqDiff, if_false]
      have hzd : decide (z < 0) = true := by simpa using hz
      generalize zeroP = Z at *
      go_enter Try.func40, Try.ntmps40
      go_wp2_with fail
      refine KR.out.mono ?_
      rintro e w1 ⟨rfl, hE1⟩
      have HBk := Lib.hid (HB0.out.ext (hE1))
      have HEk := Lib.hid (HE0.out.trans (hE1))
      go_wp2_with (refine wpList_store_row rfl 23 _ _ rfl _ _ rfl rfl _ _ HBk.out (pgSize HZ.out) rfl (cells8_one Z) ?_)
      refine bodyPost_ret (results_row2 Try.results40 _ _ (w.heap.size + 1) _ (cells8 Z) (0, 0) _ rfl (HBk.out.row (cells8 Z)) Try.pgUnd rfl (pgSize HZ.out)) rfl ⟨rfl, HEk.out.setRow (by omega) _⟩
    · rw [if_neg hz] at HIE
      obtain ⟨n, rfl⟩ := Int.eq_ofNat_of_zero_le (show 0 ≤ z by omega)
      have hzd : decide ((n : Int) < 0) = false := by simp
      have KF := Lib.hid (fun W (h : Pg W w.heap.size P) => find_pg W _ P n h (by omega))
      rw [Int.toNat_natCast] at HIE HIR
      by_cases hm : 1 ≤ l.length ∧ l.length ≤ 1000
      · rw [if_pos hm] at HIE
        rw [decide_eq_true hm.1, decide_eq_true hm.2] at KM
        have HH : Hid (hasB P n = (decide (n < num2 P 14) && decide (slotS P n ≠ 0))) := Lib.hid rfl
        cases hh : hasB P n with
        | false =>
          rw [hh] at HIE KF
          simp only [Bool.false_eq_true, if_false] at HIE KF
          rw [HIE.out] at HIR
          rw [HIE.out, HIR.out]
          simp only [Nat.reduceEqDiff, if_false]
          clear hh
          generalize zeroP = Z at *
          go_enter Try.func40, Try.ntmps40
          go_wp2_with fail
          refine KR.out.mono ?_
          rintro e w1 ⟨rfl, hE1⟩
          have K2 := Lib.hid (KM.out w1)
          have K3 := Lib.hid (KF.out w1 (HP0.out.ext hE1))
          go_wp2_with fail
          refine K2.out.mono ?_
          rintro e w1' ⟨rfl, rfl⟩
          go_wp2_with fail
          refine K3.out.mono ?_
          rintro e w2 ⟨rfl, hE2⟩
          have HBk := Lib.hid (HB0.out.ext (hE1.trans hE2))
          have HEk := Lib.hid (HE0.out.trans (hE1.trans hE2))
          go_wp2_with (refine wpList_store_row rfl 23 _ _ rfl _ _ rfl rfl _ _ HBk.out (pgSize HZ.out) rfl (cells8_one Z) ?_)
          refine bodyPost_ret (results_row2 Try.results40 _ _ (w.heap.size + 1) _ (cells8 Z) (0, 0) _ rfl (HBk.out.row (cells8 Z)) Try.pgUnd rfl (pgSize HZ.out)) rfl ⟨rfl, HEk.out.setRow (by omega) _⟩
        | true =>
          rw [hh] at HIE KF HH
          simp only [if_true] at HIE KF
          have hhv := HH.out.symm
          simp only [Bool.and_eq_true, decide_eq_true_eq] at hhv
          obtain ⟨q1, q2, q3, q4⟩ := HSL.out n hhv.1 hhv.2
          clear hh hhv HH HSL
          by_cases hs : slotS P n = l.length
          · rw [if_pos hs] at HIE
            rw [HIE.out] at HIR
            rw [HIE.out, HIR.out]
            simp only [if_true]
            have HQL : Hid ((over P (slotA P n) l).length = 1024) := Lib.hid (by rw [over_length _ _ _ (by omega), h])
            have HQ : Hid (over P (slotA P n) l = over P (slotA P n) l) := Lib.hid rfl
            generalize hQ : over P (slotA P n) l = Q at HQL HIR ⊢
            have HQ2 := Lib.hid hQ
            have hne : ((slotS P n : Int) != (l.length : Int)) = false := by rw [hs]; simp
            have hne2 : ((slotS P n : Int) == (l.length : Int)) = true := by rw [hs]; simp
            have hsl := fun W => slice_pgl w.heap.size (slotA P n) (by omega) W
            have q5 : slotA P n + l.length ≤ 1024 := by omega
            generalize slotA P n = an at *
            generalize slotS P n = sn at *
            clear hs hQ HQ
            generalize zeroP = Z at *
            go_enter Try.func40, Try.ntmps40
            go_wp2_with fail
            refine KR.out.mono ?_
            rintro e w1 ⟨rfl, hE1⟩
            have K2 := Lib.hid (KM.out w1)
            have K3 := Lib.hid (KF.out w1 (HP0.out.ext hE1))
            go_wp2_with fail
            refine K2.out.mono ?_
            rintro e w1' ⟨rfl, rfl⟩
            go_wp2_with fail
            refine K3.out.mono ?_
            rintro e w2 ⟨rfl, hE2⟩
            have hE12 := hE1.trans hE2
            have HP2 := Lib.hid (HP0.out.ext hE12)
            have HB2 := Lib.hid (HB0.out.ext hE12)
            have HE2 := Lib.hid (HE0.out.trans hE12)
            have HBY := Lib.hid (HHB.out.ext HE2.out)
            have HML : Hid (l.length = min l.length (1024 - an)) := Lib.hid (by rw [Nat.min_eq_left (by omega)])
            have HC5 : Hid (an + l.length ≤ P.length) := Lib.hid (by omega)
            go_wp2_with (refine wpList_copy8g (w := w2) Try.byt rfl (.tmp 39) (.tmp 40) rfl HP2.out.blk HBY.out an (1024 - an) (1024 - an) l.length c HML.out (some ⟨w.heap.size, an, none⟩) rfl rfl HC5.out (fun _ => rfl) ?_)
            intro w7 hB7 hU7
            have HP7 := Lib.hid (HP2.out.over hB7 (by omega))
            rw [HQ2.out] at HP7
            have HB7 := Lib.hid (HB2.out.grown hU7.grown (by simp))
            have HE7 := Lib.hid (HE2.out.grown hU7.grown (by simp))
            clear hB7 hU7
            go_wp2_with (first | (refine wpList_load_row rfl 23 _ rfl _ rfl _ _ _ _ HP7.out.blk Try.pgUnd rfl (pgSize HQL.out) ?_) | (refine wpList_store_row rfl 23 _ _ rfl _ _ rfl rfl _ _ HB7.out (pgSize HQL.out) (by rw [cells8_size, cells8_size, HQL.out, HZ.out]) (cells8_one Q) ?_))
            refine bodyPost_ret (results_row2 Try.results40 _ _ (w.heap.size + 1) _ (cells8 Q) (0, 0) _ rfl (HB7.out.row (cells8 Q)) Try.pgUnd rfl (pgSize HQL.out)) rfl ⟨rfl, HE7.out.setRow (by omega) _⟩
          · rw [if_neg hs] at HIE
            rw [HIE.out] at HIR
            rw [HIE.out, HIR.out]
            simp only [Nat.reduceEqDiff, if_false]
            have hne : ((slotS P n : Int) != (l.length : Int)) = true := by rw [bne_iff_ne]; omega
            have hne2 : ((slotS P n : Int) == (l.length : Int)) = false := by rw [beq_eq_false_iff_ne]; omega
            generalize slotS P n = sn at *
            clear hs
            generalize zeroP = Z at *
            go_enter Try.func40, Try.ntmps40
            go_wp2_with fail
            refine KR.out.mono ?_
            rintro e w1 ⟨rfl, hE1⟩
            have K2 := Lib.hid (KM.out w1)
            have K3 := Lib.hid (KF.out w1 (HP0.out.ext hE1))
            go_wp2_with fail
            refine K2.out.mono ?_
            rintro e w1' ⟨rfl, rfl⟩
            go_wp2_with fail
            refine K3.out.mono ?_
            rintro e w2 ⟨rfl, hE2⟩
            have HBk := Lib.hid (HB0.out.ext (hE1.trans hE2))
            have HEk := Lib.hid (HE0.out.trans (hE1.trans hE2))
            go_wp2_with (refine wpList_store_row rfl 23 _ _ rfl _ _ rfl rfl _ _ HBk.out (pgSize HZ.out) rfl (cells8_one Z) ?_)
            refine bodyPost_ret (results_row2 Try.results40 _ _ (w.heap.size + 1) _ (cells8 Z) (0, 0) _ rfl (HBk.out.row (cells8 Z)) Try.pgUnd rfl (pgSize HZ.out)) rfl ⟨rfl, HEk.out.setRow (by omega) _⟩
      · rw [if_neg hm] at HIE
        rw [HIE.out] at HIR
        rw [HIE.out, HIR.out]
        simp only [Nat.reduceEqDiff, if_false]
        rw [show (decide (1 ≤ l.length) && decide (l.length ≤ 1000)) = false by simp; omega] at KM
        generalize zeroP = Z at *
        go_enter Try.func40, Try.ntmps40
        go_wp2_with fail
        refine KR.out.mono ?_
        rintro e w1 ⟨rfl, hE1⟩
        have K2 := Lib.hid (KM.out w1)
        go_wp2_with fail
        refine K2.out.mono ?_
        rintro e w1' ⟨rfl, rfl⟩
        have HBk := Lib.hid (HB0.out.ext (hE1))
        have HEk := Lib.hid (HE0.out.trans (hE1))
        go_wp2_with (refine wpList_store_row rfl 23 _ _ rfl _ _ rfl rfl _ _ HBk.out (pgSize HZ.out) rfl (cells8_one Z) ?_)
        refine bodyPost_ret (results_row2 Try.results40 _ _ (w.heap.size + 1) _ (cells8 Z) (0, 0) _ rfl (HBk.out.row (cells8 Z)) Try.pgUnd rfl (pgSize HZ.out)) rfl ⟨rfl, HEk.out.setRow (by omega) _⟩

end Go.Proofs.Ytgbfeagoadlhmaa
