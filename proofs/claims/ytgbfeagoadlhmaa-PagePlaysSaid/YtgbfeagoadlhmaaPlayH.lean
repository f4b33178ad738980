
/-
  Contract of ref05.Drop.
-/
import Derived.Test.YtgbfeagoadlhmaaPlayD
import Derived.Test.YtgbfeagoadlhmaaPlayF
set_option linter.unusedVariables false
set_option linter.unusedSimpArgs false
namespace Go.Proofs.Ytgbfeagoadlhmaa
open Go.RowKit Pl

attribute [local go_sem] Oper.semAt_some

theorem lastN_empty {R : List UInt8} {k : Nat} (h : slotS R k = 0) : lastN R (k + 1) = lastN R k := by
  show (if slotS R k = 0 then _ else _) = _
  rw [if_pos h]
theorem lastN_full {R : List UInt8} {k : Nat} (h : slotS R k ≠ 0) : lastN R (k + 1) = k + 1 := by
  show (if slotS R k = 0 then _ else _) = _
  rw [if_neg h]

set_option maxHeartbeats 3200000 in
set_option maxRecDepth 100000 in
theorem Drop_ref (w : World) (P : List UInt8) (z : Int) (h : P.length = 1024) (hz1 : -9223372036854775808 ≤ z) (hz2 : z ≤ 9223372036854775807) :
    Calls Try.prog 63 #[.agg (cells8 P), .int .i64 z] w fun e w' => e = .returned (.tuple #[.agg (cells8 (dropR P z)), .int .i64 (itemE P z : Int)]) ∧ Ext w w' := by
  have hzs : ∀ W, (zeroValue 128).run Try.prog W = .ok (.agg #[.int .i64 0, .int .i64 0]) W := fun W => by kernel_rfl
  have hz := (zero_of_info Try.page0).1
  have HPL := Lib.hid h
  have HP0 := Lib.hid ((Pg.new w P h).ext (ext_new _ (.cells (cells8 zeroP) 23)))
  have HB0 := Lib.hid (Blk.new (w.alloc (.cells (cells8 P) 23)) 23 (cells8 zeroP))
  rw [World.size_alloc] at HB0
  have HE0 := Lib.hid (((Ext.refl w).alloc (.cells (cells8 P) 23)).alloc (.cells (cells8 zeroP) 23))
  generalize hw0 : (w.alloc (.cells (cells8 P) 23)).alloc (.cells (cells8 zeroP) 23) = w0 at *
  have HIR : Hid (dropR P z = if itemE P z = 0 then dropP P z.toNat else zeroP) := Lib.hid rfl
  have HZ := Lib.hid zeroP_length
  have KF := Lib.hid (fun W => find_ref W P z h hz1 hz2)
  have hbz := fun W => build_pg hz W
  by_cases he : itemE P z = 0
  · obtain ⟨hr, hz0, hk, _, _, _, _⟩ := item_yes h he
    have hle := right_le hr
    have hV := (right_iff P).1 hr
    rw [if_pos he] at HIR
    rw [HIR.out, he]
    rw [he] at KF
    rw [show ((0 : Nat) : Int) = 0 from rfl] at KF ⊢
    clear he hr
    obtain ⟨n, rfl⟩ := Int.eq_ofNat_of_zero_le hz0
    rw [Int.toNat_natCast] at *
    have hn4 : 18 + 4 * n + 4 ≤ 1024 := by omega
    have HRL : Hid ((point2 P n 0 0).length = 1024) := Lib.hid (point2_length P n 0 0 h hn4)
    have K1 := fun W => with_ref W P h (18 + 4 * n) 0 (by omega) (by omega)
    have HSL : Hid ((set2 P (18 + 4 * n) 0).length = 1024) := Lib.hid (set2_length _ _ _ h (by omega))
    have K2 := fun W => with_ref W _ HSL.out (18 + 4 * n + 2) 0 (by omega) (by omega)
    rw [show set2 (set2 P (18 + 4 * n) 0) (18 + 4 * n + 2) 0 = point2 P n 0 0 from rfl] at K2
    have hm : num2 (point2 P n 0 0) 14 = num2 P 14 := by
      unfold point2
      rw [num2_set2_far (by rw [HSL.out]; omega) (by rw [HSL.out]; omega) (by omega), num2_set2_far (by omega) (by omega) (by omega)]
    have K3 := fun W => num_ref W _ HRL.out 14 (by omega)
    rw [hm] at K3
    have HEM : Hid (∀ j, j < num2 P 14 → slotS (point2 P n 0 0) j = 0 → slotA (point2 P n 0 0) j = 0) := Lib.hid (fun j hj hs => by
      have e := slot_point2 (x := 0) (y := 0) (k := j) h hn4 (by omega) (by omega) (by omega)
      rw [e.2] at hs
      rw [e.1]
      by_cases hjn : j = n
      · rw [if_pos hjn]
      · rw [if_neg hjn] at hs ⊢
        exact hV.none hj hs)
    have HDP : Hid (dropP P n = if lastN (point2 P n 0 0) (num2 P 14) = 0 then set2 (set2 (point2 P n 0 0) 14 (lastN (point2 P n 0 0) (num2 P 14))) 16 1024 else set2 (point2 P n 0 0) 14 (lastN (point2 P n 0 0) (num2 P 14))) := Lib.hid rfl
    have hm16 := num2_lt P 14
    generalize slA P (n : Int) = a at *
    generalize slN P (n : Int) = s at *
    generalize hS : set2 P (18 + 4 * n) 0 = S at *
    generalize hR : point2 P n 0 0 = R at *
    generalize num2 P 14 = m at *
    generalize dropP P n = D at *
    simp only [show ((14 : Nat) : Int) = 14 from rfl, show ((0 : Nat) : Int) = 0 from rfl, show ((18 + 4 * n : Nat) : Int) = 18 + 4 * (n : Int) by omega, show ((18 + 4 * n + 2 : Nat) : Int) = 18 + 4 * (n : Int) + 2 by omega] at K1 K2 K3
    have K1 := Lib.hid K1
    have K2 := Lib.hid K2
    have K3 := Lib.hid K3
    have K4 := fun W j (hj : j ≤ m) => with_ref W R HRL.out 14 j (by omega) (by omega)
    have K5 := fun W j (hj : j ≤ m) => with_ref W (set2 R 14 j) (set2_length _ _ _ HRL.out (by omega)) 16 1024 (by omega) (by omega)
    simp only [show ((14 : Nat) : Int) = 14 from rfl, show ((16 : Nat) : Int) = 16 from rfl, show ((1024 : Nat) : Int) = 1024 from rfl] at K4 K5
    have K4 := Lib.hid K4
    have K5 := Lib.hid K5
    have HJL := Lib.hid (fun j => set2_length R 14 j HRL.out (by omega))
    have HJL2 := Lib.hid (fun j => set2_length (set2 R 14 j) 16 1024 (HJL.out j) (by omega))
    have KNA := Lib.hid (fun W j (hj : j < m) => num_ref W R HRL.out (18 + 4 * j) (by omega))
    have KNS := Lib.hid (fun W j (hj : j < m) => num_ref W R HRL.out (18 + 4 * j + 2) (by omega))
    clear hV hS hR hm h hk HIR
    go_enter Try.func63, Try.ntmps63
    go_wp2_with (refine wpList_load_row rfl 23 _ rfl _ rfl _ _ _ _ HP0.out.blk Try.pgUnd rfl (pgSize HPL.out) ?_)
    refine (KF.out _).mono ?_
    rintro e w1 ⟨rfl, hE1⟩
    have HP1 := Lib.hid (HP0.out.ext hE1)
    have HB1 := Lib.hid (HB0.out.ext hE1)
    have HE1 := Lib.hid (HE0.out.trans hE1)
    have HBs := Lib.hid (Blk.new w1 128 #[.int .i64 0, .int .i64 0])
    have HX1 := Lib.hid ((ext_new w1 (.cells #[.int .i64 0, .int .i64 0] 128)).setRow (Nat.le_refl w1.heap.size) #[.int .i64 (a : Int), .int .i64 (s : Int)])
    have HEt := Lib.hid (HE1.out.trans HX1.out)
    have HPt := Lib.hid (HP1.out.ext HX1.out)
    have HZt := Lib.hid (HB1.out.ext HX1.out)
    clear hE1 HP0 HB0 HE0 HP1 HB1 HE1 KF
    obtain ⟨w2, hw2⟩ : ∃ w2, (w1.alloc (.cells #[.int .i64 0, .int .i64 0] 128)).setRow w1.heap.size #[.int .i64 (a : Int), .int .i64 (s : Int)] = w2 := ⟨_, rfl⟩
    rw [hw2] at HEt HPt HZt
    clear HX1
    go_wp2_with (first | (refine wpList_store_row rfl 128 _ _ rfl _ _ rfl rfl _ _ HBs.out (Try.slSize _ _) rfl (sl_one _ _) ?_; rw [hw2]; clear hw2 HBs) | (refine wpList_load_row rfl 23 _ rfl _ rfl _ _ _ _ HPt.out.blk Try.pgUnd rfl (pgSize HPL.out) ?_))
    refine (K1.out _).mono ?_
    rintro e w3 ⟨rfl, hE3⟩
    go_wp2_with fail
    refine (K2.out _).mono ?_
    rintro e w4 ⟨rfl, hE4⟩
    have HP4 := Lib.hid ((HPt.out.ext hE3).ext hE4)
    have HB4 := Lib.hid ((HZt.out.ext hE3).ext hE4)
    have HE4 := Lib.hid ((HEt.out.trans hE3).trans hE4)
    clear hE3 hE4 HPt HZt HEt
    have HP5 := Lib.hid (HP4.out.blk.row (cells8 R))
    have HB5 := Lib.hid (HB4.out.grown (grown_row w4 w.heap.size (cells8 R)) (by simp))
    have HE5 := Lib.hid (HE4.out.setRow (Nat.le_refl w.heap.size) (cells8 R))
    go_wp2_with (first | (refine wpList_store_row rfl 23 _ _ rfl _ _ rfl rfl _ _ HP4.out.blk (pgSize HRL.out) (by rw [cells8_size, cells8_size, HRL.out, HPL.out]) (cells8_one R) ?_; generalize w4.setRow w.heap.size (cells8 R) = w5 at *) | (refine wpList_load_row rfl 23 _ rfl _ rfl _ _ _ _ HP5.out Try.pgUnd rfl (pgSize HRL.out) ?_))
    refine (K3.out _).mono ?_
    rintro e w6 ⟨rfl, hE6⟩
    have HP6 : Hid (Pg w6 w.heap.size R) := Lib.hid ⟨HP5.out.ext hE6, HRL.out⟩
    have HB6 := Lib.hid (HB5.out.ext hE6)
    have HE6 := Lib.hid (HE5.out.trans hE6)
    clear hE6 HP4 HB4 HE4 HP5 HB5 HE5
    go_wp2_with fail
    go_loopw [8] (fun q wr => ∃ j : Nat, j ≤ m ∧ q = .int .i64 (j : Int) ∧ lastN R j = lastN R m ∧ Pg wr w.heap.size R ∧ Blk wr (w.heap.size + 1) 23 (cells8 zeroP) ∧ Ext w wr) (fun q _ => (intOf q).toNat)
    case atStart => exact ⟨m, Nat.le_refl _, rfl, rfl, HP6.out, HB6.out, HE6.out⟩
    case round =>
      obtain ⟨j, hj, rfl, hlast, hP, hB, hE⟩ := hrel
      have HLA := Lib.hid hlast
      have HP := Lib.hid hP
      have HB := Lib.hid hB
      have HE := Lib.hid hE
      clear hlast hP hB hE HP6 HB6 HE6
      have HENDE : True := trivial
      by_cases hj0 : 0 < j
      · have dj : decide (0 < j) = true := decide_eq_true hj0
        have dj' : decide ((0 : Int) < (j : Int)) = true := decide_eq_true (by omega)
        have KA := fun W => KNA.out W (j - 1) (by omega)
        have KS := fun W => KNS.out W (j - 1) (by omega)
        simp only [show ((18 + 4 * (j - 1) : Nat) : Int) = 18 + 4 * (j : Int) - 4 by omega, show ((18 + 4 * (j - 1) + 2 : Nat) : Int) = 18 + 4 * (j : Int) - 2 by omega, show num2 R (18 + 4 * (j - 1)) = slotA R (j - 1) from rfl, show num2 R (18 + 4 * (j - 1) + 2) = slotS R (j - 1) from rfl] at KA KS
        have KA := Lib.hid KA
        have KS := Lib.hid KS
        have HEJ := Lib.hid (HEM.out (j - 1) (by omega))
        have HL1 := Lib.hid (lastN_empty (R := R) (k := j - 1))
        have HL2 := Lib.hid (lastN_full (R := R) (k := j - 1))
        rw [show j - 1 + 1 = j by omega] at HL1 HL2
        have hl1 := load_pg HP.out.blk HRL.out
        by_cases ha : slotA R (j - 1) = 0
        · have ea : ((slotA R (j - 1) : Int) == 0) = true := by rw [beq_iff_eq]; omega
          by_cases hs : slotS R (j - 1) = 0
          · have es : ((slotS R (j - 1) : Int) == 0) = true := by rw [beq_iff_eq]; omega
            have hll := Lib.hid (HL1.out hs)
            clear HL1 HL2 HEJ ha hs
            generalize slotA R (j - 1) = a9 at *
            generalize slotS R (j - 1) = s9 at *
            go_wp2_with (refine wpList_load_g rfl 23 _ rfl _ rfl _ hl1 ?_)
            refine (KA.out _).mono ?_
            rintro e w7 ⟨rfl, hE7⟩
            have HP7 := Lib.hid (HP.out.ext hE7)
            have HB7 := Lib.hid (HB.out.ext hE7)
            have HE7 := Lib.hid (HE.out.trans hE7)
            have hl2 := load_pg HP7.out.blk HRL.out
            clear hE7 HP HB HE hl1
            go_wp2_with (refine wpList_load_g rfl 23 _ rfl _ rfl _ hl2 ?_)
            refine (KS.out _).mono ?_
            rintro e w8 ⟨rfl, hE8⟩
            have HP8 := Lib.hid (HP7.out.ext hE8)
            have HB8 := Lib.hid (HB7.out.ext hE8)
            have HE8 := Lib.hid (HE7.out.trans hE8)
            clear hE8 HP7 HB7 HE7 hl2
            go_wp2_with fail
            exact ⟨⟨j - 1, by omega, by rw [show ((j - 1 : Nat) : Int) = (j : Int) - 1 by omega], by rw [← hll.out, HLA.out], HP8.out, HB8.out, HE8.out⟩, by simp [intOf]; omega⟩
          · have es : ((slotS R (j - 1) : Int) == 0) = false := by rw [beq_eq_false_iff_ne]; omega
            have hlj := Lib.hid (show lastN R m = j by rw [← HLA.out]; exact HL2.out hs)
            clear ha hs
            clear HL1 HL2 HEJ
            generalize slotA R (j - 1) = a9 at *
            generalize slotS R (j - 1) = s9 at *
            go_wp2_with (refine wpList_load_g rfl 23 _ rfl _ rfl _ hl1 ?_)
            refine (KA.out _).mono ?_
            rintro e w7 ⟨rfl, hE7⟩
            have HP7 := Lib.hid (HP.out.ext hE7)
            have HB7 := Lib.hid (HB.out.ext hE7)
            have HE7 := Lib.hid (HE.out.trans hE7)
            have hl2 := load_pg HP7.out.blk HRL.out
            clear hE7 HP HB HE hl1
            go_wp2_with (refine wpList_load_g rfl 23 _ rfl _ rfl _ hl2 ?_)
            refine (KS.out _).mono ?_
            rintro e w8 ⟨rfl, hE8⟩
            have HP8 := Lib.hid (HP7.out.ext hE8)
            have HB8 := Lib.hid (HB7.out.ext hE8)
            have HE8 := Lib.hid (HE7.out.trans hE8)
            clear hE8 HP7 HB7 HE7 hl2
            have hD := Lib.hid (show D = set2 R 14 j by rw [HDP.out, hlj.out, if_neg (by omega)])
            have e0 : ((j : Int) == 0) = false := by rw [beq_eq_false_iff_ne]; omega
            have K4j := Lib.hid (fun W => K4.out W j (by omega))
            have HJj := Lib.hid (HJL.out j)
            go_wp2_with (refine wpList_load_row rfl 23 _ rfl _ rfl _ _ _ _ HP8.out.blk Try.pgUnd rfl (pgSize HRL.out) ?_)
            refine (K4j.out _).mono ?_
            rintro e wa ⟨rfl, hEa⟩
            have HPa := Lib.hid (HP8.out.ext hEa)
            have HBa := Lib.hid (HB8.out.ext hEa)
            have HEa := Lib.hid (HE8.out.trans hEa)
            have HPb := Lib.hid (HPa.out.blk.row (cells8 (set2 R 14 j)))
            have HBb := Lib.hid (HBa.out.grown (grown_row wa w.heap.size (cells8 (set2 R 14 j))) (by simp))
            have HEb := Lib.hid (HEa.out.setRow (Nat.le_refl w.heap.size) (cells8 (set2 R 14 j)))
            clear hEa
            go_wp2_with (first | (refine wpList_store_row rfl 23 _ _ rfl _ _ rfl rfl _ _ HPa.out.blk (pgSize HJj.out) (by rw [cells8_size, cells8_size, HJj.out, HRL.out]) (cells8_one _) ?_; generalize wa.setRow w.heap.size (cells8 (set2 R 14 j)) = wb at *) | (refine wpList_load_row rfl 23 _ rfl _ rfl _ _ _ _ HPb.out Try.pgUnd rfl (pgSize HJj.out) ?_) | (refine wpList_store_row rfl 23 _ _ rfl _ _ rfl rfl _ _ HBb.out (pgSize HJj.out) (by rw [cells8_size, cells8_size, HJj.out, HZ.out]) (cells8_one _) ?_))
            refine bodyPost_ret (results_row2 Try.results63 _ _ (w.heap.size + 1) _ (cells8 (set2 R 14 j)) (0, 0) _ rfl (HBb.out.row _) Try.pgUnd rfl (pgSize HJj.out)) rfl ⟨by rw [hD.out]; rfl, HEb.out.setRow (by omega) _⟩
        · have ea : ((slotA R (j - 1) : Int) == 0) = false := by rw [beq_eq_false_iff_ne]; omega
          have hs : slotS R (j - 1) ≠ 0 := fun q => ha (HEJ.out q)
          have hlj := Lib.hid (show lastN R m = j by rw [← HLA.out]; exact HL2.out hs)
          clear ha hs
          clear HL1 HL2 HEJ
          generalize slotA R (j - 1) = a9 at *
          generalize slotS R (j - 1) = s9 at *
          go_wp2_with (refine wpList_load_g rfl 23 _ rfl _ rfl _ hl1 ?_)
          refine (KA.out _).mono ?_
          rintro e w7 ⟨rfl, hE7⟩
          have HP7 := Lib.hid (HP.out.ext hE7)
          have HB7 := Lib.hid (HB.out.ext hE7)
          have HE7 := Lib.hid (HE.out.trans hE7)
          clear hE7 HP HB HE hl1
          have hD := Lib.hid (show D = set2 R 14 j by rw [HDP.out, hlj.out, if_neg (by omega)])
          have e0 : ((j : Int) == 0) = false := by rw [beq_eq_false_iff_ne]; omega
          have K4j := Lib.hid (fun W => K4.out W j (by omega))
          have HJj := Lib.hid (HJL.out j)
          go_wp2_with (refine wpList_load_row rfl 23 _ rfl _ rfl _ _ _ _ HP7.out.blk Try.pgUnd rfl (pgSize HRL.out) ?_)
          refine (K4j.out _).mono ?_
          rintro e wa ⟨rfl, hEa⟩
          have HPa := Lib.hid (HP7.out.ext hEa)
          have HBa := Lib.hid (HB7.out.ext hEa)
          have HEa := Lib.hid (HE7.out.trans hEa)
          have HPb := Lib.hid (HPa.out.blk.row (cells8 (set2 R 14 j)))
          have HBb := Lib.hid (HBa.out.grown (grown_row wa w.heap.size (cells8 (set2 R 14 j))) (by simp))
          have HEb := Lib.hid (HEa.out.setRow (Nat.le_refl w.heap.size) (cells8 (set2 R 14 j)))
          clear hEa
          go_wp2_with (first | (refine wpList_store_row rfl 23 _ _ rfl _ _ rfl rfl _ _ HPa.out.blk (pgSize HJj.out) (by rw [cells8_size, cells8_size, HJj.out, HRL.out]) (cells8_one _) ?_; generalize wa.setRow w.heap.size (cells8 (set2 R 14 j)) = wb at *) | (refine wpList_load_row rfl 23 _ rfl _ rfl _ _ _ _ HPb.out Try.pgUnd rfl (pgSize HJj.out) ?_) | (refine wpList_store_row rfl 23 _ _ rfl _ _ rfl rfl _ _ HBb.out (pgSize HJj.out) (by rw [cells8_size, cells8_size, HJj.out, HZ.out]) (cells8_one _) ?_))
          refine bodyPost_ret (results_row2 Try.results63 _ _ (w.heap.size + 1) _ (cells8 (set2 R 14 j)) (0, 0) _ rfl (HBb.out.row _) Try.pgUnd rfl (pgSize HJj.out)) rfl ⟨by rw [hD.out]; rfl, HEb.out.setRow (by omega) _⟩
      · obtain rfl : j = 0 := by omega
        have hlj : Hid (lastN R m = 0) := Lib.hid (by rw [← HLA.out]; rfl)
        have hD := Lib.hid (show D = set2 (set2 R 14 0) 16 1024 by rw [HDP.out, hlj.out, if_pos rfl])
        have K40 := fun W => K4.out W 0 (by omega)
        have K50 := fun W => K5.out W 0 (by omega)
        simp only [show ((0 : Nat) : Int) = 0 from rfl] at K40
        have K40 := Lib.hid K40
        have K50 := Lib.hid K50
        have HJj := Lib.hid (HJL.out 0)
        have HJk := Lib.hid (HJL2.out 0)
        simp only [show ((0 : Nat) : Int) = 0 from rfl]
        generalize hq : set2 R 14 0 = R1 at *
        generalize hq2 : set2 R1 16 1024 = R2 at *
        clear hq hq2 HJL HJL2 K4 K5
        go_wp2_with (refine wpList_load_row rfl 23 _ rfl _ rfl _ _ _ _ HP.out.blk Try.pgUnd rfl (pgSize HRL.out) ?_)
        refine (K40.out _).mono ?_
        rintro e wa ⟨rfl, hEa⟩
        have HPa := Lib.hid (HP.out.ext hEa)
        have HBa := Lib.hid (HB.out.ext hEa)
        have HEa := Lib.hid (HE.out.trans hEa)
        have HPb := Lib.hid (HPa.out.blk.row (cells8 R1))
        have HBb := Lib.hid (HBa.out.grown (grown_row wa w.heap.size (cells8 R1)) (by simp))
        have HEb := Lib.hid (HEa.out.setRow (Nat.le_refl w.heap.size) (cells8 R1))
        clear hEa
        go_wp2_with (first | (refine wpList_store_row rfl 23 _ _ rfl _ _ rfl rfl _ _ HPa.out.blk (pgSize HJj.out) (by rw [cells8_size, cells8_size, HJj.out, HRL.out]) (cells8_one _) ?_; generalize wa.setRow w.heap.size (cells8 R1) = wb at *) | (refine wpList_load_row rfl 23 _ rfl _ rfl _ _ _ _ HPb.out Try.pgUnd rfl (pgSize HJj.out) ?_))
        refine (K50.out _).mono ?_
        rintro e wd ⟨rfl, hEd⟩
        have HPd := Lib.hid (HPb.out.ext hEd)
        have HBd := Lib.hid (HBb.out.ext hEd)
        have HEd := Lib.hid (HEb.out.trans hEd)
        have HPe := Lib.hid (HPd.out.row (cells8 R2))
        have HBe := Lib.hid (HBd.out.grown (grown_row wd w.heap.size (cells8 R2)) (by simp))
        have HEe := Lib.hid (HEd.out.setRow (Nat.le_refl w.heap.size) (cells8 R2))
        clear hEd
        go_wp2_with (first | (refine wpList_store_row rfl 23 _ _ rfl _ _ rfl rfl _ _ HPd.out (pgSize HJk.out) (by rw [cells8_size, cells8_size, HJk.out, HJj.out]) (cells8_one _) ?_; generalize wd.setRow w.heap.size (cells8 R2) = we at *) | (refine wpList_load_row rfl 23 _ rfl _ rfl _ _ _ _ HPe.out Try.pgUnd rfl (pgSize HJk.out) ?_) | (refine wpList_store_row rfl 23 _ _ rfl _ _ rfl rfl _ _ HBe.out (pgSize HJk.out) (by rw [cells8_size, cells8_size, HJk.out, HZ.out]) (cells8_one _) ?_))
        refine bodyPost_ret (results_row2 Try.results63 _ _ (w.heap.size + 1) _ (cells8 R2) (0, 0) _ rfl (HBe.out.row _) Try.pgUnd rfl (pgSize HJk.out)) rfl ⟨by rw [hD.out]; rfl, HEe.out.setRow (by omega) _⟩
  · rw [if_neg he] at HIR
    rw [HIR.out]
    have hne : ((itemE P z : Int) != 0) = true := by rw [bne_iff_ne]; omega
    clear HIR he h
    generalize itemE P z = en at *
    generalize slA P z = a at *
    generalize slN P z = s at *
    generalize zeroP = Z at *
    go_enter Try.func63, Try.ntmps63
    go_wp2_with (refine wpList_load_row rfl 23 _ rfl _ rfl _ _ _ _ HP0.out.blk Try.pgUnd rfl (pgSize HPL.out) ?_)
    refine (KF.out _).mono ?_
    rintro e w1 ⟨rfl, hE1⟩
    have HB1 := Lib.hid (HB0.out.ext hE1)
    have HE1 := Lib.hid (HE0.out.trans hE1)
    have HBs := Lib.hid (Blk.new w1 128 #[.int .i64 0, .int .i64 0])
    have HX1 := Lib.hid ((ext_new w1 (.cells #[.int .i64 0, .int .i64 0] 128)).setRow (Nat.le_refl w1.heap.size) #[.int .i64 (a : Int), .int .i64 (s : Int)])
    have HEt := Lib.hid (HE1.out.trans HX1.out)
    have HZt := Lib.hid (HB1.out.ext HX1.out)
    clear hE1 HP0 HB0 HE0 HB1 HE1 KF
    obtain ⟨w2, hw2⟩ : ∃ w2, (w1.alloc (.cells #[.int .i64 0, .int .i64 0] 128)).setRow w1.heap.size #[.int .i64 (a : Int), .int .i64 (s : Int)] = w2 := ⟨_, rfl⟩
    rw [hw2] at HEt HZt
    clear HX1
    go_wp2_with (first | (refine wpList_store_row rfl 128 _ _ rfl _ _ rfl rfl _ _ HBs.out (Try.slSize _ _) rfl (sl_one _ _) ?_; rw [hw2]; clear hw2 HBs) | (refine wpList_store_row rfl 23 _ _ rfl _ _ rfl rfl _ _ HZt.out (pgSize HZ.out) rfl (cells8_one Z) ?_))
    refine bodyPost_ret (results_row2 Try.results63 _ _ (w.heap.size + 1) _ (cells8 Z) (0, 0) _ rfl (HZt.out.row (cells8 Z)) Try.pgUnd rfl (pgSize HZ.out)) rfl ⟨rfl, HEt.out.setRow (by omega) _⟩

end Go.Proofs.Ytgbfeagoadlhmaa
