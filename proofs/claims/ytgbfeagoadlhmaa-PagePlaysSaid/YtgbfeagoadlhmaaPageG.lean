
/-
  Plain facts on pages; contract of page.Insert.
-/
import Derived.Test.YtgbfeagoadlhmaaPageF
set_option linter.unusedVariables false
set_option linter.unusedSimpArgs false
namespace Go.Proofs.Ytgbfeagoadlhmaa
open Go.RowKit Pl

theorem over_get (D : List UInt8) (o : Nat) (l : List UInt8) (h : o + l.length ≤ D.length) (i : Nat) : (over D o l).getD i 0 = if o ≤ i ∧ i < o + l.length then l.getD (i - o) 0 else D.getD i 0 := by
  unfold over
  simp only [List.getD_eq_getElem?_getD, List.getElem?_append, List.length_append, List.length_take, List.getElem?_take, List.getElem?_drop]
  rw [Nat.min_eq_left (by omega)]
  by_cases h1 : i < o
  · have h3 : i < o + l.length := by omega
    rw [if_pos h3, if_pos h1, if_pos h1, if_neg (show ¬ (o ≤ i ∧ i < o + l.length) by omega)]
  · by_cases h2 : i < o + l.length
    · have h4 : o ≤ i := by omega
      have h5 : i - o < l.length := by omega
      simp [h1, h2, h4, h5]
    · rw [if_neg h2, if_neg (show ¬ (o ≤ i ∧ i < o + l.length) by omega)]
      congr 2; omega
theorem num2_get (P : List UInt8) (a : Nat) (h : a + 2 ≤ P.length) : num2 P a = (P.getD a 0).toNat * 256 + (P.getD (a + 1) 0).toNat := by
  unfold num2
  have : (P.drop a).take 2 = [P.getD a 0] ++ [P.getD (a + 1) 0] := by
    have h1 : a < P.length := by omega
    have h2 : a + 1 < P.length := by omega
    rw [List.drop_eq_getElem_cons h1, List.drop_eq_getElem_cons h2]
    rw [List.getD_eq_getElem?_getD, List.getD_eq_getElem?_getD, List.getElem?_eq_getElem h1, List.getElem?_eq_getElem h2]
    rfl
  rw [this, num_snoc, num_one]
theorem num2_over_far {P : List UInt8} {a o : Nat} {l : List UInt8} (h : a + 2 ≤ P.length) (ho : o + l.length ≤ P.length) (hf : a + 2 ≤ o ∨ o + l.length ≤ a) : num2 (over P o l) a = num2 P a := by
  rw [num2_get _ _ (by rw [over_length _ _ _ ho]; exact h), num2_get _ _ h, over_get _ _ _ ho, over_get _ _ _ ho, if_neg (by omega), if_neg (by omega)]
theorem num2_set2_far {P : List UInt8} {a o n : Nat} (h : a + 2 ≤ P.length) (ho : o + 2 ≤ P.length) (hf : a + 2 ≤ o ∨ o + 2 ≤ a) : num2 (set2 P o n) a = num2 P a :=
  num2_over_far h (by rw [put_length]; exact ho) (by rw [put_length]; exact hf)
theorem num2_set2 {P : List UInt8} {a n : Nat} (h : a + 2 ≤ P.length) (hn : n < 65536) : num2 (set2 P a n) a = n := by
  unfold num2 set2 over
  rw [List.append_assoc, List.drop_append_of_le_length (by rw [List.length_take]; omega)]
  rw [List.drop_of_length_le (by rw [List.length_take]; omega), List.nil_append, List.take_append_of_le_length (by rw [put_length]; omega), List.take_of_length_le (by rw [put_length]; omega)]
  exact num_put n 2 hn

/-- what page.Insert makes of a page -/
def insS (P : List UInt8) : List UInt8 := if emptyN P (num2 P 14) = num2 P 14 then set2 P 14 (emptyN P (num2 P 14) + 1) else P
def insP (P l : List UInt8) : List UInt8 := over (set2 (point2 (insS P) (emptyN P (num2 P 14)) (num2 P 16 - l.length) l.length) 16 (num2 P 16 - l.length)) (num2 P 16 - l.length) l
def insE (P : List UInt8) (n : Nat) : Nat := if rightB P then (if 1 ≤ n ∧ n ≤ 1000 then (if n ≤ roomN P then 0 else 5) else 2) else 4
def insR (P l : List UInt8) : List UInt8 := if insE P l.length = 0 then insP P l else zeroP
def insN (P : List UInt8) (n : Nat) : Nat := if insE P n = 0 then emptyN P (num2 P 14) else 0

set_option maxHeartbeats 3200000 in
set_option maxRecDepth 100000 in
theorem Insert_pg (w : World) (P : List UInt8) (A : Option Addr) (l : List UInt8) (c : Nat) (h : P.length = 1024) (hb : By w A l) (hl : l.length < 2 ^ 62) :
    Calls Try.prog 26 #[.agg (cells8 P), .slice A l.length c] w fun e w' => e = .returned (.tuple #[.agg (cells8 (insR P l)), .int .i64 (insN P l.length : Int), .int .i64 (insE P l.length : Int)]) ∧ Ext w w' := by
  have hz := (zero_of_info Try.page0).1
  have HP0 := Lib.hid ((Pg.new w P h).ext (ext_new _ (.cells (cells8 zeroP) 23)))
  have HB0 := Lib.hid (Blk.new (w.alloc (.cells (cells8 P) 23)) 23 (cells8 zeroP))
  rw [World.size_alloc] at HB0
  have HE0 := Lib.hid (((Ext.refl w).alloc (.cells (cells8 P) 23)).alloc (.cells (cells8 zeroP) 23))
  generalize hw0 : (w.alloc (.cells (cells8 P) 23)).alloc (.cells (cells8 zeroP) 23) = w0 at *
  have KR := Lib.hid (right_pg _ _ P HP0.out)
  have HIE : Hid (insE P l.length = if rightB P then (if 1 ≤ l.length ∧ l.length ≤ 1000 then (if l.length ≤ roomN P then 0 else 5) else 2) else 4) := Lib.hid rfl
  have HIR : Hid (insR P l = if insE P l.length = 0 then insP P l else zeroP) := Lib.hid rfl
  have HIN : Hid (insN P l.length = if insE P l.length = 0 then emptyN P (num2 P 14) else 0) := Lib.hid rfl
  have HZ := Lib.hid zeroP_length
  have KM := Lib.hid (fun W => may_pg W l.length hl)
  have HHB := Lib.hid hb
  clear hb
  cases hr : rightB P with
  | false =>
    rw [hr] at KR HIE
    simp only [Bool.false_eq_true, if_false] at HIE
    rw [HIE.out] at HIR HIN
    rw [HIE.out, HIR.out, HIN.out]
    clear hr
    simp only [Nat.reduceEqDiff, if_false]
    generalize zeroP = Z at *
    go_enter Try.func26, Try.ntmps26
    go_wp2_with fail
    refine KR.out.mono ?_
    rintro e w1 ⟨rfl, hE1⟩
    have HBk := Lib.hid (HB0.out.ext (hE1))
    have HEk := Lib.hid (HE0.out.trans (hE1))
    go_wp2_with (refine wpList_store_row rfl 23 _ _ rfl _ _ rfl rfl _ _ HBk.out (pgSize HZ.out) rfl (cells8_one Z) ?_)
    refine bodyPost_ret (results_row3 Try.results26 _ _ (w.heap.size + 1) _ (cells8 Z) (0, 0) _ rfl (HBk.out.row (cells8 Z)) Try.pgUnd rfl (pgSize HZ.out)) rfl ⟨rfl, HEk.out.setRow (by omega) _⟩
  | true =>
    have hle := right_le hr
    have KO := Lib.hid (fun W (h : Pg W w.heap.size P) => room_pg W _ P h hle.1 hle.2)
    have KE := Lib.hid (fun W (h : Pg W w.heap.size P) => empty_pg W _ P h (by omega))
    have KS := Lib.hid (fun W (h : Pg W w.heap.size P) => slots_pg W _ P h)
    rw [hr] at KR HIE
    simp only [if_true] at HIE
    clear hr
    by_cases hm : 1 ≤ l.length ∧ l.length ≤ 1000
    · rw [if_pos hm] at HIE
      rw [decide_eq_true hm.1, decide_eq_true hm.2] at KM
      by_cases hro : l.length ≤ roomN P
      · rw [if_pos hro] at HIE
        rw [HIE.out] at HIR HIN
        rw [HIE.out, HIR.out, HIN.out]
        simp only [if_true]
        have HRN : Hid (roomN P = if emptyN P (num2 P 14) = num2 P 14 then num2 P 16 - 18 - 4 * num2 P 14 - 4 else num2 P 16 - 18 - 4 * num2 P 14) := Lib.hid rfl
        have hel := emptyN_le P (num2 P 14)
        have HIS : Hid (insS P = if emptyN P (num2 P 14) = num2 P 14 then set2 P 14 (emptyN P (num2 P 14) + 1) else P) := Lib.hid rfl
        have HIP : Hid (insP P l = over (set2 (point2 (insS P) (emptyN P (num2 P 14)) (num2 P 16 - l.length) l.length) 16 (num2 P 16 - l.length)) (num2 P 16 - l.length) l) := Lib.hid rfl
        have HBG : Hid (num2 (insS P) 16 = num2 P 16) := Lib.hid (by
          rw [HIS.out]; split
          · exact num2_set2_far (by omega) (by omega) (by omega)
          · rfl)
        have HSL : Hid ((insS P).length = 1024) := Lib.hid (by
          rw [HIS.out]; split
          · exact set2_length _ _ _ h (by omega)
          · exact h)
        generalize insP P l = Q at *
        generalize insS P = S at *
        generalize roomN P = rn at *
        generalize emptyN P (num2 P 14) = m at *
        generalize num2 P 14 = n at *
        generalize num2 P 16 = b at *
        have hbn : m ≤ n ∧ 18 + 4 * m + 4 ≤ b ∧ l.length ≤ b ∧ 18 + 4 * m + 4 + l.length ≤ b := by
          have h1 := HRN.out
          split at h1 <;> omega
        obtain ⟨x1, x2, x3, x4⟩ := hbn
        obtain ⟨at_, hat⟩ : ∃ a : Nat, a + l.length = b := ⟨b - l.length, by omega⟩
        rw [show b - l.length = at_ by omega] at HIP
        have hati : (b : Int) - (l.length : Int) = (at_ : Int) := by omega
        have hrd : decide ((rn : Int) < (l.length : Int)) = false := by simp; omega
        generalize zeroP = Z at *
        have HQL : Hid (Q.length = 1024) := Lib.hid (by
          rw [HIP.out]
          unfold point2
          rw [over_length _ _ _ (by rw [set2_length _ _ _ (set2_length _ _ _ (set2_length _ _ _ HSL.out (by omega)) (by omega)) (by omega)]; omega)]
          exact set2_length _ _ _ (set2_length _ _ _ (set2_length _ _ _ HSL.out (by omega)) (by omega)) (by omega))
        go_enter Try.func26, Try.ntmps26
        go_wp2_with fail
        refine KR.out.mono ?_
        rintro e w1 ⟨rfl, hE1⟩
        have K2 := Lib.hid (KM.out w1)
        have hP1 := HP0.out.ext hE1
        have K3 := Lib.hid (KO.out w1 hP1)
        go_wp2_with fail
        refine K2.out.mono ?_
        rintro e w1' ⟨rfl, rfl⟩
        go_wp2_with fail
        refine K3.out.mono ?_
        rintro e w2 ⟨rfl, hE2⟩
        have hP2 := hP1.ext hE2
        have K4 := Lib.hid (KE.out w2 hP2)
        go_wp2_with fail
        refine K4.out.mono ?_
        rintro e w3 ⟨rfl, hE3⟩
        have hP3 := hP2.ext hE3
        have K5 := Lib.hid (KS.out w3 hP3)
        have HE3 := Lib.hid (((HE0.out.trans hE1).trans hE2).trans hE3)
        have HB3 := Lib.hid (((HB0.out.ext hE1).ext hE2).ext hE3)
        go_wp2_with fail
        refine K5.out.mono ?_
        rintro e w3' ⟨rfl, rfl⟩
        clear hP1 hP2 hE1 hE2 hE3 K2 K3 K4 K5 KS KE KO KM KR hw0 HP0 HE0 HB0
        have hsl := fun W => slice_pgl w.heap.size at_ (by omega) W
        by_cases hmn : m = n
        case' pos =>
          have hmd : ((m : Int) == (n : Int)) = true := by rw [beq_iff_eq]; omega
          rw [if_pos hmn] at HIS
          have K6 := Lib.hid (set_pg w3 _ P 14 (m + 1) (by omega) (by omega) hP3)
          rw [show ((m + 1 : Nat) : Int) = (m : Int) + 1 by omega, show ((14 : Nat) : Int) = 14 from rfl] at K6
          clear hmn
          go_wp2_with fail
          refine K6.out.mono ?_
          rintro e w4 ⟨⟨v4, rfl⟩, hP4, hG4⟩
          rw [← HIS.out] at hP4
          have HB4 := Lib.hid (HB3.out.grown hG4 (by simp))
          have HE4 := Lib.hid (HE3.out.grown hG4 (by simp))
          clear K6
          go_wp2_with fail
        case' neg =>
          have hmd : ((m : Int) == (n : Int)) = false := by rw [beq_eq_false_iff_ne]; omega
          rw [if_neg hmn] at HIS
          have hP4 := hP3
          rw [← HIS.out] at hP4
          clear hmn
          go_wp2_with fail
          obtain ⟨w4, rfl⟩ : ∃ w4, w4 = w3 := ⟨_, rfl⟩
          have HB4 := HB3
          have HE4 := HE3
        all_goals
          have K7 := Lib.hid (begin_pg w4 _ S hP4)
          rw [HBG.out] at K7
          have K8 := Lib.hid (point_pg w4 _ S m at_ l.length (by omega) (by omega) (by omega) hP4)
          refine K7.out.mono ?_
          rintro e w4' ⟨rfl, rfl⟩
          clear K7 HRN HIS HBG
          go_wp2_with fail
          refine K8.out.mono ?_
          rintro e w5 ⟨⟨v5, rfl⟩, hP5, hG5⟩
          have HB5 := Lib.hid (HB4.out.grown hG5 (by simp))
          have HE5 := Lib.hid (HE4.out.grown hG5 (by simp))
          have K9 := Lib.hid (set_pg w5 _ _ 16 at_ (by omega) (by omega) hP5)
          rw [show ((16 : Nat) : Int) = 16 from rfl] at K9
          go_wp2_with fail
          refine K9.out.mono ?_
          rintro e w6 ⟨⟨v6, rfl⟩, hP6, hG6⟩
          have HB6 := Lib.hid (HB5.out.grown hG6 (by simp))
          have HE6 := Lib.hid (HE5.out.grown hG6 (by simp))
          have HBY := Lib.hid (HHB.out.ext HE6.out)
          have HML : Hid (l.length = min l.length (1024 - at_)) := Lib.hid (by rw [Nat.min_eq_left (by omega)])
          generalize hpp : set2 (point2 S m at_ l.length) 16 at_ = R at *
          have HP6 := Lib.hid hP6
          have HC5 : Hid (at_ + l.length ≤ R.length) := Lib.hid (by rw [hP6.len]; omega)
          clear hP6 hP5 hP4 K8 K9
          go_wp2_with (refine wpList_copy8g (w := w6) Try.byt rfl (.tmp 41) (.tmp 42) rfl HP6.out.blk HBY.out at_ (1024 - at_) (1024 - at_) l.length c HML.out (some ⟨w.heap.size, at_, none⟩) rfl rfl HC5.out (fun _ => rfl) ?_)
          intro w7 hB7 hU7
          have HP7 := Lib.hid (HP6.out.over hB7 (by omega))
          rw [← HIP.out] at HP7
          have HB7 := Lib.hid (HB6.out.grown hU7.grown (by simp))
          have HE7 := Lib.hid (HE6.out.grown hU7.grown (by simp))
          clear hB7 hU7
          go_wp2_with (first | (refine wpList_load_row rfl 23 _ rfl _ rfl _ _ _ _ HP7.out.blk Try.pgUnd rfl (pgSize HQL.out) ?_) | (refine wpList_store_row rfl 23 _ _ rfl _ _ rfl rfl _ _ HB7.out (pgSize HQL.out) (by rw [cells8_size, cells8_size, HQL.out, HZ.out]) (cells8_one Q) ?_))
          refine bodyPost_ret (results_row3 Try.results26 _ _ (w.heap.size + 1) _ (cells8 Q) (0, 0) _ rfl (HB7.out.row (cells8 Q)) Try.pgUnd rfl (pgSize HQL.out)) rfl ⟨rfl, HE7.out.setRow (by omega) _⟩
      · rw [if_neg hro] at HIE
        rw [HIE.out] at HIR HIN
        rw [HIE.out, HIR.out, HIN.out]
        simp only [Nat.reduceEqDiff, if_false]
        generalize roomN P = rn at *
        generalize zeroP = Z at *
        have hrd : decide ((rn : Int) < (l.length : Int)) = true := by simp; omega
        go_enter Try.func26, Try.ntmps26
        go_wp2_with fail
        refine KR.out.mono ?_
        rintro e w1 ⟨rfl, hE1⟩
        have K2 := Lib.hid (KM.out w1)
        have K3 := Lib.hid (KO.out w1 (HP0.out.ext hE1))
        go_wp2_with fail
        refine K2.out.mono ?_
        rintro e w1' ⟨rfl, rfl⟩
        go_wp2_with fail
        refine K3.out.mono ?_
        rintro e w2 ⟨rfl, hE2⟩
        have HBk := Lib.hid (HB0.out.ext (hE1.trans hE2))
        have HEk := Lib.hid (HE0.out.trans (hE1.trans hE2))
        go_wp2_with (refine wpList_store_row rfl 23 _ _ rfl _ _ rfl rfl _ _ HBk.out (pgSize HZ.out) rfl (cells8_one Z) ?_)
        refine bodyPost_ret (results_row3 Try.results26 _ _ (w.heap.size + 1) _ (cells8 Z) (0, 0) _ rfl (HBk.out.row (cells8 Z)) Try.pgUnd rfl (pgSize HZ.out)) rfl ⟨rfl, HEk.out.setRow (by omega) _⟩
    · rw [if_neg hm] at HIE
      rw [HIE.out] at HIR HIN
      rw [HIE.out, HIR.out, HIN.out]
      simp only [Nat.reduceEqDiff, if_false]
      rw [show (decide (1 ≤ l.length) && decide (l.length ≤ 1000)) = false by simp; omega] at KM
      generalize zeroP = Z at *
      go_enter Try.func26, Try.ntmps26
      go_wp2_with fail
      refine KR.out.mono ?_
      rintro e w1 ⟨rfl, hE1⟩
      have K2 := Lib.hid (KM.out w1)
      go_wp2_with fail
      refine K2.out.mono ?_
      rintro e w1' ⟨rfl, rfl⟩
      have HBk := Lib.hid (HB0.out.ext (hE1))
      have HEk := Lib.hid (HE0.out.trans (hE1))
      go_wp2_with (refine wpList_store_row rfl 23 _ _ rfl _ _ rfl rfl _ _ HBk.out (pgSize HZ.out) rfl (cells8_one Z) ?_)
      refine bodyPost_ret (results_row3 Try.results26 _ _ (w.heap.size + 1) _ (cells8 Z) (0, 0) _ rfl (HBk.out.row (cells8 Z)) Try.pgUnd rfl (pgSize HZ.out)) rfl ⟨rfl, HEk.out.setRow (by omega) _⟩

end Go.Proofs.Ytgbfeagoadlhmaa
