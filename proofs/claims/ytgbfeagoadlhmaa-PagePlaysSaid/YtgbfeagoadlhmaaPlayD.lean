
/-
  Contracts of ref05.Room and lay.
-/
import Derived.Test.YtgbfeagoadlhmaaPlayC2
import Derived.Test.YtgbfeagoadlhmaaDo
set_option linter.unusedVariables false
set_option linter.unusedSimpArgs false
namespace Go.Proofs.Ytgbfeagoadlhmaa
open Go.RowKit Pl

attribute [local go_sem] Oper.semAt_some

theorem List_refF (w : World) (P : List UInt8) (h : P.length = 1024) (hr : rightB P = false) : Calls Try.prog 56 #[.agg (cells8 P)] w fun e w' => ∃ A c, e = .returned (.tuple #[.slice A 0 c, .bool false]) ∧ Ext w w' := by
  refine (List_ref w P h).mono ?_
  rintro e w' ⟨A, c, rfl, hs, hE⟩
  rw [show slotsN P = 0 by unfold slotsN; rw [hr]; rfl, hr]
  exact ⟨A, c, rfl, hE⟩
theorem List_refT (w : World) (P : List UInt8) (h : P.length = 1024) (hr : rightB P = true) : Calls Try.prog 56 #[.agg (cells8 P)] w fun e w' => ∃ A c, e = .returned (.tuple #[.slice A (num2 P 14) c, .bool true]) ∧ SlX w' A P (num2 P 14) ∧ Ext w w' := by
  refine (List_ref w P h).mono ?_
  rintro e w' ⟨A, c, rfl, hs, hE⟩
  have e0 : slotsN P = num2 P 14 := by unfold slotsN; rw [hr]; rfl
  rw [e0] at hs ⊢
  rw [hr]
  exact ⟨A, c, rfl, hs, hE⟩

set_option maxHeartbeats 1600000 in
set_option maxRecDepth 100000 in
theorem Room_ref (w : World) (P : List UInt8) (h : P.length = 1024) :
    Calls Try.prog 58 #[.agg (cells8 P)] w fun e w' => e = .returned (.int .i64 (RoomN P : Int)) ∧ Ext w w' := by
  have HP := Lib.hid (Pg.new w P h)
  have HL := Lib.hid h
  have HX := Lib.hid (ext_new w (.cells (cells8 P) 23))
  have HRN : Hid (RoomN P = if rightB P then roomN P else 0) := Lib.hid rfl
  cases hr : rightB P with
  | false =>
    have KL := Lib.hid (fun W => List_refF W P h hr)
    rw [hr] at HRN
    simp only [Bool.false_eq_true, if_false] at HRN
    rw [HRN.out]
    clear hr h
    go_enter Try.func58, Try.ntmps58
    go_wp2_with (refine wpList_load_row rfl 23 _ rfl _ rfl _ _ _ _ HP.out.blk Try.pgUnd rfl (pgSize HL.out) ?_)
    refine (KL.out _).mono ?_
    rintro e w1 ⟨A, c, rfl, hE1⟩
    go_wp2_with fail
    go_ret
    exact ⟨rfl, HX.out.trans hE1⟩
  | true =>
    have KL := Lib.hid (fun W => List_refT W P h hr)
    have KF := Lib.hid (fun W => From_ref W P h)
    have hle := right_le hr
    rw [hr] at HRN
    simp only [if_true] at HRN
    rw [HRN.out]
    have KH := Lib.hid (fun W A c hs => hole_ref W A P (num2 P 14) c hs (by omega))
    have HR2 : Hid (roomN P = if emptyN P (num2 P 14) = num2 P 14 then num2 P 16 - 18 - 4 * num2 P 14 - 4 else num2 P 16 - 18 - 4 * num2 P 14) := Lib.hid rfl
    have hel := emptyN_le P (num2 P 14)
    clear hr h HRN
    generalize emptyN P (num2 P 14) = m at *
    generalize num2 P 14 = n at *
    generalize num2 P 16 = b at *
    go_enter Try.func58, Try.ntmps58
    go_wp2_with (refine wpList_load_row rfl 23 _ rfl _ rfl _ _ _ _ HP.out.blk Try.pgUnd rfl (pgSize HL.out) ?_)
    refine (KL.out _).mono ?_
    rintro e w1 ⟨A, c, rfl, hs, hE1⟩
    have HS := Lib.hid hs
    have HP1 := Lib.hid (HP.out.ext hE1)
    have HE1 := Lib.hid (HX.out.trans hE1)
    clear hs hE1
    go_wp2_with (refine wpList_load_row rfl 23 _ rfl _ rfl _ _ _ _ HP1.out.blk Try.pgUnd rfl (pgSize HL.out) ?_)
    refine (KF.out _).mono ?_
    rintro e w2 ⟨rfl, hE2⟩
    have K2 := Lib.hid (KH.out w2 A c (HS.out.ext hE2))
    have HE2 := Lib.hid (HE1.out.trans hE2)
    clear hE2
    go_wp2_with fail
    refine K2.out.mono ?_
    rintro e w3 ⟨rfl, rfl⟩
    by_cases hm : m = n
    · subst hm
      have d1 : ((m : Int) == (m : Int)) = true := by simp
      rw [if_pos rfl] at HR2
      by_cases hb : b < 18 + 4 * m + 4
      · have d2 : decide ((b : Int) - 18 - 4 * (m : Int) - 4 < 0) = true := decide_eq_true (by omega)
        have e0 := Lib.hid (show roomN P = 0 by rw [HR2.out]; omega)
        clear HR2
        go_wp2_with fail
        go_ret
        exact ⟨by rw [e0.out]; rfl, HE2.out⟩
      · have d2 : decide ((b : Int) - 18 - 4 * (m : Int) - 4 < 0) = false := decide_eq_false (by omega)
        have e0 := Lib.hid (show (roomN P : Int) = (b : Int) - 18 - 4 * (m : Int) - 4 by rw [HR2.out]; omega)
        clear HR2
        go_wp2_with fail
        go_ret
        exact ⟨by rw [e0.out]; rfl, HE2.out⟩
    · have d1 : ((m : Int) == (n : Int)) = false := by rw [beq_eq_false_iff_ne]; omega
      rw [if_neg hm] at HR2
      have d2 : decide ((b : Int) - 18 - 4 * (n : Int) < 0) = false := decide_eq_false (by omega)
      have e0 := Lib.hid (show (roomN P : Int) = (b : Int) - 18 - 4 * (n : Int) by rw [HR2.out]; omega)
      clear HR2
      go_wp2_with fail
      go_ret
      exact ⟨by rw [e0.out]; rfl, HE2.out⟩

/-! ## bytes laid one by one -/
theorem over_none (P : List UInt8) (a : Nat) : over P a [] = P := by unfold over; simp
theorem over_snoc {P l : List UInt8} {a k : Nat} (h : a + l.length ≤ P.length) (hk : k < l.length) : (over P a (l.take k)).set (a + k) (l.getD k 0) = over P a (l.take (k + 1)) := by
  have h1 : (l.take k).length = k := by rw [List.length_take]; omega
  have h2 : (l.take (k + 1)).length = k + 1 := by rw [List.length_take]; omega
  apply ext_getD
  · rw [List.length_set, over_length _ _ _ (by omega), over_length _ _ _ (by omega)]
  · intro i hi
    rw [List.length_set, over_length _ _ _ (by omega)] at hi
    rw [over_get _ _ _ (by omega), h2, List.getD_eq_getElem?_getD, List.getElem?_set]
    by_cases hik : a + k = i
    · subst hik
      rw [if_pos rfl, if_pos (by rw [over_length _ _ _ (by omega)]; omega), if_pos (by omega), show a + k - a = k by omega]
      rw [List.getD_eq_getElem?_getD, List.getD_eq_getElem?_getD, List.getElem?_take_of_lt (by omega)]
      rfl
    · rw [if_neg hik, ← List.getD_eq_getElem?_getD, over_get _ _ _ (by omega), h1]
      by_cases h3 : a ≤ i ∧ i < a + k
      · rw [if_pos h3, if_pos (by omega), List.getD_eq_getElem?_getD, List.getD_eq_getElem?_getD, List.getElem?_take_of_lt (by omega), List.getElem?_take_of_lt (by omega)]
      · rw [if_neg h3, if_neg (by omega)]
def layP (P : List UInt8) (i : Nat) (l : List UInt8) : List UInt8 := set2 (set2 (set2 (over P (num2 P 16 - l.length) l) 16 (num2 P 16 - l.length)) (18 + 4 * i) (num2 P 16 - l.length)) (18 + 4 * i + 2) l.length
theorem layP_length {P l : List UInt8} {i : Nat} (h : P.length = 1024) (h1 : num2 P 16 ≤ 1024) (h2 : l.length ≤ num2 P 16) (h3 : 18 + 4 * i + 4 ≤ 1024) : (layP P i l).length = 1024 := by
  have h0 : (over P (num2 P 16 - l.length) l).length = 1024 := by rw [over_length _ _ _ (by omega), h]
  unfold layP
  exact set2_length _ _ _ (set2_length _ _ _ (set2_length _ _ _ h0 (by omega)) (by omega)) (by omega)
theorem byte_at {w : World} {A : Option Addr} {l : List UInt8} (h : By w A l) {k : Nat} (hk : k < l.length) : ∃ g o, A = some ⟨g, o, none⟩ ∧ w.cell? ⟨g, o + k, none⟩ = some (.int .u8 (at8 l k)) := by
  obtain ⟨g, o, e, hc⟩ := h.at_ (by omega)
  exact ⟨g, o, e, hc k hk⟩
theorem at8_is (l : List UInt8) (k : Nat) : at8 l k = ((l.getD k 0).toNat : Int) := rfl

set_option maxHeartbeats 1600000 in
set_option maxRecDepth 100000 in
theorem lay_ref (w : World) (P : List UInt8) (i : Nat) (A : Option Addr) (l : List UInt8) (c : Nat) (h : P.length = 1024) (h1 : num2 P 16 ≤ 1024) (h2 : l.length ≤ num2 P 16) (h3 : 18 + 4 * i + 4 ≤ 1024) (hl : l.length ≤ 1000) (hb : By w A l) :
    Calls Try.prog 85 #[.agg (cells8 P), .int .i64 (i : Int), .slice A l.length c] w fun e w' => e = .returned (.agg (cells8 (layP P i l))) ∧ Ext w w' := by
  have hz := (zero_of_info Try.page0).1
  have HPL := Lib.hid h
  have HQL := Lib.hid (layP_length h h1 h2 h3)
  have HLY : Hid (layP P i l = set2 (set2 (set2 (over P (num2 P 16 - l.length) l) 16 (num2 P 16 - l.length)) (18 + 4 * i) (num2 P 16 - l.length)) (18 + 4 * i + 2) l.length) := Lib.hid rfl
  have KF := Lib.hid (fun W => From_ref W P h)
  have HP0 := Lib.hid ((Pg.new w P h).ext (ext_new _ (.cells (cells8 zeroP) 23)))
  have hB0 := Blk.new (w.alloc (.cells (cells8 P) 23)) 23 (cells8 zeroP)
  rw [World.size_alloc] at hB0
  have HB0 := Lib.hid hB0
  have HE0 := Lib.hid ((ext_new w (.cells (cells8 P) 23)).alloc (.cells (cells8 zeroP) 23))
  have HBY := Lib.hid hb
  obtain ⟨a, ha⟩ : ∃ a, num2 P 16 = a + l.length := ⟨num2 P 16 - l.length, by omega⟩
  rw [ha] at HLY KF
  rw [show a + l.length - l.length = a by omega] at HLY
  have HO0 : Hid ((over P a l).length = 1024) := Lib.hid (by rw [over_length _ _ _ (by omega), h])
  have HSN := Lib.hid (fun k (hk : k < l.length) => over_snoc (P := P) (a := a) (show a + l.length ≤ P.length by omega) hk)
  have HO1 : Hid ((set2 (over P a l) 16 a).length = 1024) := Lib.hid (set2_length _ _ _ HO0.out (by omega))
  have HO2 : Hid ((set2 (set2 (over P a l) 16 a) (18 + 4 * i) a).length = 1024) := Lib.hid (set2_length _ _ _ HO1.out (by omega))
  have K1 := fun W => with_ref W _ HO0.out 16 a (by omega) (by omega)
  have K2 := fun W => with_ref W _ HO1.out (18 + 4 * i) a (by omega) (by omega)
  have K3 := fun W => with_ref W _ HO2.out (18 + 4 * i + 2) l.length (by omega) (by omega)
  rw [← HLY.out] at K3
  simp only [show ((16 : Nat) : Int) = 16 from rfl, show ((18 + 4 * i : Nat) : Int) = 18 + 4 * (i : Int) by omega, show ((18 + 4 * i + 2 : Nat) : Int) = 18 + 4 * (i : Int) + 2 by omega] at K1 K2 K3
  have K1 := Lib.hid K1
  have K2 := Lib.hid K2
  have K3 := Lib.hid K3
  have HON : Hid (over P a [] = P) := Lib.hid (over_none P a)
  have HTL : Hid (l.take l.length = l) := Lib.hid (List.take_length)
  have HG := Lib.hid (fun k => at8_is l k)
  have hn : ((a + l.length : Nat) : Int) = (a : Int) + (l.length : Int) := by omega
  have HSL : Hid (slotA P = slotA P) := Lib.hid rfl
  have hab : a + l.length ≤ 1024 := by omega
  clear h ha HLY HSL hb hB0
  rw [hn] at KF
  have hsub : (a : Int) + (l.length : Int) - (l.length : Int) = (a : Int) := by omega
  generalize layP P i l = Q at *
  generalize hln : l.length = n at *
  have HLN := Lib.hid hln
  clear hln
  go_enter Try.func85, Try.ntmps85
  go_wp2_with (refine wpList_load_row rfl 23 _ rfl _ rfl _ _ _ _ HP0.out.blk Try.pgUnd rfl (pgSize HPL.out) ?_)
  refine (KF.out _).mono ?_
  rintro e w1 ⟨rfl, hE1⟩
  have HP1 := Lib.hid (HP0.out.ext hE1)
  have HB1 := Lib.hid (HB0.out.ext hE1)
  have HE1 := Lib.hid (HE0.out.trans hE1)
  clear hE1
  go_wp2_with fail
  go_loopw [8] (fun q wr => ∃ k : Nat, k ≤ n ∧ q = .int .i64 (k : Int) ∧ Pg wr w.heap.size (over P a (l.take k)) ∧ Blk wr (w.heap.size + 1) 23 (cells8 zeroP) ∧ Ext w wr) (fun q _ => n - (intOf q).toNat)
  case atStart => exact ⟨0, Nat.zero_le _, rfl, by rw [List.take_zero, HON.out]; exact HP1.out, HB1.out, HE1.out⟩
  case round =>
    obtain ⟨k, hk, rfl, hP, hB, hE⟩ := hrel
    have HP := Lib.hid hP
    have HB := Lib.hid hB
    have HE := Lib.hid hE
    clear hP hB hE HP0 HP1 HB0 HB1 HE0 HE1
    by_cases hkn : k < n
    · have dk : decide ((k : Int) < (n : Int)) = true := decide_eq_true (by omega)
      obtain ⟨g, o, rfl, hc⟩ := byte_at (HBY.out.ext HE.out) (k := k) (by rw [HLN.out]; exact hkn)
      have hs := HSN.out k hkn
      have HPn := HP.out.setByte (a + k) (l.getD k 0)
      rw [hs] at HPn
      have HPn := Lib.hid HPn
      have HGk := HG.out k
      have HBn := Lib.hid (HB.out.far (p := ⟨w.heap.size, a + k, none⟩) (by show w.heap.size + 1 ≠ w.heap.size; omega) (.int .u8 (at8 l k)))
      have HEn := Lib.hid (HE.out.setCell (p := ⟨w.heap.size, a + k, none⟩) (Nat.le_refl _) (.int .u8 (at8 l k)))
      rw [← HGk] at HPn
      have hold : ∃ v, wr.cell? ⟨w.heap.size, a + k, none⟩ = some v := ⟨_, by rw [HP.out.blk.cell]; exact cells8_get _ _ (by rw [HP.out.len]; omega)⟩
      obtain ⟨v, hold⟩ := hold
      have hfr := HP.out.blk.frozen (a + k)
      have hto : ((a : Int) + (k : Int)).toNat = a + k := by omega
      clear hs HGk HP HB HE
      go_wp2_with fail
      exact ⟨⟨k + 1, by omega, by go_num, HPn.out, HBn.out, HEn.out⟩, by simp [intOf]; omega⟩
    · obtain rfl : k = n := by omega
      have dk : decide ((k : Int) < (k : Int)) = false := decide_eq_false (by omega)
      have hlk : l.take k = l := by rw [← HLN.out]; exact List.take_length
      rw [hlk] at HP
      clear hlk
      go_wp2_with (refine wpList_load_row rfl 23 _ rfl _ rfl _ _ _ _ HP.out.blk Try.pgUnd rfl (pgSize HO0.out) ?_)
      refine (K1.out _).mono ?_
      rintro e w2 ⟨rfl, hE2⟩
      go_wp2_with fail
      refine (K2.out _).mono ?_
      rintro e w3 ⟨rfl, hE3⟩
      go_wp2_with fail
      refine (K3.out _).mono ?_
      rintro e w4 ⟨rfl, hE4⟩
      have HB4 := Lib.hid (((HB.out.ext hE2).ext hE3).ext hE4)
      have HE4 := Lib.hid (((HE.out.trans hE2).trans hE3).trans hE4)
      clear hE2 hE3 hE4
      go_wp2_with (refine wpList_store_row rfl 23 _ _ rfl _ _ rfl rfl _ _ HB4.out (pgSize HQL.out) (by rw [cells8_size, cells8_size, HQL.out, zeroP_length]) (cells8_one Q) ?_)
      refine bodyPost_ret (v := .agg (cells8 Q)) (results_cell_row Try.results85 _ _ (w.heap.size + 1) _ (cells8 Q) (0, 0) _ rfl (HB4.out.row (cells8 Q)) Try.pgUnd rfl (pgSize HQL.out)) rfl ⟨rfl, HE4.out.setRow (by omega) _⟩

end Go.Proofs.Ytgbfeagoadlhmaa

/-
  Contract of ref05.Insert.
-/
namespace Go.Proofs.Ytgbfeagoadlhmaa
open Go.RowKit Pl

attribute [local go_sem] Oper.semAt_some

theorem over_comm {P l m : List UInt8} {a b : Nat} (ha : a + l.length ≤ P.length) (hb : b + m.length ≤ P.length) (hd : a + l.length ≤ b ∨ b + m.length ≤ a) : over (over P a l) b m = over (over P b m) a l := by
  have h1 : (over P a l).length = P.length := over_length _ _ _ ha
  have h2 : (over P b m).length = P.length := over_length _ _ _ hb
  apply ext_getD
  · rw [over_length (over P a l) b m (by omega), over_length (over P b m) a l (by omega), h1, h2]
  · intro i hi
    rw [over_get _ _ _ (by omega), over_get _ _ _ (by omega), over_get _ _ _ (by omega), over_get _ _ _ (by omega)]
    by_cases c1 : b ≤ i ∧ i < b + m.length
    · rw [if_pos c1, if_neg (by omega), if_pos c1]
    · rw [if_neg c1, if_neg c1]
theorem ins_lay {S : List UInt8} {m a : Nat} {l : List UInt8} (h : S.length = 1024) (hb : num2 S 16 = a + l.length) (hm : 18 + 4 * m + 4 ≤ a) (hl : a + l.length ≤ 1024) :
    layP S m l = over (set2 (point2 S m a l.length) 16 a) a l := by
  unfold layP point2
  rw [hb, show a + l.length - l.length = a by omega]
  unfold set2
  generalize hN : put l.length 2 = N
  have hNl : N.length = 2 := by rw [← hN, put_length]
  generalize hA : put a 2 = A
  have hAl : A.length = 2 := by rw [← hA, put_length]
  have s1 : (over S a l).length = 1024 := by rw [over_length _ _ _ (by omega), h]
  have s2 : (over S (18 + 4 * m) A).length = 1024 := by rw [over_length _ _ _ (by omega), h]
  have s3 : (over (over S (18 + 4 * m) A) (18 + 4 * m + 2) N).length = 1024 := by rw [over_length _ _ _ (by omega), s2]
  have s4 : (over S 16 A).length = 1024 := by rw [over_length _ _ _ (by omega), h]
  have s5 : (over (over S a l) (18 + 4 * m) A).length = 1024 := by rw [over_length _ _ _ (by omega), s1]
  rw [over_comm (P := over (over S (18 + 4 * m) A) (18 + 4 * m + 2) N) (a := 16) (b := a) (by omega) (by omega) (by omega)]
  rw [over_comm (P := over S (18 + 4 * m) A) (a := 18 + 4 * m + 2) (b := a) (by omega) (by omega) (by omega)]
  rw [over_comm (P := S) (a := 18 + 4 * m) (b := a) (by omega) (by omega) (by omega)]
  rw [over_comm (P := over S a l) (a := 16) (b := 18 + 4 * m) (by omega) (by omega) (by omega)]
  rw [over_comm (P := over (over S a l) (18 + 4 * m) A) (a := 16) (b := 18 + 4 * m + 2) (by omega) (by omega) (by omega)]

set_option maxHeartbeats 3200000 in
set_option maxRecDepth 100000 in
theorem Insert_ref (w : World) (P : List UInt8) (A : Option Addr) (l : List UInt8) (c : Nat) (h : P.length = 1024) (hb : By w A l) (hl : l.length < 2 ^ 62) :
    Calls Try.prog 62 #[.agg (cells8 P), .slice A l.length c] w fun e w' => e = .returned (.tuple #[.agg (cells8 (insR P l)), .int .i64 (insN P l.length : Int), .int .i64 (insE P l.length : Int)]) ∧ Ext w w' := by
  have hz := (zero_of_info Try.page0).1
  have HPL := Lib.hid h
  have HP0 := Lib.hid ((Pg.new w P h).ext (ext_new _ (.cells (cells8 zeroP) 23)))
  have HB0 := Lib.hid (Blk.new (w.alloc (.cells (cells8 P) 23)) 23 (cells8 zeroP))
  rw [World.size_alloc] at HB0
  have HE0 := Lib.hid (((Ext.refl w).alloc (.cells (cells8 P) 23)).alloc (.cells (cells8 zeroP) 23))
  generalize hw0 : (w.alloc (.cells (cells8 P) 23)).alloc (.cells (cells8 zeroP) 23) = w0 at *
  have HIE : Hid (insE P l.length = if rightB P then (if 1 ≤ l.length ∧ l.length ≤ 1000 then (if l.length ≤ roomN P then 0 else 5) else 2) else 4) := Lib.hid rfl
  have HIR : Hid (insR P l = if insE P l.length = 0 then insP P l else zeroP) := Lib.hid rfl
  have HIN : Hid (insN P l.length = if insE P l.length = 0 then emptyN P (num2 P 14) else 0) := Lib.hid rfl
  have HZ := Lib.hid zeroP_length
  have HHB := Lib.hid hb
  clear hb
  cases hr : rightB P with
  | false =>
    have KL := Lib.hid (fun W => List_refF W P h hr)
    rw [hr] at HIE
    simp only [Bool.false_eq_true, if_false] at HIE
    rw [HIE.out] at HIR HIN
    rw [HIE.out, HIR.out, HIN.out]
    clear hr h
    simp only [Nat.reduceEqDiff, if_false]
    generalize zeroP = Z at *
    go_enter Try.func62, Try.ntmps62
    go_wp2_with (refine wpList_load_row rfl 23 _ rfl _ rfl _ _ _ _ HP0.out.blk Try.pgUnd rfl (pgSize HPL.out) ?_)
    refine (KL.out _).mono ?_
    rintro e w1 ⟨A1, c1, rfl, hE1⟩
    have HBk := Lib.hid (HB0.out.ext (hE1))
    have HEk := Lib.hid (HE0.out.trans (hE1))
    have hbz := fun W => build_pg hz W
    go_wp2_with (refine wpList_store_row rfl 23 _ _ rfl _ _ rfl rfl _ _ HBk.out (pgSize HZ.out) rfl (cells8_one Z) ?_)
    refine bodyPost_ret (results_row3 Try.results62 _ _ (w.heap.size + 1) _ (cells8 Z) (0, 0) _ rfl (HBk.out.row (cells8 Z)) Try.pgUnd rfl (pgSize HZ.out)) rfl ⟨rfl, HEk.out.setRow (by omega) _⟩
  | true =>
    have hle := right_le hr
    have KL := Lib.hid (fun W => List_refT W P h hr)
    have hRM : RoomN P = roomN P := by unfold RoomN; rw [hr]; rfl
    have KO := fun W => Room_ref W P h
    rw [hRM] at KO
    have KO := Lib.hid KO
    have KH := Lib.hid (fun W A c hs => hole_ref W A P (num2 P 14) c hs (by omega))
    rw [hr] at HIE
    simp only [if_true] at HIE
    clear hr hRM h
    by_cases hm : 1 ≤ l.length ∧ l.length ≤ 1000
    · rw [if_pos hm] at HIE
      have d1 : decide ((l.length : Int) < 1) = false := decide_eq_false (by omega)
      have d2 : decide ((1000 : Int) < (l.length : Int)) = false := decide_eq_false (by omega)
      by_cases hro : l.length ≤ roomN P
      · rw [if_pos hro] at HIE
        rw [HIE.out] at HIR HIN
        rw [HIE.out, HIR.out, HIN.out]
        simp only [if_true]
        have HRN : Hid (roomN P = if emptyN P (num2 P 14) = num2 P 14 then num2 P 16 - 18 - 4 * num2 P 14 - 4 else num2 P 16 - 18 - 4 * num2 P 14) := Lib.hid rfl
        have hel := emptyN_le P (num2 P 14)
        have hbn : emptyN P (num2 P 14) ≤ num2 P 14 ∧ 18 + 4 * emptyN P (num2 P 14) + 4 ≤ num2 P 16 ∧ l.length ≤ num2 P 16 ∧ 18 + 4 * emptyN P (num2 P 14) + 4 + l.length ≤ num2 P 16 := by
          have h1 := HRN.out
          split at h1 <;> omega
        have HIP : Hid (insP P l = over (set2 (point2 (insS P) (emptyN P (num2 P 14)) (num2 P 16 - l.length) l.length) 16 (num2 P 16 - l.length)) (num2 P 16 - l.length) l) := Lib.hid rfl
        have HIS : Hid (insS P = if emptyN P (num2 P 14) = num2 P 14 then set2 P 14 (emptyN P (num2 P 14) + 1) else P) := Lib.hid rfl
        have HBG : Hid (num2 (insS P) 16 = num2 P 16) := Lib.hid (by
          rw [HIS.out]; split
          · exact num2_set2_far (by have := HPL.out; omega) (by have := HPL.out; omega) (by omega)
          · rfl)
        have HSL : Hid ((insS P).length = 1024) := Lib.hid (by
          rw [HIS.out]; split
          · exact set2_length _ _ _ HPL.out (by omega)
          · exact HPL.out)
        have hQ : insP P l = layP (insS P) (emptyN P (num2 P 14)) l := by
          rw [HIP.out, ← ins_lay HSL.out (by rw [HBG.out]; omega) (by omega) (by omega)]
        have KY := fun W (hb : By W A l) => lay_ref W (insS P) (emptyN P (num2 P 14)) A l c HSL.out (by rw [HBG.out]; omega) (by rw [HBG.out]; omega) (by omega) (by omega) hb
        rw [← hQ] at KY
        have KY := Lib.hid KY
        have HQL : Hid ((insP P l).length = 1024) := Lib.hid (by rw [hQ]; exact layP_length HSL.out (by rw [HBG.out]; omega) (by rw [HBG.out]; omega) (by omega))
        have KW := fun W => with_ref W P HPL.out 14 (num2 P 14 + 1) (by omega) (by omega)
        have hrd : decide ((roomN P : Int) < (l.length : Int)) = false := decide_eq_false (by omega)
        clear hQ HRN HIP HBG hm
        generalize insP P l = Q at *
        generalize insS P = S at *
        generalize roomN P = rn at *
        generalize emptyN P (num2 P 14) = m at *
        generalize num2 P 14 = n at *
        generalize num2 P 16 = b at *
        rw [show ((14 : Nat) : Int) = 14 from rfl, show ((n + 1 : Nat) : Int) = (n : Int) + 1 by omega] at KW
        have KW := Lib.hid KW
        generalize zeroP = Z at *
        obtain ⟨x1, x2, x3, x4⟩ := hbn
        go_enter Try.func62, Try.ntmps62
        go_wp2_with (refine wpList_load_row rfl 23 _ rfl _ rfl _ _ _ _ HP0.out.blk Try.pgUnd rfl (pgSize HPL.out) ?_)
        refine (KL.out _).mono ?_
        rintro e w1 ⟨A1, c1, rfl, hs, hE1⟩
        have HS := Lib.hid hs
        have HP1 := Lib.hid (HP0.out.ext hE1)
        have HB1 := Lib.hid (HB0.out.ext hE1)
        have HE1 := Lib.hid (HE0.out.trans hE1)
        clear hs hE1 HP0 HB0 HE0
        go_wp2_with (refine wpList_load_row rfl 23 _ rfl _ rfl _ _ _ _ HP1.out.blk Try.pgUnd rfl (pgSize HPL.out) ?_)
        refine (KO.out _).mono ?_
        rintro e w2 ⟨rfl, hE2⟩
        have K3 := Lib.hid (KH.out w2 A1 c1 (HS.out.ext hE2))
        have HP2 := Lib.hid (HP1.out.ext hE2)
        have HB2 := Lib.hid (HB1.out.ext hE2)
        have HE2 := Lib.hid (HE1.out.trans hE2)
        clear hE2 HP1 HB1 HE1
        go_wp2_with fail
        refine K3.out.mono ?_
        rintro e w3 ⟨rfl, rfl⟩
        by_cases hmn : m = n
        · subst hmn
          rw [if_pos rfl] at HIS
          have e1 : ((m : Int) == (m : Int)) = true := by simp
          go_wp2_with (refine wpList_load_row rfl 23 _ rfl _ rfl _ _ _ _ HP2.out.blk Try.pgUnd rfl (pgSize HPL.out) ?_)
          refine (KW.out _).mono ?_
          rintro e w4 ⟨rfl, hE4⟩
          have HP4 := Lib.hid (HP2.out.ext hE4)
          have HB4 := Lib.hid (HB2.out.ext hE4)
          have HE4 := Lib.hid (HE2.out.trans hE4)
          clear hE4
          rw [← HIS.out]
          have HP5 := Lib.hid (HP4.out.blk.row (cells8 S))
          have HB5 := Lib.hid (HB4.out.grown (grown_row w4 w.heap.size (cells8 S)) (by simp))
          have HE5 := Lib.hid (HE4.out.setRow (Nat.le_refl w.heap.size) (cells8 S))
          go_wp2_with (first | (refine wpList_store_row rfl 23 _ _ rfl _ _ rfl rfl _ _ HP4.out.blk (pgSize HSL.out) (by rw [cells8_size, cells8_size, HSL.out, HPL.out]) (cells8_one S) ?_; generalize w4.setRow w.heap.size (cells8 S) = w5 at *) | (refine wpList_load_row rfl 23 _ rfl _ rfl _ _ _ _ HP5.out Try.pgUnd rfl (pgSize HSL.out) ?_))
          refine (KY.out _ (HHB.out.ext HE5.out)).mono ?_
          rintro e w6 ⟨rfl, hE6⟩
          have HB6 := Lib.hid (HB5.out.ext hE6)
          have HE6 := Lib.hid (HE5.out.trans hE6)
          clear hE6
          go_wp2_with (refine wpList_store_row rfl 23 _ _ rfl _ _ rfl rfl _ _ HB6.out (pgSize HQL.out) (by rw [cells8_size, cells8_size, HQL.out, HZ.out]) (cells8_one Q) ?_)
          refine bodyPost_ret (results_row3 Try.results62 _ _ (w.heap.size + 1) _ (cells8 Q) (0, 0) _ rfl (HB6.out.row (cells8 Q)) Try.pgUnd rfl (pgSize HQL.out)) rfl ⟨rfl, HE6.out.setRow (by omega) _⟩
        · rw [if_neg hmn] at HIS
          have e1 : ((m : Int) == (n : Int)) = false := by rw [beq_eq_false_iff_ne]; omega
          rw [HIS.out] at KY
          go_wp2_with (refine wpList_load_row rfl 23 _ rfl _ rfl _ _ _ _ HP2.out.blk Try.pgUnd rfl (pgSize HPL.out) ?_)
          refine (KY.out _ (HHB.out.ext HE2.out)).mono ?_
          rintro e w6 ⟨rfl, hE6⟩
          have HB6 := Lib.hid (HB2.out.ext hE6)
          have HE6 := Lib.hid (HE2.out.trans hE6)
          clear hE6
          go_wp2_with (refine wpList_store_row rfl 23 _ _ rfl _ _ rfl rfl _ _ HB6.out (pgSize HQL.out) (by rw [cells8_size, cells8_size, HQL.out, HZ.out]) (cells8_one Q) ?_)
          refine bodyPost_ret (results_row3 Try.results62 _ _ (w.heap.size + 1) _ (cells8 Q) (0, 0) _ rfl (HB6.out.row (cells8 Q)) Try.pgUnd rfl (pgSize HQL.out)) rfl ⟨rfl, HE6.out.setRow (by omega) _⟩
      · rw [if_neg hro] at HIE
        rw [HIE.out] at HIR HIN
        rw [HIE.out, HIR.out, HIN.out]
        simp only [Nat.reduceEqDiff, if_false]
        have hrd : decide ((roomN P : Int) < (l.length : Int)) = true := decide_eq_true (by omega)
        have hrd' : decide (roomN P < l.length) = true := decide_eq_true (by omega)
        clear hm hro
        generalize roomN P = rn at *
        generalize num2 P 14 = n at *
        generalize zeroP = Z at *
        go_enter Try.func62, Try.ntmps62
        go_wp2_with (refine wpList_load_row rfl 23 _ rfl _ rfl _ _ _ _ HP0.out.blk Try.pgUnd rfl (pgSize HPL.out) ?_)
        refine (KL.out _).mono ?_
        rintro e w1 ⟨A1, c1, rfl, hs, hE1⟩
        have HP1 := Lib.hid (HP0.out.ext hE1)
        have HB1 := Lib.hid (HB0.out.ext hE1)
        have HE1 := Lib.hid (HE0.out.trans hE1)
        clear hs hE1 HP0 HB0 HE0
        go_wp2_with (refine wpList_load_row rfl 23 _ rfl _ rfl _ _ _ _ HP1.out.blk Try.pgUnd rfl (pgSize HPL.out) ?_)
        refine (KO.out _).mono ?_
        rintro e w2 ⟨rfl, hE2⟩
        have HB2 := Lib.hid (HB1.out.ext hE2)
        have HE2 := Lib.hid (HE1.out.trans hE2)
        clear hE2 HP1 HB1 HE1
        have hbz := fun W => build_pg hz W
        go_wp2_with (refine wpList_store_row rfl 23 _ _ rfl _ _ rfl rfl _ _ HB2.out (pgSize HZ.out) rfl (cells8_one Z) ?_)
        refine bodyPost_ret (results_row3 Try.results62 _ _ (w.heap.size + 1) _ (cells8 Z) (0, 0) _ rfl (HB2.out.row (cells8 Z)) Try.pgUnd rfl (pgSize HZ.out)) rfl ⟨rfl, HE2.out.setRow (by omega) _⟩
    · rw [if_neg hm] at HIE
      rw [HIE.out] at HIR HIN
      rw [HIE.out, HIR.out, HIN.out]
      simp only [Nat.reduceEqDiff, if_false]
      generalize num2 P 14 = n at *
      generalize zeroP = Z at *
      have hbz := fun W => build_pg hz W
      by_cases hm1 : l.length < 1
      · have d1 : decide ((l.length : Int) < 1) = true := decide_eq_true (by omega)
        clear hm hm1
        generalize l.length = ln at *
        go_enter Try.func62, Try.ntmps62
        go_wp2_with (refine wpList_load_row rfl 23 _ rfl _ rfl _ _ _ _ HP0.out.blk Try.pgUnd rfl (pgSize HPL.out) ?_)
        refine (KL.out _).mono ?_
        rintro e w1 ⟨A1, c1, rfl, hs, hE1⟩
        have HB1 := Lib.hid (HB0.out.ext hE1)
        have HE1 := Lib.hid (HE0.out.trans hE1)
        clear hs hE1 HP0 HB0 HE0
        go_wp2_with (refine wpList_store_row rfl 23 _ _ rfl _ _ rfl rfl _ _ HB1.out (pgSize HZ.out) rfl (cells8_one Z) ?_)
        refine bodyPost_ret (results_row3 Try.results62 _ _ (w.heap.size + 1) _ (cells8 Z) (0, 0) _ rfl (HB1.out.row (cells8 Z)) Try.pgUnd rfl (pgSize HZ.out)) rfl ⟨rfl, HE1.out.setRow (by omega) _⟩
      · have d1 : decide ((l.length : Int) < 1) = false := decide_eq_false (by omega)
        have d2 : decide ((1000 : Int) < (l.length : Int)) = true := decide_eq_true (by omega)
        clear hm
        go_enter Try.func62, Try.ntmps62
        go_wp2_with (refine wpList_load_row rfl 23 _ rfl _ rfl _ _ _ _ HP0.out.blk Try.pgUnd rfl (pgSize HPL.out) ?_)
        refine (KL.out _).mono ?_
        rintro e w1 ⟨A1, c1, rfl, hs, hE1⟩
        have HB1 := Lib.hid (HB0.out.ext hE1)
        have HE1 := Lib.hid (HE0.out.trans hE1)
        clear hs hE1 HP0 HB0 HE0
        go_wp2_with (refine wpList_store_row rfl 23 _ _ rfl _ _ rfl rfl _ _ HB1.out (pgSize HZ.out) rfl (cells8_one Z) ?_)
        refine bodyPost_ret (results_row3 Try.results62 _ _ (w.heap.size + 1) _ (cells8 Z) (0, 0) _ rfl (HB1.out.row (cells8 Z)) Try.pgUnd rfl (pgSize HZ.out)) rfl ⟨rfl, HE1.out.setRow (by omega) _⟩

end Go.Proofs.Ytgbfeagoadlhmaa
