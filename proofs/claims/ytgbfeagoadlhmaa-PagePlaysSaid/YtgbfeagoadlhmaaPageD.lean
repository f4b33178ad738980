
/-
  Contracts of page.room, mayItem, find, Right, Slots, Room, Kind.
-/
import Derived.Test.YtgbfeagoadlhmaaPageC
import Derived.OwnWalk
set_option linter.unusedVariables false
set_option linter.unusedSimpArgs false
namespace Go.Proofs.Ytgbfeagoadlhmaa
open Go.RowKit Pl

/-- a page that was just laid in memory -/
theorem Pg.new (w : World) (P : List UInt8) (h : P.length = 1024) : Pg (w.alloc (.cells (cells8 P) 23)) w.heap.size P := ⟨Blk.new w 23 (cells8 P), h⟩
theorem ext_new (w : World) (o : Obj) : Ext w (w.alloc o) := (Ext.refl w).alloc o

theorem right_le {P : List UInt8} (h : rightB P = true) : 18 + 4 * num2 P 14 ≤ num2 P 16 ∧ num2 P 16 ≤ 1024 := by
  unfold rightB at h
  simp only [Bool.and_eq_true, decide_eq_true_eq] at h
  omega

set_option maxHeartbeats 1600000 in
set_option maxRecDepth 100000 in
theorem Right_pg (w : World) (P : List UInt8) (h : P.length = 1024) :
    Calls Try.prog 14 #[.agg (cells8 P)] w fun e w' => e = .returned (.bool (rightB P)) ∧ Ext w w' := by
  have K := Lib.hid (right_pg _ _ P (Pg.new w P h))
  generalize rightB P = r at *
  go_enter Try.func14, Try.ntmps14
  go_wp2_with fail
  refine K.out.mono ?_
  rintro e w' ⟨rfl, hE⟩
  go_wp2_with fail
  go_ret
  exact ⟨rfl, (ext_new w _).trans hE⟩

set_option maxHeartbeats 1600000 in
set_option maxRecDepth 100000 in
theorem Kind_pg (w : World) (P : List UInt8) (h : P.length = 1024) :
    Calls Try.prog 15 #[.agg (cells8 P)] w fun e w' => e = .returned (.int .u8 (at8 P 12)) ∧ Ext w w' := by
  have hc := cells8_get P 12 (by omega)
  go_enter Try.func15, Try.ntmps15
  go_wp2_with fail
  go_ret
  exact ⟨rfl, ext_new w _⟩

/-- how many slots, as page.Slots tells -/
def slotsN (P : List UInt8) : Nat := if rightB P then num2 P 14 else 0

set_option maxHeartbeats 1600000 in
set_option maxRecDepth 100000 in
theorem Slots_pg (w : World) (P : List UInt8) (h : P.length = 1024) :
    Calls Try.prog 16 #[.agg (cells8 P)] w fun e w' => e = .returned (.int .i64 (slotsN P : Int)) ∧ Ext w w' := by
  have HP := Lib.hid (Pg.new w P h)
  have K := Lib.hid (right_pg _ _ P HP.out)
  have KS := Lib.hid (fun W (h : Pg W w.heap.size P) => slots_pg W _ P h)
  have HS : Hid (slotsN P = if rightB P then num2 P 14 else 0) := Lib.hid rfl
  generalize num2 P 14 = n at *
  cases hr : rightB P with
  | false =>
    rw [hr] at K HS
    clear hr
    go_enter Try.func16, Try.ntmps16
    go_wp2_with fail
    refine K.out.mono ?_
    rintro e w' ⟨rfl, hE⟩
    go_wp2_with fail
    go_ret
    exact ⟨by rw [HS.out]; rfl, (ext_new w _).trans hE⟩
  | true =>
    rw [hr] at K HS
    clear hr
    go_enter Try.func16, Try.ntmps16
    go_wp2_with fail
    refine K.out.mono ?_
    rintro e w' ⟨rfl, hE⟩
    have K2 := Lib.hid (KS.out w' (HP.out.ext hE))
    go_wp2_with fail
    refine K2.out.mono ?_
    rintro e w2 ⟨rfl, rfl⟩
    go_wp2_with fail
    go_ret
    exact ⟨by rw [HS.out]; rfl, (ext_new w _).trans hE⟩

/-- how many bytes an item may have that is inserted into a right page -/
def roomN (P : List UInt8) : Nat := if emptyN P (num2 P 14) = num2 P 14 then num2 P 16 - 18 - 4 * num2 P 14 - 4 else num2 P 16 - 18 - 4 * num2 P 14
def RoomN (P : List UInt8) : Nat := if rightB P then roomN P else 0
theorem emptyN_bound (P : List UInt8) (n : Nat) : emptyN P n ≤ n := emptyN_le P n

set_option maxHeartbeats 1600000 in
set_option maxRecDepth 100000 in
theorem room_pg (w : World) (g : Nat) (P : List UInt8) (h : Pg w g P) (hs : 18 + 4 * num2 P 14 ≤ num2 P 16) (hb : num2 P 16 ≤ 1024) :
    Calls Try.prog 51 #[.pointer (some ⟨g, 0, none⟩)] w fun e w' => e = .returned (.int .i64 (roomN P : Int)) ∧ Ext w w' := by
  have HP := Lib.hid h
  have KB := Lib.hid (begin_pg w g P h)
  have KS := Lib.hid (fun W (h : Pg W g P) => slots_pg W g P h)
  have KE := Lib.hid (empty_pg w g P h (by omega))
  have HR : Hid (roomN P = if emptyN P (num2 P 14) = num2 P 14 then num2 P 16 - 18 - 4 * num2 P 14 - 4 else num2 P 16 - 18 - 4 * num2 P 14) := Lib.hid rfl
  have hle := emptyN_le P (num2 P 14)
  clear h
  have K1 := Lib.hid (KS.out w HP.out)
  generalize emptyN P (num2 P 14) = m at *
  generalize num2 P 14 = n at *
  generalize num2 P 16 = b at *
  by_cases hm : m = n
  · rw [if_pos hm] at HR
    subst hm
    go_enter Try.func51, Try.ntmps51
    go_wp2_with (first | (go_at_call 54; refine KB.out.mono ?_; rintro e w' ⟨rfl, rfl⟩) | (go_at_call 42; refine K1.out.mono ?_; rintro e w' ⟨rfl, rfl⟩))
    refine KE.out.mono ?_
    rintro e w1 ⟨rfl, hE⟩
    have K2 := Lib.hid (KS.out w1 (HP.out.ext hE))
    go_wp2_with fail
    refine K2.out.mono ?_
    rintro e w' ⟨rfl, rfl⟩
    go_wp2_with fail
    all_goals
      go_ret
      refine ⟨?_, hE⟩
      rw [HR.out]
      show Ending.returned (.int .i64 _) = _
      congr 2
      omega
  · rw [if_neg hm] at HR
    have hmd : ((m : Int) == (n : Int)) = false := by rw [beq_eq_false_iff_ne]; omega
    go_enter Try.func51, Try.ntmps51
    go_wp2_with (first | (go_at_call 54; refine KB.out.mono ?_; rintro e w' ⟨rfl, rfl⟩) | (go_at_call 42; refine K1.out.mono ?_; rintro e w' ⟨rfl, rfl⟩))
    refine KE.out.mono ?_
    rintro e w1 ⟨rfl, hE⟩
    have K2 := Lib.hid (KS.out w1 (HP.out.ext hE))
    go_wp2_with fail
    refine K2.out.mono ?_
    rintro e w' ⟨rfl, rfl⟩
    go_wp2_with fail
    all_goals
      go_ret
      refine ⟨?_, hE⟩
      rw [HR.out]
      show Ending.returned (.int .i64 _) = _
      congr 2
      omega

set_option maxHeartbeats 1600000 in
set_option maxRecDepth 100000 in
theorem Room_pg (w : World) (P : List UInt8) (h : P.length = 1024) :
    Calls Try.prog 25 #[.agg (cells8 P)] w fun e w' => e = .returned (.int .i64 (RoomN P : Int)) ∧ Ext w w' := by
  have HP := Lib.hid (Pg.new w P h)
  have K := Lib.hid (right_pg _ _ P HP.out)
  have HS : Hid (RoomN P = if rightB P then roomN P else 0) := Lib.hid rfl
  cases hr : rightB P with
  | false =>
    rw [hr] at K HS
    clear hr
    go_enter Try.func25, Try.ntmps25
    go_wp2_with fail
    refine K.out.mono ?_
    rintro e w' ⟨rfl, hE⟩
    go_wp2_with fail
    go_ret
    exact ⟨by rw [HS.out]; rfl, (ext_new w _).trans hE⟩
  | true =>
    rw [hr] at K HS
    have hle := right_le hr
    have KS := Lib.hid (fun W (h : Pg W w.heap.size P) => room_pg W _ P h hle.1 hle.2)
    clear hr hle
    generalize roomN P = r at *
    go_enter Try.func25, Try.ntmps25
    go_wp2_with fail
    refine K.out.mono ?_
    rintro e w' ⟨rfl, hE⟩
    have K2 := Lib.hid (KS.out w' (HP.out.ext hE))
    go_wp2_with fail
    refine K2.out.mono ?_
    rintro e w2 ⟨rfl, hE2⟩
    go_wp2_with fail
    go_ret
    exact ⟨by rw [HS.out]; rfl, ((ext_new w _).trans hE).trans hE2⟩

theorem may_pg (w : World) (n : Nat) (hn : n < 2 ^ 62) : Calls Try.prog 52 #[.int .i64 (n : Int)] w fun e w' => e = .returned (.bool (decide (1 ≤ n) && decide (n ≤ 1000))) ∧ w = w' := by
  by_cases h1 : 1 ≤ n
  · have d1 : decide ((1 : Int) ≤ (n : Int)) = true := by simp; omega
    have d2 : decide ((n : Int) ≤ 1000) = decide (n ≤ 1000) := by simp only [decide_eq_decide]; omega
    go_enter Try.func52, Try.ntmps52
    go_wp2_with fail
    go_ret
    exact ⟨by rw [decide_eq_true h1]; rfl, rfl⟩
  · have d1 : decide ((1 : Int) ≤ (n : Int)) = false := by simp; omega
    go_enter Try.func52, Try.ntmps52
    go_wp2_with fail
    go_ret
    exact ⟨by rw [decide_eq_false h1]; rfl, rfl⟩

/-- has a page such a slot, with an item? -/
def hasB (P : List UInt8) (n : Nat) : Bool := decide (n < num2 P 14) && decide (slotS P n ≠ 0)

set_option maxHeartbeats 1600000 in
set_option maxRecDepth 100000 in
theorem find_pg (w : World) (g : Nat) (P : List UInt8) (n : Nat) (h : Pg w g P) (hs : 18 + 4 * num2 P 14 ≤ 1024) :
    Calls Try.prog 45 #[.pointer (some ⟨g, 0, none⟩), .int .i64 (n : Int)] w fun e w' => e = .returned (.tuple (if hasB P n then #[.int .i64 (slotA P n : Int), .int .i64 (slotS P n : Int), .int .i64 0] else #[.int .i64 0, .int .i64 0, .int .i64 6])) ∧ Ext w w' := by
  have HP := Lib.hid h
  have HS := Lib.hid (slots_pg w g P h)
  have HH : Hid (hasB P n = (decide (n < num2 P 14) && decide (slotS P n ≠ 0))) := Lib.hid rfl
  clear h
  generalize num2 P 14 = m at *
  by_cases hn : n < m
  · have d1 : decide ((m : Int) ≤ (n : Int)) = false := by simp; omega
    have KW := Lib.hid (fun W c hP hB => where_pg W g c P n (by omega) hP hB)
    by_cases hz : slotS P n = 0
    · rw [decide_eq_true hn, hz] at HH
      rw [HH.out]
      rw [hz] at KW
      clear hz
      go_enter Try.func45, Try.ntmps45
      go_wp2_with (go_at_call 42; refine HS.out.mono ?_; rintro e w' ⟨rfl, rfl⟩)
      refine (finder_pg w g).mono ?_
      rintro e w1 ⟨c, rfl, hB1, hc1, hE1⟩
      have K := Lib.hid (KW.out w1 c (HP.out.ext hE1) hB1)
      clear hB1 hc1
      go_wp2_with fail
      refine K.out.mono ?_
      rintro e w' ⟨rfl, rfl⟩
      go_wp2_with fail
      go_ret3
      exact ⟨rfl, hE1.drew⟩
    · have hzd : ((slotS P n : Int) == 0) = false := by rw [beq_eq_false_iff_ne]; omega
      rw [decide_eq_true hn, decide_eq_true hz] at HH
      rw [HH.out]
      generalize slotS P n = sn at *
      generalize slotA P n = an at *
      go_enter Try.func45, Try.ntmps45
      go_wp2_with (go_at_call 42; refine HS.out.mono ?_; rintro e w' ⟨rfl, rfl⟩)
      refine (finder_pg w g).mono ?_
      rintro e w1 ⟨c, rfl, hB1, hc1, hE1⟩
      have K := Lib.hid (KW.out w1 c (HP.out.ext hE1) hB1)
      clear hB1 hc1
      go_wp2_with fail
      refine K.out.mono ?_
      rintro e w' ⟨rfl, rfl⟩
      go_wp2_with fail
      go_ret3
      exact ⟨rfl, hE1.drew⟩
  · have d1 : decide ((m : Int) ≤ (n : Int)) = true := by simp; omega
    rw [decide_eq_false hn] at HH
    rw [HH.out]
    go_enter Try.func45, Try.ntmps45
    go_wp2_with (go_at_call 42; refine HS.out.mono ?_; rintro e w' ⟨rfl, rfl⟩)
    go_ret3
    exact ⟨rfl, Ext.refl _⟩

end Go.Proofs.Ytgbfeagoadlhmaa
