
/-
  Contracts of ref05.find and Item.
-/
import Derived.Test.YtgbfeagoadlhmaaPlayD
import Derived.Test.YtgbfeagoadlhmaaDo
import Derived.Deep.MidRow
import Derived.Test.YtgbfeagoadlhmaaPackP
set_option linter.unusedVariables false
set_option linter.unusedSimpArgs false
namespace Go.Proofs.Ytgbfeagoadlhmaa
open Go.RowKit Pl

attribute [local go_sem] Oper.semAt_some

/-- what ref05.find tells: the slot -/
def slA (P : List UInt8) (z : Int) : Nat := if itemE P z = 0 then slotA P z.toNat else 0
def slN (P : List UInt8) (z : Int) : Nat := if itemE P z = 0 then slotS P z.toNat else 0
theorem range2 {w : World} {g o : Nat} {x y : Value} (h0 : w.cell? ⟨g, o, none⟩ = some x) (h1 : w.cell? ⟨g, o + 1, none⟩ = some y) : w.rangeAt g o [x, y] := by
  intro j v hj
  match j, hj with
  | 0, hj => simp at hj; subst hj; exact h0
  | 1, hj => simp at hj; subst hj; exact h1

set_option maxHeartbeats 3200000 in
set_option maxRecDepth 100000 in
theorem find_ref (w : World) (P : List UInt8) (z : Int) (h : P.length = 1024) (hz1 : -9223372036854775808 ≤ z) (hz2 : z ≤ 9223372036854775807) :
    Calls Try.prog 81 #[.agg (cells8 P), .int .i64 z] w fun e w' => e = .returned (.tuple #[.agg #[.int .i64 (slA P z : Int), .int .i64 (slN P z : Int)], .int .i64 (itemE P z : Int)]) ∧ Ext w w' := by
  have hzs : ∀ W, (zeroValue 128).run Try.prog W = .ok (.agg #[.int .i64 0, .int .i64 0]) W := fun W => by kernel_rfl
  have hbs : ∀ W, (Instr.build 128 #[]).run Try.prog W = .ok (.agg #[.int .i64 0, .int .i64 0]) W := fun W => by kernel_rfl
  have HPL := Lib.hid h
  have HP0 := Lib.hid ((Pg.new w P h).ext (ext_new _ (.cells #[.int .i64 0, .int .i64 0] 128)))
  have HB0 := Lib.hid (Blk.new (w.alloc (.cells (cells8 P) 23)) 128 #[.int .i64 0, .int .i64 0])
  rw [World.size_alloc] at HB0
  have HE0 := Lib.hid (((Ext.refl w).alloc (.cells (cells8 P) 23)).alloc (.cells #[.int .i64 0, .int .i64 0] 128))
  have HIE : Hid (itemE P z = if rightB P then (if z < 0 then 2 else if hasB P z.toNat then 0 else 6) else 4) := Lib.hid rfl
  have HSA : Hid (slA P z = if itemE P z = 0 then slotA P z.toNat else 0) := Lib.hid rfl
  have HSN : Hid (slN P z = if itemE P z = 0 then slotS P z.toNat else 0) := Lib.hid rfl
  cases hr : rightB P with
  | false =>
    have KL := Lib.hid (fun W => List_refF W P h hr)
    rw [hr] at HIE
    simp only [Bool.false_eq_true, if_false] at HIE
    rw [HIE.out] at HSA HSN
    rw [HIE.out, HSA.out, HSN.out]
    simp only [Nat.reduceEqDiff, if_false]
    clear hr h
    go_enter Try.func81, Try.ntmps81
    go_wp2_with (refine wpList_load_row rfl 23 _ rfl _ rfl _ _ _ _ HP0.out.blk Try.pgUnd rfl (pgSize HPL.out) ?_)
    refine (KL.out _).mono ?_
    rintro e w1 ⟨A1, c1, rfl, hE1⟩
    have HB1 := Lib.hid (HB0.out.ext hE1)
    have HE1 := Lib.hid (HE0.out.trans hE1)
    go_wp2_with (refine wpList_store_row rfl 128 _ _ rfl _ _ rfl rfl _ _ HB1.out (Try.slSize _ _) rfl (sl_one _ _) ?_)
    refine bodyPost_ret (results_row2 Try.results81 _ _ (w.heap.size + 1) _ _ (0, 0) _ rfl (HB1.out.row _) Try.underlying128 rfl (Try.slSize _ _)) rfl ⟨rfl, HE1.out.setRow (by omega) _⟩
  | true =>
    have KL := Lib.hid (fun W => List_refT W P h hr)
    rw [hr] at HIE
    simp only [if_true] at HIE
    have hn16 := num2_lt P 14
    clear hr h
    by_cases hz : z < 0
    · rw [if_pos hz] at HIE
      rw [HIE.out] at HSA HSN
      rw [HIE.out, HSA.out, HSN.out]
      simp only [Nat.reduceEqDiff, if_false]
      have hzd : decide (z < 0) = true := by simpa using hz
      generalize num2 P 14 = n at *
      go_enter Try.func81, Try.ntmps81
      go_wp2_with (refine wpList_load_row rfl 23 _ rfl _ rfl _ _ _ _ HP0.out.blk Try.pgUnd rfl (pgSize HPL.out) ?_)
      refine (KL.out _).mono ?_
      rintro e w1 ⟨A1, c1, rfl, hs, hE1⟩
      have HB1 := Lib.hid (HB0.out.ext hE1)
      have HE1 := Lib.hid (HE0.out.trans hE1)
      go_wp2_with (refine wpList_store_row rfl 128 _ _ rfl _ _ rfl rfl _ _ HB1.out (Try.slSize _ _) rfl (sl_one _ _) ?_)
      refine bodyPost_ret (results_row2 Try.results81 _ _ (w.heap.size + 1) _ _ (0, 0) _ rfl (HB1.out.row _) Try.underlying128 rfl (Try.slSize _ _)) rfl ⟨rfl, HE1.out.setRow (by omega) _⟩
    · rw [if_neg hz] at HIE
      obtain ⟨k, rfl⟩ := Int.eq_ofNat_of_zero_le (show 0 ≤ z by omega)
      rw [Int.toNat_natCast] at HIE HSA HSN
      have hzd : decide ((k : Int) < 0) = false := by simp
      have HH : Hid (hasB P k = (decide (k < num2 P 14) && decide (slotS P k ≠ 0))) := Lib.hid rfl
      by_cases hk : k < num2 P 14
      · have d1 : decide ((num2 P 14 : Int) ≤ (k : Int)) = false := decide_eq_false (by omega)
        by_cases hs0 : slotS P k = 0
        · have hh : hasB P k = false := by rw [HH.out]; simp [hs0]
          rw [hh] at HIE
          simp only [Bool.false_eq_true, if_false] at HIE
          rw [HIE.out] at HSA HSN
          rw [HIE.out, HSA.out, HSN.out]
          simp only [Nat.reduceEqDiff, if_false]
          have e1 : ((slotS P k : Int) == 0) = true := by rw [beq_iff_eq]; omega
          have HKN := Lib.hid hk
          clear hh HH hs0
          generalize num2 P 14 = n at *
          go_enter Try.func81, Try.ntmps81
          go_wp2_with (refine wpList_load_row rfl 23 _ rfl _ rfl _ _ _ _ HP0.out.blk Try.pgUnd rfl (pgSize HPL.out) ?_)
          refine (KL.out _).mono ?_
          rintro e w1 ⟨A1, c1, rfl, hs, hE1⟩
          have HB1 := Lib.hid (HB0.out.ext hE1)
          have HE1 := Lib.hid (HE0.out.trans hE1)
          obtain ⟨g5, rfl, y0, y1⟩ := hs.at_ HKN.out
          clear hs
          generalize slotS P k = s at *
          generalize slotA P k = a at *
          go_wp2_with (refine wpList_store_row rfl 128 _ _ rfl _ _ rfl rfl _ _ HB1.out (Try.slSize _ _) rfl (sl_one _ _) ?_)
          refine bodyPost_ret (results_row2 Try.results81 _ _ (w.heap.size + 1) _ _ (0, 0) _ rfl (HB1.out.row _) Try.underlying128 rfl (Try.slSize _ _)) rfl ⟨rfl, HE1.out.setRow (by omega) _⟩
        · have hh : hasB P k = true := by rw [HH.out]; simp [hs0, hk]
          rw [hh] at HIE
          simp only [if_true] at HIE
          rw [HIE.out] at HSA HSN
          rw [HIE.out, HSA.out, HSN.out]
          simp only [if_true]
          have e1 : ((slotS P k : Int) == 0) = false := by rw [beq_eq_false_iff_ne]; omega
          have HKN := Lib.hid hk
          clear hh HH hs0 HSA HSN
          generalize num2 P 14 = n at *
          go_enter Try.func81, Try.ntmps81
          go_wp2_with (refine wpList_load_row rfl 23 _ rfl _ rfl _ _ _ _ HP0.out.blk Try.pgUnd rfl (pgSize HPL.out) ?_)
          refine (KL.out _).mono ?_
          rintro e w1 ⟨A1, c1, rfl, hs, hE1⟩
          have HB1 := Lib.hid (HB0.out.ext hE1)
          have HE1 := Lib.hid (HE0.out.trans hE1)
          obtain ⟨g5, rfl, y0, y1⟩ := hs.at_ HKN.out
          have HRG := Lib.hid (range2 y0 y1)
          clear hs
          go_wp2_with (first | (refine wpList_load_mid rfl 128 _ rfl g5 (k * 2) rfl _ _ HRG.out Try.underlying128 rfl (Try.slSize _ _) ?_) | (refine wpList_store_row rfl 128 _ _ rfl _ _ rfl rfl _ _ HB1.out (Try.slSize _ _) rfl (sl_one _ _) ?_))
          refine bodyPost_ret (results_row2 Try.results81 _ _ (w.heap.size + 1) _ _ (0, 0) _ rfl (HB1.out.row _) Try.underlying128 rfl (Try.slSize _ _)) rfl ⟨rfl, HE1.out.setRow (by omega) _⟩
      · have d1 : decide ((num2 P 14 : Int) ≤ (k : Int)) = true := decide_eq_true (by omega)
        have hh : hasB P k = false := by rw [HH.out]; simp [hk]
        rw [hh] at HIE
        simp only [Bool.false_eq_true, if_false] at HIE
        rw [HIE.out] at HSA HSN
        rw [HIE.out, HSA.out, HSN.out]
        simp only [Nat.reduceEqDiff, if_false]
        clear hh HH
        generalize num2 P 14 = n at *
        go_enter Try.func81, Try.ntmps81
        go_wp2_with (refine wpList_load_row rfl 23 _ rfl _ rfl _ _ _ _ HP0.out.blk Try.pgUnd rfl (pgSize HPL.out) ?_)
        refine (KL.out _).mono ?_
        rintro e w1 ⟨A1, c1, rfl, hs, hE1⟩
        have HB1 := Lib.hid (HB0.out.ext hE1)
        have HE1 := Lib.hid (HE0.out.trans hE1)
        clear hs
        go_wp2_with (refine wpList_store_row rfl 128 _ _ rfl _ _ rfl rfl _ _ HB1.out (Try.slSize _ _) rfl (sl_one _ _) ?_)
        refine bodyPost_ret (results_row2 Try.results81 _ _ (w.heap.size + 1) _ _ (0, 0) _ rfl (HB1.out.row _) Try.underlying128 rfl (Try.slSize _ _)) rfl ⟨rfl, HE1.out.setRow (by omega) _⟩

theorem item_yes {P : List UInt8} {z : Int} (h : P.length = 1024) (h0 : itemE P z = 0) : rightB P = true ∧ 0 ≤ z ∧ z.toNat < num2 P 14 ∧ 1 ≤ slotS P z.toNat ∧ slotS P z.toNat ≤ 1000 ∧ slotA P z.toNat + slotS P z.toNat ≤ 1024 ∧ (itemL P z.toNat).length = slotS P z.toNat := by
  unfold itemE at h0
  split at h0
  · rename_i hr
    split at h0
    · omega
    · split at h0
      · rename_i hz hh
        unfold hasB at hh
        simp only [Bool.and_eq_true, decide_eq_true_eq] at hh
        obtain ⟨q1, q2, q3, q4⟩ := right_slot hr hh.1 hh.2
        refine ⟨hr, by omega, hh.1, q1, q2, q4, ?_⟩
        unfold itemL
        rw [List.length_take, List.length_drop]
        omega
      · omega
  · omega

set_option maxHeartbeats 1600000 in
set_option maxRecDepth 100000 in
theorem Item_ref (w : World) (P : List UInt8) (z : Int) (h : P.length = 1024) (hz1 : -9223372036854775808 ≤ z) (hz2 : z ≤ 9223372036854775807) :
    Calls Try.prog 57 #[.agg (cells8 P), .int .i64 z] w fun e w' => ∃ v, e = .returned (.tuple #[v, .int .i64 (itemE P z : Int)]) ∧ Own 5 w' w.heap.size v (itemB P z) ∧ Ext w w' := by
  have hzs : ∀ W, (zeroValue 128).run Try.prog W = .ok (.agg #[.int .i64 0, .int .i64 0]) W := fun W => by kernel_rfl
  have HPL := Lib.hid h
  have HP0 := Lib.hid (Pg.new w P h)
  have HE0 := Lib.hid (ext_new w (.cells (cells8 P) 23))
  have KF := Lib.hid (fun W => find_ref W P z h hz1 hz2)
  have HIB : Hid (itemB P z = if itemE P z = 0 then itemL P z.toNat else []) := Lib.hid rfl
  by_cases he : itemE P z = 0
  · obtain ⟨_, hz0, _, q1, q2, q3, q4⟩ := item_yes h he
    have hA : slA P z = slotA P z.toNat := by unfold slA; rw [if_pos he]
    have hS : slN P z = slotS P z.toNat := by unfold slN; rw [if_pos he]
    rw [if_pos he] at HIB
    rw [HIB.out, he]
    rw [hA, hS, he] at KF
    have HIL : Hid ((P.drop (slotA P z.toNat)).take (slotS P z.toNat) = itemL P z.toNat) := Lib.hid rfl
    have HLN := Lib.hid q4
    have HBYf := Lib.hid (fun W (h : Pg W w.heap.size P) => h.by_ (slotA P z.toNat) (slotS P z.toNat) q3)
    rw [HIL.out] at HBYf
    have hsl := fun W => slice_pg w.heap.size (slotA P z.toNat) (slotA P z.toNat + slotS P z.toNat) (by omega) q3 (by omega) W
    rw [show slotA P z.toNat + slotS P z.toNat - slotA P z.toNat = slotS P z.toNat by omega, Int.natCast_add] at hsl
    clear hA hS he HIB HIL q4
    generalize itemL P z.toNat = L at *
    generalize slotA P z.toNat = a at *
    generalize slotS P z.toNat = s at *
    rw [show ((0 : Nat) : Int) = 0 from rfl] at KF ⊢
    go_enter Try.func57, Try.ntmps57
    go_wp2_with (refine wpList_load_row rfl 23 _ rfl _ rfl _ _ _ _ HP0.out.blk Try.pgUnd rfl (pgSize HPL.out) ?_)
    refine (KF.out _).mono ?_
    rintro e w1 ⟨rfl, hE1⟩
    have HP1 := Lib.hid (HP0.out.ext hE1)
    have HE1 := Lib.hid (HE0.out.trans hE1)
    have HBs := Lib.hid (Blk.new w1 128 #[.int .i64 0, .int .i64 0])
    have HX1 := Lib.hid ((ext_new w1 (.cells #[.int .i64 0, .int .i64 0] 128)).setRow (Nat.le_refl w1.heap.size) #[.int .i64 (a : Int), .int .i64 (s : Int)])
    have HBt := Lib.hid (HBs.out.row #[.int .i64 (a : Int), .int .i64 (s : Int)])
    have HEt := Lib.hid (HE1.out.trans HX1.out)
    have HPt := Lib.hid (HP1.out.ext HX1.out)
    clear hE1 HP0 HE0
    obtain ⟨w2, hw2⟩ : ∃ w2, (w1.alloc (.cells #[.int .i64 0, .int .i64 0] 128)).setRow w1.heap.size #[.int .i64 (a : Int), .int .i64 (s : Int)] = w2 := ⟨_, rfl⟩
    rw [hw2] at HBt HEt HPt
    obtain ⟨x0, x1⟩ := cell2 HBt.out
    have HBY := Lib.hid (HBYf.out w2 HPt.out)
    have HSZ := Lib.hid HEt.out.size
    clear HX1
    go_wp2_with (first | (refine wpList_store_row rfl 128 _ _ rfl _ _ rfl rfl _ _ HBs.out (Try.slSize _ _) rfl (sl_one _ _) ?_; rw [hw2]; clear hw2 HBs) | (at_builtin; refine wpList_append8 Try.byt rfl _ _ rfl rfl (Own.nil _ _ w.heap.size) _ s _ rfl L HBY.out HLN.out.symm (by have := HLN.out; simp only [List.length_nil]; omega) HSZ.out ?_; intro vN wN hO hG hat; have HO := Lib.hid hO; have HG := Lib.hid hG; clear hO hG hat))
    go_ret2
    exact ⟨vN, rfl, by simpa using HO.out, Ext.own HG.out HEt.out⟩
  · rw [if_neg he] at HIB
    rw [HIB.out]
    have hne : ((itemE P z : Int) != 0) = true := by rw [bne_iff_ne]; omega
    clear HIB he
    generalize itemE P z = en at *
    generalize slA P z = a at *
    generalize slN P z = s at *
    go_enter Try.func57, Try.ntmps57
    go_wp2_with (refine wpList_load_row rfl 23 _ rfl _ rfl _ _ _ _ HP0.out.blk Try.pgUnd rfl (pgSize HPL.out) ?_)
    refine (KF.out _).mono ?_
    rintro e w1 ⟨rfl, hE1⟩
    have HE1 := Lib.hid (HE0.out.trans hE1)
    have HBs := Lib.hid (Blk.new w1 128 #[.int .i64 0, .int .i64 0])
    have HEt := Lib.hid (HE1.out.trans ((ext_new w1 (.cells #[.int .i64 0, .int .i64 0] 128)).setRow (Nat.le_refl w1.heap.size) #[.int .i64 (a : Int), .int .i64 (s : Int)]))
    clear hE1 HP0 HE0
    go_wp2_with (refine wpList_store_row rfl 128 _ _ rfl _ _ rfl rfl _ _ HBs.out (Try.slSize _ _) rfl (sl_one _ _) ?_)
    go_ret2
    exact ⟨_, rfl, Own.nil _ _ _, HEt.out⟩

end Go.Proofs.Ytgbfeagoadlhmaa

/-
  Contract of ref05.Set (by playg.py).
-/
namespace Go.Proofs.Ytgbfeagoadlhmaa
open Go.RowKit Pl

attribute [local go_sem] Oper.semAt_some

theorem cell_far {w w' : World} {row : Option Nat} {p : Addr} {v : Value} (h : w.cell? p = some v) (hg : w.grownBy w' row) (hne : some p.block ≠ row) : w'.cell? p = some v := by
  rw [World.cell?_of_block (w := w) (hg.block p.block (block_lt_of_cell h) hne)]
  exact h
theorem setE_item (P : List UInt8) (z : Int) (n : Nat) : setE P z n = if itemE P z = 4 then 4 else if 1 ≤ n ∧ n ≤ 1000 then (if itemE P z = 0 then (if slotS P z.toNat = n then 0 else 2) else itemE P z) else 2 := by
  unfold setE itemE
  by_cases h1 : rightB P = true
  · rw [if_pos h1, if_pos h1]
    by_cases h2 : z < 0
    · rw [if_pos h2, if_pos h2]; simp
    · rw [if_neg h2, if_neg h2]
      by_cases h3 : hasB P z.toNat = true
      · rw [if_pos h3, if_pos h3]; simp
      · rw [if_neg h3, if_neg h3]; simp
  · rw [if_neg h1, if_neg h1]; simp

set_option maxHeartbeats 3200000 in
set_option maxRecDepth 100000 in
theorem Set_ref (w : World) (P : List UInt8) (z : Int) (A : Option Addr) (l : List UInt8) (c : Nat) (h : P.length = 1024) (hb : By w A l) (hl : l.length < 2 ^ 62) (hz1 : -9223372036854775808 ≤ z) (hz2 : z ≤ 9223372036854775807) :
    Calls Try.prog 64 #[.agg (cells8 P), .int .i64 z, .slice A l.length c] w fun e w' => e = .returned (.tuple #[.agg (cells8 (setR P z l)), .int .i64 (setE P z l.length : Int)]) ∧ Ext w w' := by
  have hzs : ∀ W, (zeroValue 128).run Try.prog W = .ok (.agg #[.int .i64 0, .int .i64 0]) W := fun W => by kernel_rfl
  have hz := (zero_of_info Try.page0).1
  have HPL := Lib.hid h
  have HP0 := Lib.hid ((Pg.new w P h).ext (ext_new _ (.cells (cells8 zeroP) 23)))
  have HB0 := Lib.hid (Blk.new (w.alloc (.cells (cells8 P) 23)) 23 (cells8 zeroP))
  rw [World.size_alloc] at HB0
  have HE0 := Lib.hid (((Ext.refl w).alloc (.cells (cells8 P) 23)).alloc (.cells (cells8 zeroP) 23))
  generalize hw0 : (w.alloc (.cells (cells8 P) 23)).alloc (.cells (cells8 zeroP) 23) = w0 at *
  have HIE : Hid (setE P z l.length = if itemE P z = 4 then 4 else if 1 ≤ l.length ∧ l.length ≤ 1000 then (if itemE P z = 0 then (if slotS P z.toNat = l.length then 0 else 2) else itemE P z) else 2) := Lib.hid (setE_item P z l.length)
  have HIR : Hid (setR P z l = if setE P z l.length = 0 then over P (slotA P z.toNat) l else zeroP) := Lib.hid rfl
  have HZ := Lib.hid zeroP_length
  have HHB := Lib.hid hb
  have KF := Lib.hid (fun W => find_ref W P z h hz1 hz2)
  have hbz := fun W => build_pg hz W
  have HYES := Lib.hid (fun he => item_yes (z := z) h he)
  have HSL : Hid (itemE P z = 0 → slA P z = slotA P z.toNat ∧ slN P z = slotS P z.toNat) := Lib.hid (fun he => ⟨by unfold slA; rw [if_pos he], by unfold slN; rw [if_pos he]⟩)
  clear hb h
  by_cases he4 : itemE P z = 4
  · rw [if_pos he4] at HIE
    rw [HIE.out] at HIR
    rw [HIE.out, HIR.out]
    simp only [Nat.reduceEqDiff, if_false]
    rw [he4] at KF
    rw [show ((4 : Nat) : Int) = 4 from rfl] at KF ⊢
    clear he4
    clear HYES HSL
    generalize slA P z = a at *
    generalize slN P z = s at *
    generalize zeroP = Z at *
    go_enter Try.func64, Try.ntmps64
    go_wp2_with (refine wpList_load_row rfl 23 _ rfl _ rfl _ _ _ _ HP0.out.blk Try.pgUnd rfl (pgSize HPL.out) ?_)
    refine (KF.out _).mono ?_
    rintro e w1 ⟨rfl, hE1⟩
    have HP1 := Lib.hid (HP0.out.ext hE1)
    have HB1 := Lib.hid (HB0.out.ext hE1)
    have HE1 := Lib.hid (HE0.out.trans hE1)
    have HBs := Lib.hid (Blk.new w1 128 #[.int .i64 0, .int .i64 0])
    have HX1 := Lib.hid ((ext_new w1 (.cells #[.int .i64 0, .int .i64 0] 128)).setRow (Nat.le_refl w1.heap.size) #[.int .i64 (a : Int), .int .i64 (s : Int)])
    have HBt := Lib.hid (HBs.out.row #[.int .i64 (a : Int), .int .i64 (s : Int)])
    have HEt := Lib.hid (HE1.out.trans HX1.out)
    have HPt := Lib.hid (HP1.out.ext HX1.out)
    have HZt := Lib.hid (HB1.out.ext HX1.out)
    have HSW := Lib.hid HP1.out.blk.lt
    have HSW2 := Lib.hid HB1.out.lt
    clear hE1 HP0 HB0 HE0 HP1 HB1 HE1 KF
    obtain ⟨w2, hw2⟩ : ∃ w2, (w1.alloc (.cells #[.int .i64 0, .int .i64 0] 128)).setRow w1.heap.size #[.int .i64 (a : Int), .int .i64 (s : Int)] = w2 := ⟨_, rfl⟩
    rw [hw2] at HBt HEt HPt HZt
    obtain ⟨x0, x1⟩ := cell2 HBt.out
    clear HX1
    go_wp2_with (first | (refine wpList_store_row rfl 128 _ _ rfl _ _ rfl rfl _ _ HBs.out (Try.slSize _ _) rfl (sl_one _ _) ?_; rw [hw2]; clear hw2 HBs) | (refine wpList_store_row rfl 23 _ _ rfl _ _ rfl rfl _ _ HZt.out (pgSize HZ.out) rfl (cells8_one Z) ?_))
    refine bodyPost_ret (results_row2 Try.results64 _ _ (w.heap.size + 1) _ (cells8 Z) (0, 0) _ rfl (HZt.out.row (cells8 Z)) Try.pgUnd rfl (pgSize HZ.out)) rfl ⟨rfl, HEt.out.setRow (by omega) _⟩
  · rw [if_neg he4] at HIE
    have n1 : ((itemE P z : Int) != 4) = true := by rw [bne_iff_ne]; omega
    by_cases hm : 1 ≤ l.length ∧ l.length ≤ 1000
    · rw [if_pos hm] at HIE
      have d1 : decide ((l.length : Int) < 1) = false := decide_eq_false (by omega)
      have d2 : decide ((1000 : Int) < (l.length : Int)) = false := decide_eq_false (by omega)
      by_cases he0 : itemE P z = 0
      · rw [if_pos he0] at HIE
        obtain ⟨_, hz0, _, q1, q2, q3, q4⟩ := HYES.out he0
        rw [(HSL.out he0).1, (HSL.out he0).2] at KF
        rw [he0] at KF
        rw [show ((0 : Nat) : Int) = 0 from rfl] at KF
        by_cases hs : slotS P z.toNat = l.length
        · rw [if_pos hs] at HIE
          rw [HIE.out] at HIR
          rw [HIE.out, HIR.out]
          simp only [if_true]
          rw [show ((0 : Nat) : Int) = 0 from rfl]
          rw [hs] at KF q3
          have hne : ((l.length : Int) != (l.length : Int)) = false := by simp
          have HSN := Lib.hid (fun k (hk : k < l.length) => over_snoc (P := P) (a := slotA P z.toNat) (l := l) (show slotA P z.toNat + l.length ≤ P.length by rw [HPL.out]; exact q3) hk)
          have HO0 : Hid ((over P (slotA P z.toNat) l).length = 1024) := Lib.hid (by rw [over_length _ _ _ (by rw [HPL.out]; exact q3), HPL.out])
          have HON : Hid (over P (slotA P z.toNat) [] = P) := Lib.hid (over_none P _)
          have HTL : Hid (l.take l.length = l) := Lib.hid (List.take_length)
          have HG := Lib.hid (fun k => at8_is l k)
          clear n1 he0 he4 q1 q2 q4 hs HYES HSL
          generalize slotA P z.toNat = a at *
          generalize hln : l.length = n at *
          have HLN := Lib.hid hln
          clear hln HIE HIR
          obtain ⟨s, hsn⟩ : ∃ s, n = s := ⟨_, rfl⟩
          subst hsn
          go_enter Try.func64, Try.ntmps64
          go_wp2_with (refine wpList_load_row rfl 23 _ rfl _ rfl _ _ _ _ HP0.out.blk Try.pgUnd rfl (pgSize HPL.out) ?_)
          refine (KF.out _).mono ?_
          rintro e w1 ⟨rfl, hE1⟩
          have HP1 := Lib.hid (HP0.out.ext hE1)
          have HB1 := Lib.hid (HB0.out.ext hE1)
          have HE1 := Lib.hid (HE0.out.trans hE1)
          have HBs := Lib.hid (Blk.new w1 128 #[.int .i64 0, .int .i64 0])
          have HX1 := Lib.hid ((ext_new w1 (.cells #[.int .i64 0, .int .i64 0] 128)).setRow (Nat.le_refl w1.heap.size) #[.int .i64 (a : Int), .int .i64 (n : Int)])
          have HBt := Lib.hid (HBs.out.row #[.int .i64 (a : Int), .int .i64 (n : Int)])
          have HEt := Lib.hid (HE1.out.trans HX1.out)
          have HPt := Lib.hid (HP1.out.ext HX1.out)
          have HZt := Lib.hid (HB1.out.ext HX1.out)
          have HSW := Lib.hid HP1.out.blk.lt
          have HSW2 := Lib.hid HB1.out.lt
          clear hE1 HP0 HB0 HE0 HP1 HB1 HE1 KF
          obtain ⟨w2, hw2⟩ : ∃ w2, (w1.alloc (.cells #[.int .i64 0, .int .i64 0] 128)).setRow w1.heap.size #[.int .i64 (a : Int), .int .i64 (n : Int)] = w2 := ⟨_, rfl⟩
          rw [hw2] at HBt HEt HPt HZt
          obtain ⟨x0, x1⟩ := cell2 HBt.out
          clear HX1
          go_wp2_with (refine wpList_store_row rfl 128 _ _ rfl _ _ rfl rfl _ _ HBs.out (Try.slSize _ _) rfl (sl_one _ _) ?_; rw [hw2]; clear hw2 HBs)
          go_loopw [10] (fun q wr => ∃ k : Nat, k ≤ n ∧ q = .int .i64 (k : Int) ∧ Pg wr w.heap.size (over P a (l.take k)) ∧ Blk wr (w.heap.size + 1) 23 (cells8 zeroP) ∧ Blk wr w1.heap.size 128 #[.int .i64 (a : Int), .int .i64 (n : Int)] ∧ Ext w wr) (fun q _ => n - (intOf q).toNat)
          case atStart => exact ⟨0, Nat.zero_le _, rfl, by rw [List.take_zero, HON.out]; exact HPt.out, HZt.out, HBt.out, HEt.out⟩
          case round =>
            obtain ⟨k, hk, rfl, hP, hB, hS, hE⟩ := hrel
            have HP := Lib.hid hP
            have HB := Lib.hid hB
            have HS := Lib.hid hS
            have HE := Lib.hid hE
            clear hP hB hS hE HPt HZt HBt HEt x0 x1
            by_cases hkn : k < n
            · have dk : decide ((k : Int) < (n : Int)) = true := decide_eq_true (by omega)
              obtain ⟨g, o, rfl, hc0⟩ := byte_at HHB.out (k := k) (by rw [HLN.out]; exact hkn)
              have hglt : g < w.heap.size := block_lt_of_cell hc0
              have hc := HE.out.cell hc0
              clear hc0
              obtain ⟨x0, x1⟩ := cell2 HS.out
              have hs := HSN.out k hkn
              have hsw := HSW.out
              have hsw2 := HSW2.out
              have HPn := HP.out.blk.drew
              have HPn := (⟨HPn, HP.out.len⟩ : Pg wr.drew w.heap.size (over P a (l.take k))).setByte (a + k) (l.getD k 0)
              rw [hs] at HPn
              have HPn := Lib.hid HPn
              have HGk := HG.out k
              have HBn := Lib.hid (HB.out.drew.far (p := ⟨w.heap.size, a + k, none⟩) (by show w.heap.size + 1 ≠ w.heap.size; omega) (.int .u8 (at8 l k)))
              have HSn := Lib.hid (HS.out.drew.far (p := ⟨w.heap.size, a + k, none⟩) (by show w1.heap.size ≠ w.heap.size; omega) (.int .u8 (at8 l k)))
              have HEn := Lib.hid (HE.out.drew.setCell (p := ⟨w.heap.size, a + k, none⟩) (Nat.le_refl _) (.int .u8 (at8 l k)))
              rw [← HGk] at HPn
              have hold : ∃ v, wr.cell? ⟨w.heap.size, a + k, none⟩ = some v := ⟨_, by rw [HP.out.blk.cell]; exact cells8_get _ _ (by rw [HP.out.len]; omega)⟩
              obtain ⟨v, hold⟩ := hold
              have hfr := HP.out.blk.frozen (a + k)
              have hto : ((a : Int) + (k : Int)).toNat = a + k := by omega
              clear hs HGk HP HB HE HS
              go_upto_region 9 with fail
              refine wp_eager (grow_pre w.heap.size) (n := 10) (by kernel_rfl) (by kernel_rfl) ?_
              refine Eg.batchK (grow_pre w.heap.size) (by intro c a d v w h; cases d <;> exact h) (by kernel_rfl) (n := 5) [0, 2, 4, 5, 6] [] _ (by kernel_rfl) (fun K hK => ?_); (simp only [pickOps, List.getElem?_toArray, List.getElem?_cons_zero, List.getElem?_cons_succ, Option.toList_some, List.cons_append, List.nil_append]); (repeat (first | go_big_quiet_step (fail) | quiet_step (fail))); refine wpQuiet_nil (hK _ ?_); clear hK K
              (refine Eg.read (grow_pre w.heap.size) (by intro c a d v w h; cases d <;> exact h) (by kernel_rfl) (i := 1) (n := 4) (l := [0, 2, 4, 5, 6]) rfl (by kernel_rfl) (by kernel_rfl) rfl ⟨_, fun w' hR => load_run rfl (load_ni (cell_far (w := wr.drew) x0 hR (by simp; omega))), ?_⟩); (simp only [Act.put, List.setIfInBounds_toArray, List.getElem_toArray, List.getElem_cons_succ, List.getElem_cons_zero, List.set_cons_succ, List.set_cons_zero])
              refine Eg.batchK (grow_pre w.heap.size) (by intro c a d v w h; cases d <;> exact h) (by kernel_rfl) (n := 3) [3] [0, 2, 4, 5, 6, 1] _ (by kernel_rfl) (fun K hK => ?_); (simp only [pickOps, List.getElem?_toArray, List.getElem?_cons_zero, List.getElem?_cons_succ, Option.toList_some, List.cons_append, List.nil_append]); (repeat (first | go_big_quiet_step (fail) | quiet_step (fail))); refine wpQuiet_nil (hK _ ?_); clear hK K
              (refine Eg.read (grow_pre w.heap.size) (by intro c a d v w h; cases d <;> exact h) (by kernel_rfl) (i := 7) (n := 2) (l := [0, 2, 4, 5, 6, 1, 3]) rfl (by kernel_rfl) (by kernel_rfl) rfl ⟨_, fun w' hR => load_run rfl (load_u8p (cell_far (w := wr.drew) hc hR (by simp; omega))), ?_⟩); (simp only [Act.put, List.setIfInBounds_toArray, List.getElem_toArray, List.getElem_cons_succ, List.getElem_cons_zero, List.set_cons_succ, List.set_cons_zero])
              refine Eg.batchK (grow_pre w.heap.size) (by intro c a d v w h; cases d <;> exact h) (by kernel_rfl) (n := 1) [8] [0, 2, 4, 5, 6, 1, 3, 7] _ (by kernel_rfl) (fun K hK => ?_); (simp only [pickOps, List.getElem?_toArray, List.getElem?_cons_zero, List.getElem?_cons_succ, Option.toList_some, List.cons_append, List.nil_append]); (repeat (first | go_big_quiet_step (fail) | quiet_step (fail))); refine wpQuiet_nil (hK _ ?_); clear hK K
              refine Eg.act (grow_pre w.heap.size) (i := 9) (n := 0) (l := [0, 2, 4, 5, 6, 1, 3, 7, 8]) rfl (by kernel_rfl) ?_
              go_wp2_with fail
              refine ⟨grown_set _ _ _, ?_⟩
              refine Eg.finish (by kernel_rfl) ?_
              go_wp2_with fail
              exact ⟨⟨k + 1, by omega, by go_num, HPn.out, HBn.out, HSn.out, HEn.out⟩, by simp [intOf]; omega⟩
            · obtain rfl : k = n := by omega
              have dk : decide ((k : Int) < (k : Int)) = false := decide_eq_false (by omega)
              have hlk : l.take k = l := by rw [← HLN.out]; exact List.take_length
              rw [hlk] at HP
              clear hlk
              go_wp2_with (first | (refine wpList_load_row rfl 23 _ rfl _ rfl _ _ _ _ HP.out.blk Try.pgUnd rfl (pgSize HO0.out) ?_) | (refine wpList_store_row rfl 23 _ _ rfl _ _ rfl rfl _ _ HB.out (pgSize HO0.out) (by rw [cells8_size, cells8_size, HO0.out, HZ.out]) (cells8_one _) ?_))
              refine bodyPost_ret (results_row2 Try.results64 _ _ (w.heap.size + 1) _ (cells8 (over P a l)) (0, 0) _ rfl (HB.out.row _) Try.pgUnd rfl (pgSize HO0.out)) rfl ⟨rfl, HE.out.setRow (by omega) _⟩
        · rw [if_neg hs] at HIE
          rw [HIE.out] at HIR
          rw [HIE.out, HIR.out]
          simp only [Nat.reduceEqDiff, if_false]
          have hne : ((l.length : Int) != (slotS P z.toNat : Int)) = true := by rw [bne_iff_ne]; omega
          clear n1 he0 he4 q1 q2 q3 q4 hs HYES HSL
          generalize slotA P z.toNat = a at *
          generalize slotS P z.toNat = s at *
          generalize zeroP = Z at *
          go_enter Try.func64, Try.ntmps64
          go_wp2_with (refine wpList_load_row rfl 23 _ rfl _ rfl _ _ _ _ HP0.out.blk Try.pgUnd rfl (pgSize HPL.out) ?_)
          refine (KF.out _).mono ?_
          rintro e w1 ⟨rfl, hE1⟩
          have HP1 := Lib.hid (HP0.out.ext hE1)
          have HB1 := Lib.hid (HB0.out.ext hE1)
          have HE1 := Lib.hid (HE0.out.trans hE1)
          have HBs := Lib.hid (Blk.new w1 128 #[.int .i64 0, .int .i64 0])
          have HX1 := Lib.hid ((ext_new w1 (.cells #[.int .i64 0, .int .i64 0] 128)).setRow (Nat.le_refl w1.heap.size) #[.int .i64 (a : Int), .int .i64 (s : Int)])
          have HBt := Lib.hid (HBs.out.row #[.int .i64 (a : Int), .int .i64 (s : Int)])
          have HEt := Lib.hid (HE1.out.trans HX1.out)
          have HPt := Lib.hid (HP1.out.ext HX1.out)
          have HZt := Lib.hid (HB1.out.ext HX1.out)
          have HSW := Lib.hid HP1.out.blk.lt
          have HSW2 := Lib.hid HB1.out.lt
          clear hE1 HP0 HB0 HE0 HP1 HB1 HE1 KF
          obtain ⟨w2, hw2⟩ : ∃ w2, (w1.alloc (.cells #[.int .i64 0, .int .i64 0] 128)).setRow w1.heap.size #[.int .i64 (a : Int), .int .i64 (s : Int)] = w2 := ⟨_, rfl⟩
          rw [hw2] at HBt HEt HPt HZt
          obtain ⟨x0, x1⟩ := cell2 HBt.out
          clear HX1
          go_wp2_with (first | (refine wpList_store_row rfl 128 _ _ rfl _ _ rfl rfl _ _ HBs.out (Try.slSize _ _) rfl (sl_one _ _) ?_; rw [hw2]; clear hw2 HBs) | (refine wpList_store_row rfl 23 _ _ rfl _ _ rfl rfl _ _ HZt.out (pgSize HZ.out) rfl (cells8_one Z) ?_))
          refine bodyPost_ret (results_row2 Try.results64 _ _ (w.heap.size + 1) _ (cells8 Z) (0, 0) _ rfl (HZt.out.row (cells8 Z)) Try.pgUnd rfl (pgSize HZ.out)) rfl ⟨rfl, HEt.out.setRow (by omega) _⟩
      · rw [if_neg he0] at HIE
        have e0 : ((itemE P z : Int) == 0) = false := by rw [beq_eq_false_iff_ne]; omega
        have n0 : ((itemE P z : Int) != 0) = true := by rw [bne_iff_ne]; omega
        rw [HIE.out] at HIR
        rw [HIE.out, HIR.out]
        rw [if_neg he0]
        clear HIE HIR he0 he4
        generalize itemE P z = en at *
        clear HYES HSL
        generalize slA P z = a at *
        generalize slN P z = s at *
        generalize zeroP = Z at *
        go_enter Try.func64, Try.ntmps64
        go_wp2_with (refine wpList_load_row rfl 23 _ rfl _ rfl _ _ _ _ HP0.out.blk Try.pgUnd rfl (pgSize HPL.out) ?_)
        refine (KF.out _).mono ?_
        rintro e w1 ⟨rfl, hE1⟩
        have HP1 := Lib.hid (HP0.out.ext hE1)
        have HB1 := Lib.hid (HB0.out.ext hE1)
        have HE1 := Lib.hid (HE0.out.trans hE1)
        have HBs := Lib.hid (Blk.new w1 128 #[.int .i64 0, .int .i64 0])
        have HX1 := Lib.hid ((ext_new w1 (.cells #[.int .i64 0, .int .i64 0] 128)).setRow (Nat.le_refl w1.heap.size) #[.int .i64 (a : Int), .int .i64 (s : Int)])
        have HBt := Lib.hid (HBs.out.row #[.int .i64 (a : Int), .int .i64 (s : Int)])
        have HEt := Lib.hid (HE1.out.trans HX1.out)
        have HPt := Lib.hid (HP1.out.ext HX1.out)
        have HZt := Lib.hid (HB1.out.ext HX1.out)
        have HSW := Lib.hid HP1.out.blk.lt
        have HSW2 := Lib.hid HB1.out.lt
        clear hE1 HP0 HB0 HE0 HP1 HB1 HE1 KF
        obtain ⟨w2, hw2⟩ : ∃ w2, (w1.alloc (.cells #[.int .i64 0, .int .i64 0] 128)).setRow w1.heap.size #[.int .i64 (a : Int), .int .i64 (s : Int)] = w2 := ⟨_, rfl⟩
        rw [hw2] at HBt HEt HPt HZt
        obtain ⟨x0, x1⟩ := cell2 HBt.out
        clear HX1
        go_wp2_with (first | (refine wpList_store_row rfl 128 _ _ rfl _ _ rfl rfl _ _ HBs.out (Try.slSize _ _) rfl (sl_one _ _) ?_; rw [hw2]; clear hw2 HBs) | (refine wpList_store_row rfl 23 _ _ rfl _ _ rfl rfl _ _ HZt.out (pgSize HZ.out) rfl (cells8_one Z) ?_))
        refine bodyPost_ret (results_row2 Try.results64 _ _ (w.heap.size + 1) _ (cells8 Z) (0, 0) _ rfl (HZt.out.row (cells8 Z)) Try.pgUnd rfl (pgSize HZ.out)) rfl ⟨rfl, HEt.out.setRow (by omega) _⟩
    · rw [if_neg hm] at HIE
      rw [HIE.out] at HIR
      rw [HIE.out, HIR.out]
      simp only [Nat.reduceEqDiff, if_false]
      clear he4 HIE HIR
      generalize itemE P z = en at *
      clear HYES HSL
      generalize slA P z = a at *
      generalize slN P z = s at *
      generalize zeroP = Z at *
      by_cases hm1 : l.length < 1
      · have d1 : decide ((l.length : Int) < 1) = true := decide_eq_true (by omega)
        clear hm hm1
        generalize l.length = ln at *
        go_enter Try.func64, Try.ntmps64
        go_wp2_with (refine wpList_load_row rfl 23 _ rfl _ rfl _ _ _ _ HP0.out.blk Try.pgUnd rfl (pgSize HPL.out) ?_)
        refine (KF.out _).mono ?_
        rintro e w1 ⟨rfl, hE1⟩
        have HP1 := Lib.hid (HP0.out.ext hE1)
        have HB1 := Lib.hid (HB0.out.ext hE1)
        have HE1 := Lib.hid (HE0.out.trans hE1)
        have HBs := Lib.hid (Blk.new w1 128 #[.int .i64 0, .int .i64 0])
        have HX1 := Lib.hid ((ext_new w1 (.cells #[.int .i64 0, .int .i64 0] 128)).setRow (Nat.le_refl w1.heap.size) #[.int .i64 (a : Int), .int .i64 (s : Int)])
        have HBt := Lib.hid (HBs.out.row #[.int .i64 (a : Int), .int .i64 (s : Int)])
        have HEt := Lib.hid (HE1.out.trans HX1.out)
        have HPt := Lib.hid (HP1.out.ext HX1.out)
        have HZt := Lib.hid (HB1.out.ext HX1.out)
        have HSW := Lib.hid HP1.out.blk.lt
        have HSW2 := Lib.hid HB1.out.lt
        clear hE1 HP0 HB0 HE0 HP1 HB1 HE1 KF
        obtain ⟨w2, hw2⟩ : ∃ w2, (w1.alloc (.cells #[.int .i64 0, .int .i64 0] 128)).setRow w1.heap.size #[.int .i64 (a : Int), .int .i64 (s : Int)] = w2 := ⟨_, rfl⟩
        rw [hw2] at HBt HEt HPt HZt
        obtain ⟨x0, x1⟩ := cell2 HBt.out
        clear HX1
        go_wp2_with (first | (refine wpList_store_row rfl 128 _ _ rfl _ _ rfl rfl _ _ HBs.out (Try.slSize _ _) rfl (sl_one _ _) ?_; rw [hw2]; clear hw2 HBs) | (refine wpList_store_row rfl 23 _ _ rfl _ _ rfl rfl _ _ HZt.out (pgSize HZ.out) rfl (cells8_one Z) ?_))
        refine bodyPost_ret (results_row2 Try.results64 _ _ (w.heap.size + 1) _ (cells8 Z) (0, 0) _ rfl (HZt.out.row (cells8 Z)) Try.pgUnd rfl (pgSize HZ.out)) rfl ⟨rfl, HEt.out.setRow (by omega) _⟩
      · have d1 : decide ((l.length : Int) < 1) = false := decide_eq_false (by omega)
        have d2 : decide ((1000 : Int) < (l.length : Int)) = true := decide_eq_true (by omega)
        clear hm hm1
        go_enter Try.func64, Try.ntmps64
        go_wp2_with (refine wpList_load_row rfl 23 _ rfl _ rfl _ _ _ _ HP0.out.blk Try.pgUnd rfl (pgSize HPL.out) ?_)
        refine (KF.out _).mono ?_
        rintro e w1 ⟨rfl, hE1⟩
        have HP1 := Lib.hid (HP0.out.ext hE1)
        have HB1 := Lib.hid (HB0.out.ext hE1)
        have HE1 := Lib.hid (HE0.out.trans hE1)
        have HBs := Lib.hid (Blk.new w1 128 #[.int .i64 0, .int .i64 0])
        have HX1 := Lib.hid ((ext_new w1 (.cells #[.int .i64 0, .int .i64 0] 128)).setRow (Nat.le_refl w1.heap.size) #[.int .i64 (a : Int), .int .i64 (s : Int)])
        have HBt := Lib.hid (HBs.out.row #[.int .i64 (a : Int), .int .i64 (s : Int)])
        have HEt := Lib.hid (HE1.out.trans HX1.out)
        have HPt := Lib.hid (HP1.out.ext HX1.out)
        have HZt := Lib.hid (HB1.out.ext HX1.out)
        have HSW := Lib.hid HP1.out.blk.lt
        have HSW2 := Lib.hid HB1.out.lt
        clear hE1 HP0 HB0 HE0 HP1 HB1 HE1 KF
        obtain ⟨w2, hw2⟩ : ∃ w2, (w1.alloc (.cells #[.int .i64 0, .int .i64 0] 128)).setRow w1.heap.size #[.int .i64 (a : Int), .int .i64 (s : Int)] = w2 := ⟨_, rfl⟩
        rw [hw2] at HBt HEt HPt HZt
        obtain ⟨x0, x1⟩ := cell2 HBt.out
        clear HX1
        go_wp2_with (first | (refine wpList_store_row rfl 128 _ _ rfl _ _ rfl rfl _ _ HBs.out (Try.slSize _ _) rfl (sl_one _ _) ?_; rw [hw2]; clear hw2 HBs) | (refine wpList_store_row rfl 23 _ _ rfl _ _ rfl rfl _ _ HZt.out (pgSize HZ.out) rfl (cells8_one Z) ?_))
        refine bodyPost_ret (results_row2 Try.results64 _ _ (w.heap.size + 1) _ (cells8 Z) (0, 0) _ rfl (HZt.out.row (cells8 Z)) Try.pgUnd rfl (pgSize HZ.out)) rfl ⟨rfl, HEt.out.setRow (by omega) _⟩

end Go.Proofs.Ytgbfeagoadlhmaa

/-
  Contract of ref05.Pack.
-/
namespace Go.Proofs.Ytgbfeagoadlhmaa
open Go.RowKit Pl

attribute [local go_sem] Oper.semAt_some

/-! ## plain -/
def qQ (P : List UInt8) (k : Nat) : List UInt8 := set2 (pkP P k) 16 (1024 - sumS P k)
theorem qQ_length {P : List UInt8} (h : P.length = 1024) (hr : rightB P = true) {k : Nat} (hk : k ≤ num2 P 14) : (qQ P k).length = 1024 := by
  unfold qQ; exact set2_length _ _ _ (pkP_length h hr k hk) (by omega)
theorem qQ_num {P : List UInt8} (h : P.length = 1024) (hr : rightB P = true) {k : Nat} (hk : k ≤ num2 P 14) : num2 (qQ P k) 16 = 1024 - sumS P k := by
  unfold qQ; exact num2_set2 (by rw [pkP_length h hr k hk]; omega) (by omega)
theorem zeros_over {P : List UInt8} (h : P.length = 1024) {m : Nat} (hm : m ≤ 1024) : over P m (List.replicate (1024 - m) 0) = over zeroP 0 (P.take m) := by
  have hl : (P.take m).length = m := by rw [List.length_take, h]; omega
  apply ext_getD
  · rw [over_length _ _ _ (by rw [List.length_replicate, h]; omega), over_length _ _ _ (by rw [hl, zeroP_length]; omega), zeroP_length, h]
  · intro i hi
    rw [over_length _ _ _ (by rw [List.length_replicate, h]; omega), h] at hi
    rw [over_get _ _ _ (by rw [List.length_replicate, h]; omega), over_get _ _ _ (by rw [hl, zeroP_length]; omega), List.length_replicate, hl]
    by_cases hc : i < m
    · rw [if_neg (by omega), if_pos (by omega), List.getD_eq_getElem?_getD, List.getD_eq_getElem?_getD, List.getElem?_take_of_lt (by omega)]
      rfl
    · rw [if_pos (by omega), if_neg (by omega)]
      unfold zeroP
      rw [List.getD_eq_getElem?_getD, List.getD_eq_getElem?_getD, List.getElem?_replicate, List.getElem?_replicate, if_pos (by omega), if_pos (by omega)]
theorem lay_pack {R : List UInt8} {k a s b : Nat} {l : List UInt8} (h : R.length = 1024) (hl : l.length = s) (hb : b = a + s) (hk : 18 + 4 * k + 4 ≤ a) (hb2 : b ≤ 1024) :
    layP (set2 R 16 b) k l = set2 (point2 (over R a l) k a s) 16 a := by
  have h1 : (set2 R 16 b).length = 1024 := set2_length _ _ _ h (by omega)
  have h2 : num2 (set2 R 16 b) 16 = b := num2_set2 (by rw [h]; omega) (by omega)
  rw [ins_lay h1 (a := a) (by rw [h2, hb, hl]) hk (by omega), hl]
  unfold point2 set2
  generalize hX : put b 2 = B
  have lB : B.length = 2 := by rw [← hX, put_length]
  generalize hA : put a 2 = A
  have lA : A.length = 2 := by rw [← hA, put_length]
  generalize hS : put s 2 = S
  have lS : S.length = 2 := by rw [← hS, put_length]
  have e1 : (over R 16 B).length = 1024 := by rw [over_length _ _ _ (by omega), h]
  have e2 : (over (over R 16 B) (18 + 4 * k) A).length = 1024 := by rw [over_length _ _ _ (by omega), e1]
  have e3 : (over (over (over R 16 B) (18 + 4 * k) A) (18 + 4 * k + 2) S).length = 1024 := by rw [over_length _ _ _ (by omega), e2]
  have e4 : (over (over (over (over R 16 B) (18 + 4 * k) A) (18 + 4 * k + 2) S) 16 A).length = 1024 := by rw [over_length _ _ _ (by omega), e3]
  have f1 : (over R a l).length = 1024 := by rw [over_length _ _ _ (by omega), h]
  have f2 : (over (over R a l) (18 + 4 * k) A).length = 1024 := by rw [over_length _ _ _ (by omega), f1]
  have f3 : (over (over (over R a l) (18 + 4 * k) A) (18 + 4 * k + 2) S).length = 1024 := by rw [over_length _ _ _ (by omega), f2]
  apply ext_getD
  · rw [over_length (over (over (over (over R 16 B) (18 + 4 * k) A) (18 + 4 * k + 2) S) 16 A) a l (by omega), over_length (over (over (over R a l) (18 + 4 * k) A) (18 + 4 * k + 2) S) 16 A (by omega), e4, f3]
  · intro i hi
    rw [over_get _ _ _ (by omega), over_get _ _ _ (by omega), over_get _ _ _ (by omega), over_get _ _ _ (by omega), over_get _ _ _ (by omega), over_get _ _ _ (by omega), over_get _ _ _ (by omega), over_get _ _ _ (by omega), over_get _ _ _ (by omega)]
    by_cases c1 : a ≤ i ∧ i < a + l.length
    · rw [if_pos c1, if_neg (by omega), if_neg (by omega), if_neg (by omega), if_pos c1]
    · rw [if_neg c1, if_neg c1]
      by_cases c2 : 16 ≤ i ∧ i < 16 + A.length
      · rw [if_pos c2, if_pos c2]
      · rw [if_neg c2, if_neg c2, if_neg (by omega : ¬ (16 ≤ i ∧ i < 16 + B.length))]
theorem qQ_step {P : List UInt8} (h : P.length = 1024) (hr : rightB P = true) {k : Nat} (hk : k < num2 P 14) (hs : slotS P k ≠ 0) : layP (qQ P k) k (itemL P k) = qQ P (k + 1) := by
  have h1 := sumS_le hr (k := k + 1) (by omega)
  have h2 := right_le hr
  have h3 := sumS_succ P k
  unfold qQ
  rw [lay_pack (pkP_length h hr k (by omega)) (itemL_length h hr hk) (a := 1024 - sumS P (k + 1)) (by omega) (by omega) (by omega)]
  rw [show pkP P (k + 1) = if slotS P k = 0 then pkP P k else _ from rfl, if_neg hs]
theorem qQ_same {P : List UInt8} {k : Nat} (hs : slotS P k = 0) : qQ P (k + 1) = qQ P k := by
  unfold qQ
  rw [show pkP P (k + 1) = if slotS P k = 0 then pkP P k else _ from rfl, if_pos hs, sumS_succ, hs, Nat.add_zero]
theorem qQ_zero (P : List UInt8) : qQ P 0 = set2 (over zeroP 0 (P.take (18 + 4 * num2 P 14))) 16 1024 := rfl
theorem qQ_last (P : List UInt8) : qQ P (num2 P 14) = packP P := rfl

theorem grown_ext5 {a b : World} (h : Ext a b) (row : Option Nat) : a.grownBy b row := ⟨Below.os h, Below.tape h, Below.output h, Below.size h, fun k hk _ => h.block hk⟩

set_option maxHeartbeats 3200000 in
set_option maxRecDepth 100000 in
theorem Pack_ref (w : World) (P : List UInt8) (h : P.length = 1024) :
    Calls Try.prog 65 #[.agg (cells8 P)] w fun e w' => e = .returned (.tuple #[.agg (cells8 (packR P)), .int .i64 (packE P : Int)]) ∧ Ext w w' := by
  have hz := (zero_of_info Try.page0).1
  have HPL := Lib.hid h
  have HP0 := Lib.hid ((Pg.new w P h).ext (ext_new _ (.cells (cells8 zeroP) 23)))
  have HB0 := Lib.hid (Blk.new (w.alloc (.cells (cells8 P) 23)) 23 (cells8 zeroP))
  rw [World.size_alloc] at HB0
  have HE0 := Lib.hid (((Ext.refl w).alloc (.cells (cells8 P) 23)).alloc (.cells (cells8 zeroP) 23))
  generalize hw0 : (w.alloc (.cells (cells8 P) 23)).alloc (.cells (cells8 zeroP) 23) = w0 at *
  have HIE : Hid (packE P = if rightB P then 0 else 4) := Lib.hid rfl
  have HIR : Hid (packR P = if rightB P then packP P else zeroP) := Lib.hid rfl
  have HZ := Lib.hid zeroP_length
  cases hr : rightB P with
  | false =>
    have KL := Lib.hid (fun W => List_refF W P h hr)
    rw [hr] at HIE HIR
    simp only [Bool.false_eq_true, if_false] at HIE HIR
    rw [HIE.out, HIR.out]
    clear hr h
    generalize zeroP = Z at *
    go_enter Try.func65, Try.ntmps65
    go_wp2_with (refine wpList_load_row rfl 23 _ rfl _ rfl _ _ _ _ HP0.out.blk Try.pgUnd rfl (pgSize HPL.out) ?_)
    refine (KL.out _).mono ?_
    rintro e w1 ⟨A1, c1, rfl, hE1⟩
    have HBk := Lib.hid (HB0.out.ext (hE1))
    have HEk := Lib.hid (HE0.out.trans (hE1))
    have hbz := fun W => build_pg hz W
    go_wp2_with (refine wpList_store_row rfl 23 _ _ rfl _ _ rfl rfl _ _ HBk.out (pgSize HZ.out) rfl (cells8_one Z) ?_)
    refine bodyPost_ret (results_row2 Try.results65 _ _ (w.heap.size + 1) _ (cells8 Z) (0, 0) _ rfl (HBk.out.row (cells8 Z)) Try.pgUnd rfl (pgSize HZ.out)) rfl ⟨rfl, HEk.out.setRow (by omega) _⟩
  | true =>
    have hle := right_le hr
    have KL := Lib.hid (fun W => List_refT W P h hr)
    rw [hr] at HIE HIR
    simp only [if_true] at HIE HIR
    rw [HIE.out, HIR.out]
    have HQL := Lib.hid (fun k hk => qQ_length h hr (k := k) hk)
    have HIL : Hid (∀ k, (P.drop (slotA P k)).take (slotS P k) = itemL P k) := Lib.hid (fun k => rfl)
    have HLL := Lib.hid (fun k hk => itemL_length h hr (k := k) hk)
    have HSR := Lib.hid (fun k hk hs => right_slot hr (n := k) hk hs)
    have KY : Hid (∀ k, k < num2 P 14 → slotS P k ≠ 0 → ∀ W A c, By W A (itemL P k) → Calls Try.prog 85 #[.agg (cells8 (qQ P k)), .int .i64 (k : Int), .slice A (slotS P k) c] W fun e w' => e = .returned (.agg (cells8 (qQ P (k + 1)))) ∧ Ext W w') := Lib.hid (fun k hk hs W A c hb => by
      have hs1 := right_slot hr hk hs
      have h1 := sumS_le hr (k := k + 1) (by omega)
      have h3 := sumS_succ P k
      have hn := qQ_num h hr (k := k) (by omega)
      have := lay_ref W (qQ P k) k A (itemL P k) c (qQ_length h hr (by omega)) (by omega) (by rw [itemL_length h hr hk]; omega) (by omega) (by rw [itemL_length h hr hk]; omega) hb
      rw [qQ_step h hr hk hs, itemL_length h hr hk] at this
      exact this)
    have HSA : Hid (∀ k, slotS P k = 0 → qQ P (k + 1) = qQ P k) := Lib.hid (fun k hs => qQ_same hs)
    have hO0 : (over zeroP 0 (P.take (18 + 4 * num2 P 14))).length = 1024 := by rw [over_length _ _ _ (by rw [zeroP_length, List.length_take, h]; omega), zeroP_length]
    have KW := fun W => with_ref W _ hO0 16 1024 (by omega) (by omega)
    rw [← qQ_zero, show ((16 : Nat) : Int) = 16 from rfl, show ((1024 : Nat) : Int) = 1024 from rfl] at KW
    have KW := Lib.hid KW
    have HO0 := Lib.hid hO0
    have HSN := Lib.hid (fun k (hk : k < 1024 - (18 + 4 * num2 P 14)) => over_snoc (P := P) (a := 18 + 4 * num2 P 14) (l := List.replicate (1024 - (18 + 4 * num2 P 14)) 0) (k := k) (by rw [List.length_replicate, h]; omega) (by rw [List.length_replicate]; exact hk))
    have HGD : Hid (∀ k, (List.replicate (1024 - (18 + 4 * num2 P 14)) (0 : UInt8)).getD k 0 = 0) := Lib.hid (fun k => by
      rw [List.getD_eq_getElem?_getD, List.getElem?_replicate]; split <;> rfl)
    have HTK : Hid (over P (18 + 4 * num2 P 14) ((List.replicate (1024 - (18 + 4 * num2 P 14)) (0 : UInt8)).take (1024 - (18 + 4 * num2 P 14))) = over zeroP 0 (P.take (18 + 4 * num2 P 14))) := Lib.hid (by
      rw [List.take_of_length_le (by rw [List.length_replicate]; exact Nat.le_refl _)]; exact zeros_over h (by omega))
    have HON := Lib.hid (over_none P (18 + 4 * num2 P 14))
    have HLA : Hid (qQ P (num2 P 14) = packP P) := Lib.hid rfl
    rw [← HLA.out]
    clear hr h hO0 HLA HIE HIR
    generalize hm0 : 18 + 4 * num2 P 14 = m0 at *
    generalize hN : 1024 - m0 = N at *
    generalize List.replicate N (0 : UInt8) = L0 at *
    generalize over zeroP 0 (P.take m0) = O0 at *
    have hz0 := fun W => build_pg hz W
    have hm1 : m0 + N = 1024 := by omega
    have hm2 : 18 + 4 * (num2 P 14 : Int) = (m0 : Int) := by omega
    clear hN
    generalize num2 P 14 = n at *
    generalize num2 P 16 = b at *
    have HZL := Lib.hid zeroP_length
    generalize zeroP = Z at *
    go_enter Try.func65, Try.ntmps65
    go_wp2_with (refine wpList_load_row rfl 23 _ rfl _ rfl _ _ _ _ HP0.out.blk Try.pgUnd rfl (pgSize HPL.out) ?_)
    refine (KL.out _).mono ?_
    rintro e w1 ⟨A1, c1, rfl, hs1, hE1⟩
    have HS := Lib.hid hs1
    have HP1 := Lib.hid (HP0.out.ext hE1)
    have HB1 := Lib.hid (HB0.out.ext hE1)
    have HE1 := Lib.hid (HE0.out.trans hE1)
    have HSZ := Lib.hid HB1.out.lt
    clear hs1 hE1 HP0 HB0 HE0
    have HBz := Lib.hid (Blk.new w1 23 (cells8 Z))
    have HX1 := Lib.hid ((ext_new w1 (.cells (cells8 Z) 23)).setRow (Nat.le_refl w1.heap.size) (cells8 P))
    have HG1 := Lib.hid (HBz.out.row (cells8 P))
    obtain ⟨w2, hw2⟩ : ∃ w2, (w1.alloc (.cells (cells8 Z) 23)).setRow w1.heap.size (cells8 P) = w2 := ⟨_, rfl⟩
    rw [hw2] at HX1 HG1
    go_wp2_with (first | (refine wpList_load_row rfl 23 _ rfl _ rfl _ _ _ _ HP1.out.blk Try.pgUnd rfl (pgSize HPL.out) ?_) | (refine wpList_store_row rfl 23 _ _ rfl _ _ rfl rfl _ _ HBz.out (pgSize HPL.out) (by rw [cells8_size, cells8_size, HPL.out, HZL.out]) (cells8_one P) ?_; rw [hw2]; clear hw2 HBz))
    go_loopw [7] (fun q wr => ∃ k : Nat, k ≤ N ∧ q = .int .i64 ((m0 : Int) + (k : Int)) ∧ Pg wr w1.heap.size (over P m0 (L0.take k)) ∧ Ext w1 wr) (fun q _ => 1024 - (intOf q).toNat)
    case atStart => exact ⟨0, Nat.zero_le _, by simp, by rw [List.take_zero, HON.out]; exact ⟨HG1.out, HPL.out⟩, HX1.out⟩
    case round =>
      obtain ⟨k, hk, rfl, hP, hE⟩ := hrel
      have HP := Lib.hid hP
      have HE := Lib.hid hE
      clear hP hE HG1 HX1
      by_cases hkn : k < N
      · have dk : decide ((m0 : Int) + (k : Int) < 1024) = true := decide_eq_true (by omega)
        have hs := HSN.out k hkn
        have HPn := HP.out.setByte (m0 + k) (L0.getD k 0)
        rw [hs, HGD.out k, show (((0 : UInt8).toNat : Nat) : Int) = 0 from rfl] at HPn
        have HPn := Lib.hid HPn
        have HEn := Lib.hid (HE.out.setCell (p := ⟨w1.heap.size, m0 + k, none⟩) (Nat.le_refl _) (.int .u8 0))
        have hold : ∃ v, wr.cell? ⟨w1.heap.size, m0 + k, none⟩ = some v := ⟨_, by rw [HP.out.blk.cell]; exact cells8_get _ _ (by rw [HP.out.len]; omega)⟩
        obtain ⟨v, hold⟩ := hold
        have hfr := HP.out.blk.frozen (m0 + k)
        have hto : ((m0 : Int) + (k : Int)).toNat = m0 + k := by omega
        clear hs HP HE
        go_wp2_with fail
        exact ⟨⟨k + 1, by omega, by go_num, HPn.out, HEn.out⟩, by simp [intOf]; omega⟩
      · obtain rfl : k = N := by omega
        have dk : decide ((m0 : Int) + (k : Int) < 1024) = false := decide_eq_false (by omega)
        rw [HTK.out] at HP
        clear HSN HGD HTK HON
        have HQ0 := Lib.hid (HQL.out 0 (Nat.zero_le _))
        go_wp2_with (refine wpList_load_row rfl 23 _ rfl _ rfl _ _ _ _ HP.out.blk Try.pgUnd rfl (pgSize HO0.out) ?_)
        refine (KW.out _).mono ?_
        rintro e w3 ⟨rfl, hE3⟩
        have HP3 := Lib.hid (HP.out.ext hE3)
        have HE3 := Lib.hid (HE.out.trans hE3)
        have HP4 := Lib.hid (HP3.out.blk.row (cells8 (qQ P 0)))
        have HE4 := Lib.hid (HE3.out.setRow (Nat.le_refl w1.heap.size) (cells8 (qQ P 0)))
        clear hE3 HP HE
        go_wp2_with (refine wpList_store_row rfl 23 _ _ rfl _ _ rfl rfl _ _ HP3.out.blk (pgSize HQ0.out) (by rw [cells8_size, cells8_size, HQ0.out, HO0.out]) (cells8_one _) ?_; generalize w3.setRow w1.heap.size (cells8 (qQ P 0)) = w4 at *)
        clear HP3 HE3 KW HO0
        go_loopw [8] (fun q wr => ∃ k : Nat, k ≤ n ∧ q = .int .i64 (k : Int) ∧ Pg wr w1.heap.size (qQ P k) ∧ Ext w1 wr) (fun q _ => n - (intOf q).toNat)
        case atStart => exact ⟨0, Nat.zero_le _, rfl, ⟨HP4.out, HQ0.out⟩, HE4.out⟩
        case round =>
          obtain ⟨k, hk, rfl, hP, hE⟩ := hrel
          have HP := Lib.hid hP
          have HE := Lib.hid hE
          clear hP hE HP4 HE4
          by_cases hkn : k < n
          · have dk : decide ((k : Int) < (n : Int)) = true := decide_eq_true (by omega)
            obtain ⟨g, rfl, y0, y1⟩ := HS.out.at_ hkn
            have hg : g < w1.heap.size := block_lt_of_cell y0
            have x0 := HE.out.cell y0
            have x1 := HE.out.cell y1
            clear y0 y1
            have HNE : Hid (g ≠ w1.heap.size) := Lib.hid (by omega)
            by_cases hs : slotS P k = 0
            · have d1 : decide ((0 : Int) < (slotS P k : Int)) = false := decide_eq_false (by omega)
              have d2 : decide (0 < slotS P k) = false := decide_eq_false (by omega)
              have HPn := HP.out
              rw [← HSA.out k hs] at HPn
              have HPn := Lib.hid HPn
              clear hs
              generalize slotS P k = s at *
              go_wp2_with fail
              exact ⟨⟨k + 1, by omega, by go_num, HPn.out, HE.out⟩, by simp [intOf]; omega⟩
            · have d1 : decide ((0 : Int) < (slotS P k : Int)) = true := decide_eq_true (by omega)
              have d2 : decide (0 < slotS P k) = true := decide_eq_true (by omega)
              have K := Lib.hid (KY.out k hkn hs)
              obtain ⟨q1, q2, q3, q4⟩ := HSR.out k hkn hs
              have HBY := Lib.hid (fun W (h : Pg W w.heap.size P) => h.by_ (slotA P k) (slotS P k) q4)
              rw [HIL.out k] at HBY
              have hsl := fun W => slice_pg w.heap.size (slotA P k) (slotA P k + slotS P k) (by omega) q4 (by omega) W
              rw [show slotA P k + slotS P k - slotA P k = slotS P k by omega, Int.natCast_add] at hsl
              have HQk := Lib.hid (HQL.out k hk)
              have HQn := Lib.hid (HQL.out (k + 1) hkn)
              clear hs
              generalize slotA P k = a at *
              generalize slotS P k = s at *
              generalize itemL P k = L at *
              go_upto_region 14 with fail
              refine wp_eager (grow_pre w1.heap.size) (n := 21) (by kernel_rfl) (by kernel_rfl) ?_
              refine Eg.batchK (grow_pre w1.heap.size) (by intro c a d v w h; cases d <;> exact h) (by kernel_rfl) (n := 8) [1, 2, 3, 4, 5, 7, 8, 9, 10, 12, 13, 14, 15] [] _ (by kernel_rfl) (fun K hK => ?_); (simp only [pickOps, List.getElem?_toArray, List.getElem?_cons_zero, List.getElem?_cons_succ, Option.toList_some, List.cons_append, List.nil_append]); (repeat (first | go_big_quiet_step (fail) | quiet_step (fail))); refine wpQuiet_nil (hK _ ?_); clear hK K
              (refine Eg.read (grow_pre w1.heap.size) (by intro c a d v w h; cases d <;> exact h) (by kernel_rfl) (i := 6) (n := 7) (l := [1, 2, 3, 4, 5, 7, 8, 9, 10, 12, 13, 14, 15]) rfl (by kernel_rfl) (by kernel_rfl) rfl ⟨_, fun w' hR => load_run rfl (load_ni (cell_far (w := wr.drew) x0 hR (by simp; exact HNE.out))), ?_⟩); (simp only [Act.put, List.setIfInBounds_toArray, List.getElem_toArray, List.getElem_cons_succ, List.getElem_cons_zero, List.set_cons_succ, List.set_cons_zero])
              (refine Eg.read (grow_pre w1.heap.size) (by intro c a d v w h; cases d <;> exact h) (by kernel_rfl) (i := 11) (n := 6) (l := [1, 2, 3, 4, 5, 7, 8, 9, 10, 12, 13, 14, 15, 6]) rfl (by kernel_rfl) (by kernel_rfl) rfl ⟨_, fun w' hR => load_run rfl (load_ni (cell_far (w := wr.drew) x0 hR (by simp; exact HNE.out))), ?_⟩); (simp only [Act.put, List.setIfInBounds_toArray, List.getElem_toArray, List.getElem_cons_succ, List.getElem_cons_zero, List.set_cons_succ, List.set_cons_zero])
              (refine Eg.read (grow_pre w1.heap.size) (by intro c a d v w h; cases d <;> exact h) (by kernel_rfl) (i := 16) (n := 5) (l := [1, 2, 3, 4, 5, 7, 8, 9, 10, 12, 13, 14, 15, 6, 11]) rfl (by kernel_rfl) (by kernel_rfl) rfl ⟨_, fun w' hR => load_run rfl (load_ni (cell_far (w := wr.drew) x1 hR (by simp; exact HNE.out))), ?_⟩); (simp only [Act.put, List.setIfInBounds_toArray, List.getElem_toArray, List.getElem_cons_succ, List.getElem_cons_zero, List.set_cons_succ, List.set_cons_zero])
              refine Eg.batchK (grow_pre w1.heap.size) (by intro c a d v w h; cases d <;> exact h) (by kernel_rfl) (n := 3) [17, 18] [1, 2, 3, 4, 5, 7, 8, 9, 10, 12, 13, 14, 15, 6, 11, 16] _ (by kernel_rfl) (fun K hK => ?_); (simp only [pickOps, List.getElem?_toArray, List.getElem?_cons_zero, List.getElem?_cons_succ, Option.toList_some, List.cons_append, List.nil_append]); (repeat (first | go_big_quiet_step (fail) | quiet_step (fail))); refine wpQuiet_nil (hK _ ?_); clear hK K
              refine Eg.act (grow_pre w1.heap.size) (i := 0) (n := 2) (l := [1, 2, 3, 4, 5, 7, 8, 9, 10, 12, 13, 14, 15, 6, 11, 16, 17, 18]) rfl (by kernel_rfl) ?_
              go_wp2_with (refine wpList_load_row rfl 23 _ rfl _ rfl _ _ _ _ HP.out.blk.drew Try.pgUnd rfl (pgSize HQk.out) ?_)
              refine ⟨(grow_pre w1.heap.size).refl _, ?_⟩
              refine Eg.act (grow_pre w1.heap.size) (i := 19) (n := 1) (l := [1, 2, 3, 4, 5, 7, 8, 9, 10, 12, 13, 14, 15, 6, 11, 16, 17, 18, 0]) rfl (by kernel_rfl) ?_
              go_wp2_with fail
              refine (K.out _ _ _ (HBY.out _ (HP1.out.ext HE.out.drew))).mono ?_
              rintro e w5 ⟨rfl, hE5⟩
              have HP5 := Lib.hid (HP.out.blk.drew.ext hE5)
              have HE5 := Lib.hid (HE.out.drew.trans hE5)
              go_wp2_with fail
              refine ⟨grown_ext5 hE5 _, ?_⟩
              clear hE5
              refine Eg.act (grow_pre w1.heap.size) (i := 20) (n := 0) (l := [1, 2, 3, 4, 5, 7, 8, 9, 10, 12, 13, 14, 15, 6, 11, 16, 17, 18, 0, 19]) rfl (by kernel_rfl) ?_
              go_wp2_with (refine wpList_store_row rfl 23 _ _ rfl _ _ rfl rfl _ _ HP5.out (pgSize HQn.out) (by rw [cells8_size, cells8_size, HQn.out, HQk.out]) (cells8_one _) ?_)
              refine ⟨grown_row _ _ _, ?_⟩
              refine Eg.finish (by kernel_rfl) ?_
              go_wp2_with fail
              exact ⟨⟨k + 1, by omega, by go_num, ⟨HP5.out.row _, HQn.out⟩, HE5.out.setRow (Nat.le_refl w1.heap.size) _⟩, by simp [intOf]; omega⟩
          · obtain rfl : k = n := by omega
            have dk : decide ((k : Int) < (k : Int)) = false := decide_eq_false (by omega)
            have HQk := Lib.hid (HQL.out k hk)
            have HBk := Lib.hid (HB1.out.ext HE.out)
            have HEk := Lib.hid (HE1.out.trans HE.out)
            clear HQL HSA KY HSR HLL HIL KL
            go_wp2_with (first | (refine wpList_load_row rfl 23 _ rfl _ rfl _ _ _ _ HP.out.blk Try.pgUnd rfl (pgSize HQk.out) ?_) | (refine wpList_store_row rfl 23 _ _ rfl _ _ rfl rfl _ _ HBk.out (pgSize HQk.out) (by rw [cells8_size, cells8_size, HQk.out, HZ.out]) (cells8_one _) ?_))
            refine bodyPost_ret (results_row2 Try.results65 _ _ (w.heap.size + 1) _ (cells8 (qQ P k)) (0, 0) _ rfl (HBk.out.row (cells8 (qQ P k))) Try.pgUnd rfl (pgSize HQk.out)) rfl ⟨rfl, HEk.out.setRow (by omega) _⟩

end Go.Proofs.Ytgbfeagoadlhmaa

/-
  Contracts of ref05.LSN, sum, Seal, Good.
-/
namespace Go.Proofs.Ytgbfeagoadlhmaa
open Go.RowKit Pl

attribute [local go_sem] Oper.semAt_some

set_option maxHeartbeats 1600000 in
set_option maxRecDepth 100000 in
theorem LSN_ref (w : World) (P : List UInt8) (h : P.length = 1024) :
    Calls Try.prog 59 #[.agg (cells8 P)] w fun e w' => e = .returned (.int .u64 (num (P.take 8) : Int)) ∧ Ext w w' := by
  have HP := Lib.hid (Pg.new w P h)
  have HX := Lib.hid (ext_new w (.cells (cells8 P) 23))
  have hl := HP.out.sub_len 0 8 (by omega)
  have K := Lib.hid (rget_any _ ((P.drop 0).take 8) 1024 (by rw [hl]; omega) _ (HP.out.by_ 0 8 (by omega)))
  rw [hl, List.drop_zero] at K
  have hsl := fun W => slice_pgh w.heap.size 8 (by omega) W
  clear h hl
  go_enter Try.func59, Try.ntmps59
  go_wp2_with fail
  refine K.out.mono ?_
  rintro e w' ⟨rfl, hE⟩
  go_wp2_with fail
  go_ret
  exact ⟨rfl, HX.out.trans hE⟩

set_option maxHeartbeats 800000 in
theorem rput_own (n k : Nat) (hn : n < 256 ^ k) (h8 : k ≤ 8) (w : World) :
    Calls Try.prog 86 #[.int .u64 n, .int .i64 k] w fun e w' => ∃ v, e = .returned v ∧ Own 5 w' w.heap.size v (put n k) ∧ Ext w w' := by
  have hlt : n < 18446744073709551616 := Nat.lt_of_lt_of_le hn (Nat.le_trans (Nat.pow_le_pow_right (by decide) h8) (by decide))
  have hr0 : (n : Int) = restI n k 0 := by unfold restI; rw [Nat.sub_zero, Nat.mod_eq_of_lt hn]
  have HR := Lib.hid hr0
  clear hr0 hn
  go_enter Try.func86, Try.ntmps86
  go_wp2
  go_loopw [0, 5, 6] (fun x v i wr => ∃ j : Nat, j ≤ k ∧ i = .int .i64 j ∧ x = .int .u64 (restI n k j) ∧ Own 5 wr w.heap.size v ((put n k).take j) ∧ Ext w wr) (fun _ _ i _ => k - (intOf i).toNat)
  case atStart => exact ⟨0, Nat.zero_le _, rfl, by rw [HR.out], by rw [List.take_zero]; exact Own.nil _ _ _, Ext.refl _⟩
  case round =>
    obtain ⟨j, hj, rfl, rfl, hO, hE⟩ := hrel
    by_cases hlt2 : j < k
    · have b1 := restI_lo n k j
      have b2 := restI_hi n k j hlt
      have b3 := wt_pos (k - 1 - j)
      have b4 := wt_le (k - 1 - j) (by omega)
      go_wp2_with fail
      refine (weight_int _ (by omega) (by omega) _).mono ?_
      rintro e w1 ⟨rfl, rfl⟩
      rw [show ((k : Int) - 1 - (j : Int)).toNat = k - 1 - j by omega]
      have HB := Lib.hid (put_byte n k j hlt2)
      have HS := Lib.hid (restI_step n k j hlt2)
      have hbound : ((put n k).take j).length + 1 ≤ 70368744177664 := by rw [List.length_take, put_length]; omega
      go_wp2_with (at_builtin; refine wpList_append8 Try.byt rfl _ _ rfl rfl (hO.alloc _) _ _ _ rfl [(put n k).getD j 0] ?c1 rfl hbound ?c2 ?_)
      case c1 => rw [HB.out]; exact By.one _ _ _
      case c2 => have := hE.size; simp; omega
      intro v' w1 hO' hg hl
      have hE' : Ext w w1 := (hE.alloc _).grown hg (fun k hk => (hO.lt k hk).1)
      go_wp2
      refine ⟨⟨j + 1, by omega, by go_num, by rw [HS.out], ?_, hE'⟩, by simp [intOf]; omega⟩
      rw [at8_take _ _ (by rw [put_length]; exact hlt2)]
      exact hO'
    · obtain rfl : j = k := by omega
      have e : (put n j).take j = put n j := List.take_of_length_le (by rw [put_length]; omega)
      rw [e] at hO
      clear e
      go_wp2
      go_ret
      exact ⟨_, rfl, hO, hE⟩

set_option maxHeartbeats 1600000 in
set_option maxRecDepth 100000 in
theorem sum_ref (w : World) (P : List UInt8) (h : P.length = 1024) :
    Calls Try.prog 84 #[.agg (cells8 P)] w fun e w' => ∃ v, e = .returned v ∧ Own 5 w' w.heap.size v (put (crc (bodyP P)).toNat 4) ∧ Ext w w' := by
  have HP := Lib.hid (Pg.new w P h)
  have HX0 := Lib.hid (ext_new w (.cells (cells8 P) 23))
  have HB8 : Hid (By (w.alloc (.cells (cells8 P) 23)).drew (some ⟨w.heap.size, 0, none⟩) (P.take 8)) := Lib.hid (HP.out.by_ 0 8 (by omega)).drew
  have HB12 := Lib.hid (HP.out.by_ 12 1012 (by omega))
  rw [List.take_of_length_le (l := P.drop 12) (by rw [List.length_drop, h]; decide)] at HB12
  have HL8 : Hid (8 = (P.take 8).length) := Lib.hid (by rw [List.length_take, h]; rfl)
  have HL12 : Hid (1024 - 12 = (P.drop 12).length) := Lib.hid (by rw [List.length_drop, h])
  have hcr := (crc (bodyP P)).isLt
  have HBD : Hid (P.take 8 ++ P.drop 12 = bodyP P) := Lib.hid rfl
  have HBL : Hid ((bodyP P).length = 1020) := Lib.hid (by rw [← HBD.out, List.length_append, ← HL8.out, ← HL12.out])
  have hs1 := fun W => slice_pgh w.heap.size 8 (by omega) W
  have hs2 := fun W => slice_pgl w.heap.size 12 (by omega) W
  have KS := Lib.hid (fun W A c hb => rsum_any A (bodyP P) c (by rw [HBL.out]; omega) W hb)
  rw [HBL.out] at KS
  have KP := Lib.hid (fun W => rput_own (crc (bodyP P)).toNat 4 (by show _ < 4294967296; exact hcr) (by omega) W)
  rw [show ((4 : Nat) : Int) = 4 from rfl] at KP
  have HCR := Lib.hid hcr
  clear h hcr HP
  generalize hcn : (crc (bodyP P)).toNat = cn at *
  have hcn2 : (cn : Int) < 4294967296 := by have := HCR.out; omega
  have hcn3 : (cn : Int) % 18446744073709551616 = (cn : Int) := by omega
  clear hcn
  go_enter Try.func84, Try.ntmps84
  go_upto_region 1 with fail
  obtain ⟨w4, hw4⟩ : ∃ w4, w.alloc (.cells (cells8 P) 23) = w4 := ⟨_, rfl⟩
  rw [hw4] at HB8 HB12 HX0 ⊢
  clear hw4
  refine wp_eager (below_pre w4.heap.size) (n := 5) (by kernel_rfl) (by kernel_rfl) ?_
  refine Eg.batchK (below_pre w4.heap.size) (by intro c a d v w h; cases d <;> exact h) (by kernel_rfl) (n := 3) [0, 2] [] _ (by kernel_rfl) (fun K hK => ?_); (simp only [pickOps, List.getElem?_toArray, List.getElem?_cons_zero, List.getElem?_cons_succ, Option.toList_some, List.cons_append, List.nil_append]); (repeat (first | go_big_quiet_step (fail) | quiet_step (fail))); refine wpQuiet_nil (hK _ ?_); clear hK K
  refine Eg.act (below_pre w4.heap.size) (i := 1) (n := 2) (l := [0, 2]) rfl (by kernel_rfl) ?_
  refine wpList_append8 Try.byt rfl _ _ rfl rfl (Own.nil _ _ w4.heap.size) _ _ _ rfl (P.take 8) HB8.out HL8.out ?c3 ?c4 ?_
  case c3 => (rw [← HL8.out]; simp)
  case c4 => exact Nat.le_refl _
  intro v5 w5 hO5 hg5 hl5
  have hE5 : Ext w4.drew w5 := (Ext.refl w4.drew).append hg5 (Own.nil 5 _ _)
  go_wp2_with fail
  refine ⟨hE5, ?_⟩
  have HB5 := Lib.hid (HB12.out.drew.ext hE5)
  refine Eg.act (below_pre w4.heap.size) (i := 3) (n := 1) (l := [0, 2, 1]) rfl (by kernel_rfl) ?_
  refine wpList_append8 Try.byt rfl _ _ rfl rfl hO5 _ _ _ rfl (P.drop 12) HB5.out HL12.out ?c5 ?c6 ?_
  case c5 => (rw [← HL12.out, List.nil_append, ← HL8.out]; omega)
  case c6 => exact hE5.size
  intro v6 w6 hO6 hg6 hl6
  have hE6 : Below w4.heap.size w5 w6 := Below.grown (Below.refl _ _) hg6 hE5.size (fun k hk => (hO5.lt k hk).1)
  go_wp2_with fail
  refine ⟨hE6, ?_⟩
  refine Eg.batchK (below_pre w4.heap.size) (by intro c a d v w h; cases d <;> exact h) (by kernel_rfl) (n := 0) [4] [0, 2, 1, 3] _ (by kernel_rfl) (fun K hK => ?_); (simp only [pickOps, List.getElem?_toArray, List.getElem?_cons_zero, List.getElem?_cons_succ, Option.toList_some, List.cons_append, List.nil_append]); (repeat (first | go_big_quiet_step (fail) | quiet_step (fail))); refine wpQuiet_nil (hK _ ?_); clear hK K
  refine Eg.finish (by kernel_rfl) ?_
  have hO7 : Own 5 w6 w4.heap.size v6 (bodyP P) := by
    have := hO6
    rw [List.nil_append, HBD.out] at this
    exact this
  obtain ⟨A6, c6, rfl, hb6, hc6, hc6'⟩ := hO7.form
  have HE46 : Hid (Ext w w6) := Lib.hid (HX0.out.trans (Below.trans (Ext.drew (Ext.refl w4) : Below w4.heap.size w4 w4.drew) (Below.trans hE5 hE6)))
  rw [HBL.out]
  have K6 := Lib.hid (KS.out w6 A6 c6 hb6)
  clear hE5 hE6 hO6 hO7 hg5 hg6 hl5 hl6 hO5 HB5 hb6
  go_wp2_with fail
  refine K6.out.mono ?_
  rintro e w7 ⟨rfl, rfl⟩
  go_wp2_with fail
  refine (KP.out _).mono ?_
  rintro e w8 ⟨v8, rfl, hO8, hE8⟩
  have HO8 := Lib.hid (hO8.down HE46.out.size)
  clear hO8
  go_wp2_with fail
  go_ret
  exact ⟨v8, rfl, HO8.out, HE46.out.trans hE8⟩

theorem good_put {P : List UInt8} (h : P.length = 1024) : goodB P = decide ((P.drop 8).take 4 = put (crc (bodyP P)).toNat 4) := by
  have hl : ((P.drop 8).take 4).length = 4 := by rw [List.length_take, List.length_drop, h]; rfl
  have hc := (crc (bodyP P)).isLt
  unfold goodB
  generalize (P.drop 8).take 4 = l at *
  generalize (crc (bodyP P)).toNat = n at *
  by_cases e : num l = n
  · rw [decide_eq_true e, decide_eq_true]
    rw [← e, ← hl, put_num]
  · rw [decide_eq_false e, decide_eq_false]
    intro q
    apply e
    rw [q, num_put n 4 hc]

set_option maxHeartbeats 1600000 in
set_option maxRecDepth 100000 in
theorem Good_ref (w : World) (P : List UInt8) (h : P.length = 1024) :
    Calls Try.prog 60 #[.agg (cells8 P)] w fun e w' => e = .returned (.bool (goodB P)) ∧ Ext w w' := by
  have HP := Lib.hid (Pg.new w P h)
  have HX0 := Lib.hid (ext_new w (.cells (cells8 P) 23))
  have hl := HP.out.sub_len 8 4 (by omega)
  have HPL := Lib.hid h
  have HG := Lib.hid (good_put h)
  have KS := Lib.hid (fun W => sum_ref W P h)
  have hsl := fun W => slice_pg w.heap.size 8 12 (by omega) (by omega) (by omega) W
  have HBY := Lib.hid (HP.out.by_ 8 4 (by omega))
  have HLL := Lib.hid hl
  have HPU : Hid ((put (crc (bodyP P)).toNat 4).length = 4) := Lib.hid (put_length _ _)
  generalize goodB P = gd at *
  generalize (P.drop 8).take 4 = L at *
  generalize put (crc (bodyP P)).toNat 4 = M at *
  clear h hl
  go_enter Try.func60, Try.ntmps60
  go_upto_region 1 with fail
  generalize w.alloc (.cells (cells8 P) 23) = w1 at *
  have HC1 : Hid (∀ W, Ext w1 W → (convert 24 9 (.slice (some ⟨w.heap.size, 8, none⟩) 4 1016)).run Try.prog W = .ok (.string ⟨L.toArray⟩) W) := Lib.hid (fun W hE => by
    have := str_any (HBY.out.ext hE) 1016
    rwa [HLL.out] at this)
  have HC2 : Hid (∀ W A c, By W A M → (convert 24 9 (.slice A 4 c)).run Try.prog W = .ok (.string ⟨M.toArray⟩) W) := Lib.hid (fun W A c hE => by
    have := str_any hE c
    rwa [HPU.out] at this)
  refine wp_eager Ext.pre (n := 7) (by kernel_rfl) (by kernel_rfl) ?_
  refine Eg.batchK Ext.pre (by intro c a d v w h; cases d <;> exact h) (by kernel_rfl) (n := 6) [0] [] _ (by kernel_rfl) (fun K hK => ?_); (simp only [pickOps, List.getElem?_toArray, List.getElem?_cons_zero, List.getElem?_cons_succ, Option.toList_some, List.cons_append, List.nil_append]); (repeat (first | go_big_quiet_step (fail) | quiet_step (fail))); refine wpQuiet_nil (hK _ ?_); clear hK K
  (refine Eg.read Ext.pre (by intro c a d v w h; cases d <;> exact h) (by kernel_rfl) (i := 1) (n := 5) (l := [0]) rfl (by kernel_rfl) (by kernel_rfl) rfl ⟨_, fun w' hR => convert_run rfl (HC1.out w' ((Ext.refl w1).drew.trans hR)), ?_⟩); (simp only [Act.put, List.setIfInBounds_toArray, List.getElem_toArray, List.getElem_cons_succ, List.getElem_cons_zero, List.set_cons_succ, List.set_cons_zero])
  (refine Eg.read Ext.pre (by intro c a d v w h; cases d <;> exact h) (by kernel_rfl) (i := 2) (n := 4) (l := [0, 1]) rfl (by kernel_rfl) (by kernel_rfl) rfl ⟨_, fun w' hR => load_run rfl (load_pg (HP.out.blk.ext ((Ext.refl w1).drew.trans hR)) HPL.out), ?_⟩); (simp only [Act.put, List.setIfInBounds_toArray, List.getElem_toArray, List.getElem_cons_succ, List.getElem_cons_zero, List.set_cons_succ, List.set_cons_zero])
  refine Eg.act Ext.pre (i := 3) (n := 3) (l := [0, 1, 2]) rfl (by kernel_rfl) ?_
  go_wp2_with fail
  refine (KS.out _).mono ?_
  rintro e w5 ⟨v5, rfl, hO5, hE5⟩
  obtain ⟨A5, c5, rfl, hb5, _, _⟩ := hO5.form
  rw [HPU.out]
  clear hO5
  go_wp2_with fail
  refine ⟨hE5, ?_⟩
  (refine Eg.read Ext.pre (by intro c a d v w h; cases d <;> exact h) (by kernel_rfl) (i := 4) (n := 2) (l := [0, 1, 2, 3]) rfl (by kernel_rfl) (by kernel_rfl) rfl ⟨_, fun w' hR => convert_run rfl (HC2.out w' A5 c5 (hb5.ext hR)), ?_⟩); (simp only [Act.put, List.setIfInBounds_toArray, List.getElem_toArray, List.getElem_cons_succ, List.getElem_cons_zero, List.set_cons_succ, List.set_cons_zero])
  refine Eg.batchK Ext.pre (by intro c a d v w h; cases d <;> exact h) (by kernel_rfl) (n := 0) [5, 6] [0, 1, 2, 3, 4] _ (by kernel_rfl) (fun K hK => ?_); (simp only [pickOps, List.getElem?_toArray, List.getElem?_cons_zero, List.getElem?_cons_succ, Option.toList_some, List.cons_append, List.nil_append]); (repeat (first | go_big_quiet_step (fail) | quiet_step (fail))); refine wpQuiet_nil (hK _ ?_); clear hK K
  refine Eg.finish (by kernel_rfl) ?_
  go_wp2_with fail
  go_ret
  refine ⟨?_, (HX0.out.drew).trans hE5⟩
  rw [HG.out]
  rw [show decide (L = M) = (L == M) by by_cases e : L = M <;> simp [e]]
  rfl

end Go.Proofs.Ytgbfeagoadlhmaa

/-
  Contract of ref05.Seal.
-/
namespace Go.Proofs.Ytgbfeagoadlhmaa
open Go.RowKit Pl

attribute [local go_sem] Oper.semAt_some

theorem By.past {w : World} {A : Option Addr} {l : List UInt8} (h : By w A l) {p : Addr} (hp : ∀ b o, A = some ⟨b, o, none⟩ → p.block ≠ b) (u : Value) : By (w.setCell p u) A l := by
  rcases h with rfl | ⟨b, o, rfl, hc⟩
  · exact .inl rfl
  · exact .inr ⟨b, o, rfl, fun i hi => cell_far (hc i hi) (grown_set w p u) (by simp; exact fun e => hp b o rfl e.symm)⟩
theorem own_blocks {t : TypeId} {w : World} {B : Nat} {A : Option Addr} {n c : Nat} {l : List UInt8} (h : Own t w B (.slice A n c) l) : ∀ b o, A = some ⟨b, o, none⟩ → B ≤ b := by
  rintro b o rfl
  exact (h.lt b rfl).1

set_option maxHeartbeats 3200000 in
set_option maxRecDepth 100000 in
theorem Seal_ref (w : World) (P : List UInt8) (n : Nat) (h : P.length = 1024) (hn : n < 18446744073709551616) :
    Calls Try.prog 66 #[.agg (cells8 P), .int .u64 (n : Int)] w fun e w' => e = .returned (.agg (cells8 (sealP P n))) ∧ Ext w w' := by
  have hz := (zero_of_info Try.page0).1
  have HPL := Lib.hid h
  have HQL := Lib.hid (sealP_length P n h)
  have HRL := Lib.hid (lsnP_length P n h)
  have HR : Hid (over P 0 (put n 8) = lsnP P n) := Lib.hid rfl
  have HQ : Hid (over (lsnP P n) 8 (put (crc (bodyP (lsnP P n))).toNat 4) = sealP P n) := Lib.hid rfl
  have hb8 : (put n 8).length = 8 := put_length _ _
  have hb4 : (put (crc (bodyP (lsnP P n))).toNat 4).length = 4 := put_length _ _
  have HS1 := Lib.hid (fun k (hk : k < 8) => over_snoc (P := P) (a := 0) (l := put n 8) (by rw [hb8, h]; omega) (by rw [hb8]; exact hk))
  have HS2 := Lib.hid (fun k (hk : k < 4) => over_snoc (P := lsnP P n) (a := 8) (l := put (crc (bodyP (lsnP P n))).toNat 4) (by rw [hb4, HRL.out]; omega) (by rw [hb4]; exact hk))
  have HT8 : Hid ((put n 8).take 8 = put n 8) := Lib.hid (List.take_of_length_le (by rw [hb8]; exact Nat.le_refl _))
  have HT4 : Hid ((put (crc (bodyP (lsnP P n))).toNat 4).take 4 = put (crc (bodyP (lsnP P n))).toNat 4) := Lib.hid (List.take_of_length_le (by rw [hb4]; exact Nat.le_refl _))
  have KP := Lib.hid (fun W => rput_own n 8 (by show n < 18446744073709551616; exact hn) (by omega) W)
  rw [show ((8 : Nat) : Int) = 8 from rfl] at KP
  have KS := Lib.hid (fun W => sum_ref W (lsnP P n) HRL.out)
  have HB8 := Lib.hid hb8
  have HB4 := Lib.hid hb4
  have HON := Lib.hid (over_none P 0)
  have HON2 := Lib.hid (over_none (lsnP P n) 8)
  have HP0 := Lib.hid ((Pg.new w P h).ext (ext_new _ (.cells (cells8 zeroP) 23)))
  have hB0 := Blk.new (w.alloc (.cells (cells8 P) 23)) 23 (cells8 zeroP)
  rw [World.size_alloc] at hB0
  have HB0 := Lib.hid hB0
  have HE0 := Lib.hid ((ext_new w (.cells (cells8 P) 23)).alloc (.cells (cells8 zeroP) 23))
  have HZ := Lib.hid zeroP_length
  clear hb8 hb4 hB0 h
  generalize put (crc (bodyP (lsnP P n))).toNat 4 = c4 at *
  generalize put n 8 = b8 at *
  generalize sealP P n = Q at *
  generalize lsnP P n = R at *
  have HG8 := Lib.hid (fun k => at8_is b8 k)
  have HG4 := Lib.hid (fun k => at8_is c4 k)
  go_enter Try.func66, Try.ntmps66
  go_wp2_with fail
  refine (KP.out _).mono ?_
  rintro e w1 ⟨v1, rfl, hO1, hE1⟩
  obtain ⟨A1, c1, rfl, hb1, hc1, hc1'⟩ := hO1.form
  have hA1 := own_blocks hO1
  rw [HB8.out]
  have HA1 : Hid (∀ b o, A1 = some ⟨b, o, none⟩ → w.heap.size + 2 ≤ b) := Lib.hid (fun b o e => by have := hA1 b o e; simp only [World.size_alloc] at this; exact this)
  have HY1 := Lib.hid hb1
  have HP1 := Lib.hid (HP0.out.ext hE1)
  have HB1 := Lib.hid (HB0.out.ext hE1)
  have HE1 := Lib.hid (HE0.out.trans hE1)
  clear hO1 hb1 hE1 hA1 HP0 HB0 HE0
  go_wp2_with fail
  go_loopw [6] (fun q wr => ∃ k : Nat, k ≤ 8 ∧ q = .int .i64 (k : Int) ∧ Pg wr w.heap.size (over P 0 (b8.take k)) ∧ Blk wr (w.heap.size + 1) 23 (cells8 zeroP) ∧ By wr A1 b8 ∧ Ext w wr) (fun q _ => 8 - (intOf q).toNat)
  case atStart => exact ⟨0, Nat.zero_le _, rfl, by rw [List.take_zero, HON.out]; exact HP1.out, HB1.out, HY1.out, HE1.out⟩
  case round =>
    obtain ⟨k, hk, rfl, hP, hB, hY, hE⟩ := hrel
    have HP := Lib.hid hP
    have HB := Lib.hid hB
    have HY := Lib.hid hY
    have HE := Lib.hid hE
    clear hP hB hY hE HP1 HB1 HY1 HE1
    by_cases hkn : k < 8
    · have dk : decide ((k : Int) < 8) = true := decide_eq_true (by omega)
      obtain ⟨g, o, hAe, hc⟩ := byte_at HY.out (k := k) (by rw [HB8.out]; exact hkn)
      have hs := HS1.out k hkn
      have HPn := HP.out.setByte (0 + k) (b8.getD k 0)
      rw [hs] at HPn
      have HGk := HG8.out k
      rw [← HGk] at HPn
      have HBn := HB.out.far (p := ⟨w.heap.size, 0 + k, none⟩) (by show w.heap.size + 1 ≠ w.heap.size; omega) (.int .u8 (at8 b8 k))
      have HYn := HY.out.past (p := ⟨w.heap.size, 0 + k, none⟩) (fun b o he => by have := HA1.out b o he; show w.heap.size ≠ b; omega) (.int .u8 (at8 b8 k))
      have HEn := HE.out.setCell (p := ⟨w.heap.size, 0 + k, none⟩) (Nat.le_refl _) (.int .u8 (at8 b8 k))
      have hold : ∃ v, wr.cell? ⟨w.heap.size, 0 + k, none⟩ = some v := ⟨_, by rw [HP.out.blk.cell]; exact cells8_get _ _ (by rw [HP.out.len]; omega)⟩
      obtain ⟨v, hold⟩ := hold
      have hfr := HP.out.blk.frozen (0 + k)
      rw [Nat.zero_add] at HPn HBn HYn HEn hold hfr
      have HPn := Lib.hid HPn
      have HBn := Lib.hid HBn
      have HYn := Lib.hid HYn
      have HEn := Lib.hid HEn
      clear hs HGk HP HB HE HY
      have HA := Lib.hid hAe
      rw [hAe]
      clear hAe
      go_wp2_with fail
      exact ⟨⟨k + 1, by omega, by go_num, HPn.out, HBn.out, (by rw [← HA.out]; exact HYn.out), HEn.out⟩, by simp [intOf]; omega⟩
    · obtain rfl : k = 8 := by omega
      have dk : decide ((((8 : Nat) : Int)) < 8) = false := by decide
      rw [HT8.out] at HP
      rw [HR.out] at HP
      have hX2 := HB.out.lt
      go_wp2_with (refine wpList_load_row rfl 23 _ rfl _ rfl _ _ _ _ HP.out.blk Try.pgUnd rfl (pgSize HRL.out) ?_)
      refine (KS.out _).mono ?_
      rintro e w2 ⟨v2, rfl, hO2, hE2⟩
      obtain ⟨A2, c2, rfl, hb2, hc2, hc2'⟩ := hO2.form
      have hA2 := own_blocks hO2
      rw [HB4.out]
      have HA2 : Hid (∀ b o, A2 = some ⟨b, o, none⟩ → w.heap.size + 2 ≤ b) := Lib.hid (fun b o e => by have := hA2 b o e; omega)
      have HY2 := Lib.hid hb2
      have HP2 := Lib.hid (HP.out.ext hE2)
      have HB2 := Lib.hid (HB.out.ext hE2)
      have HE2 := Lib.hid (HE.out.trans hE2)
      clear hO2 hb2 hE2 hA2 HP HB HE HY
      go_wp2_with fail
      go_loopw [8] (fun q wr => ∃ k : Nat, k ≤ 4 ∧ q = .int .i64 (k : Int) ∧ Pg wr w.heap.size (over R 8 (c4.take k)) ∧ Blk wr (w.heap.size + 1) 23 (cells8 zeroP) ∧ By wr A2 c4 ∧ Ext w wr) (fun q _ => 4 - (intOf q).toNat)
      case atStart => exact ⟨0, Nat.zero_le _, rfl, by rw [List.take_zero, HON2.out]; exact HP2.out, HB2.out, HY2.out, HE2.out⟩
      case round =>
        obtain ⟨k, hk, rfl, hP, hB, hY, hE⟩ := hrel
        have HP := Lib.hid hP
        have HB := Lib.hid hB
        have HY := Lib.hid hY
        have HE := Lib.hid hE
        clear hP hB hY hE HP2 HB2 HY2 HE2
        by_cases hkn : k < 4
        · have dk : decide ((k : Int) < 4) = true := decide_eq_true (by omega)
          obtain ⟨g, o, hAe, hc⟩ := byte_at HY.out (k := k) (by rw [HB4.out]; exact hkn)
          have hs := HS2.out k hkn
          have HPn := HP.out.setByte (8 + k) (c4.getD k 0)
          rw [hs] at HPn
          have HGk := HG4.out k
          rw [← HGk] at HPn
          have HBn := HB.out.far (p := ⟨w.heap.size, 8 + k, none⟩) (by show w.heap.size + 1 ≠ w.heap.size; omega) (.int .u8 (at8 c4 k))
          have HYn := HY.out.past (p := ⟨w.heap.size, 8 + k, none⟩) (fun b o he => by have := HA2.out b o he; show w.heap.size ≠ b; omega) (.int .u8 (at8 c4 k))
          have HEn := HE.out.setCell (p := ⟨w.heap.size, 8 + k, none⟩) (Nat.le_refl _) (.int .u8 (at8 c4 k))
          have hold : ∃ v, wr.cell? ⟨w.heap.size, 8 + k, none⟩ = some v := ⟨_, by rw [HP.out.blk.cell]; exact cells8_get _ _ (by rw [HP.out.len]; omega)⟩
          obtain ⟨v, hold⟩ := hold
          have hfr := HP.out.blk.frozen (8 + k)
          have hto : ((8 : Int) + (k : Int)).toNat = 8 + k := by omega
          have HPn := Lib.hid HPn
          have HBn := Lib.hid HBn
          have HYn := Lib.hid HYn
          have HEn := Lib.hid HEn
          clear hs HGk HP HB HE HY
          have HA := Lib.hid hAe
          rw [hAe]
          clear hAe
          go_wp2_with fail
          exact ⟨⟨k + 1, by omega, by go_num, HPn.out, HBn.out, (by rw [← HA.out]; exact HYn.out), HEn.out⟩, by simp [intOf]; omega⟩
        · obtain rfl : k = 4 := by omega
          have dk : decide ((((4 : Nat) : Int)) < 4) = false := by decide
          rw [HT4.out] at HP
          rw [HQ.out] at HP
          go_wp2_with (first | (refine wpList_load_row rfl 23 _ rfl _ rfl _ _ _ _ HP.out.blk Try.pgUnd rfl (pgSize HQL.out) ?_) | (refine wpList_store_row rfl 23 _ _ rfl _ _ rfl rfl _ _ HB.out (pgSize HQL.out) (by rw [cells8_size, cells8_size, HQL.out, HZ.out]) (cells8_one Q) ?_))
          refine bodyPost_ret (v := .agg (cells8 Q)) (results_cell_row Try.results66 _ _ (w.heap.size + 1) _ (cells8 Q) (0, 0) _ rfl (HB.out.row (cells8 Q)) Try.pgUnd rfl (pgSize HQL.out)) rfl ⟨rfl, HE.out.setRow (by omega) _⟩

end Go.Proofs.Ytgbfeagoadlhmaa
