
/-
  The law NetNone, walked.
-/
import Derived.Test.YtahooohokdbnpaaNoneN
import Derived.Laws.OwnMore
set_option linter.unusedVariables false
set_option linter.unusedSimpArgs false
namespace Go.Proofs.Ytahooohokdbnpaa
open Go.RowKit Go.Shelf Go.Maps Pl

attribute [local go_sem] Oper.semAt_some

theorem make8 (k : Nat) (hk : k ≤ 70368744177664) (w : World) :
    (Instr.makeSlice 36 (.int .i64 (k : Int)) (.int .i64 (k : Int))).run Try.prog w = .ok (.slice (some ⟨w.heap.size, 0, none⟩) k k) (w.alloc (.cells (madeCells #[.int .u8 0] k) 5)) := by
  obtain ⟨i0, hi, hz0, hz1, hz2⟩ := info_parts Try.info8
  have h := run_make (P := Try.prog) w 36 5 i0 (.int .u8 0) Try.underlying36 hi hz0 .i64 .i64 k k (by omega) (Int.le_refl _) (by rw [hz2]; omega) (by omega)
  simp only [Int.toNat_natCast, hz1, Nat.mul_one] at h
  exact h
theorem made_by (w : World) (k : Nat) : By (w.alloc (.cells (madeCells #[.int .u8 0] k) 5)) (some ⟨w.heap.size, 0, none⟩) (List.replicate k 0) :=
  .inr ⟨w.heap.size, 0, rfl, fun i hi => by
    rw [List.length_replicate] at hi
    rw [cell_of_row _ _ _ _ _ (0, 0) (World.alloc_heap_new w _), Nat.zero_add, ← Array.getElem?_toList, toList_madeCells_one, List.getElem?_replicate, if_pos hi]
    unfold at8
    rw [List.getD_eq_getElem?_getD, List.getElem?_replicate, if_pos hi]
    rfl⟩
theorem nn1 (l : List UInt8) (h : l.length = 1048577) : sendE (newN 2) 1 2 l.length = 2 ∧ sendN (newN 2) 1 2 l = newN 2 := by
  have e : sendE (newN 2) 1 2 1048577 = 2 := by decide +kernel
  refine ⟨by rw [h, e], ?_⟩
  unfold sendN
  rw [h, e]
  rfl
theorem nn2 (l : List UInt8) (h : l.length = 1048576) : sendE (newN 2) 1 2 l.length = 0 ∧ (flN (sendN (newN 2) 1 2 l)).length = 1 := by
  have e : sendE (newN 2) 1 2 1048576 = 0 := by decide +kernel
  refine ⟨by rw [h, e], ?_⟩
  unfold sendN
  rw [h, e, if_pos rfl]
  rfl

set_option maxHeartbeats 4000000 in
set_option maxRecDepth 100000 in
theorem nones_any (w : World) : Calls Try.prog 9 #[] w fun e w' => e = .returned (.bool true) ∧ Ext w w' := by
  have HX0 := Lib.hid (ext_new w (.cells #[.int .i64 0, .map none, .int .i64 0] 75))
  have HB0 := Lib.hid (Blk.new w 75 #[.int .i64 0, .map none, .int .i64 0])
  obtain ⟨k1, hk1⟩ : ∃ k1 : Nat, k1 = 1048577 := ⟨_, rfl⟩
  obtain ⟨k2, hk2⟩ : ∃ k2 : Nat, k2 = 1048576 := ⟨_, rfl⟩
  have hm1 : ∀ w, (Instr.makeSlice 36 (.int .i64 1048577) (.int .i64 1048577)).run Try.prog w = .ok (.slice (some ⟨w.heap.size, 0, none⟩) k1 k1) (w.alloc (.cells (madeCells #[.int .u8 0] k1) 5)) := fun w => by
    have h := make8 k1 (by omega) w
    rwa [show (k1 : Int) = 1048577 by omega] at h
  have hm2 : ∀ w, (Instr.makeSlice 36 (.int .i64 1048576) (.int .i64 1048576)).run Try.prog w = .ok (.slice (some ⟨w.heap.size, 0, none⟩) k2 k2) (w.alloc (.cells (madeCells #[.int .u8 0] k2) 5)) := fun w => by
    have h := make8 k2 (by omega) w
    rwa [show (k2 : Int) = 1048576 by omega] at h
  have HK1 := Lib.hid hk1
  have HK2 := Lib.hid hk2
  have HP1 := Lib.hid (nn1 (List.replicate k1 0) (by rw [List.length_replicate]; exact hk1))
  have HP2 := Lib.hid (nn2 (List.replicate k2 0) (by rw [List.length_replicate]; exact hk2))
  clear hk1 hk2
  go_enter Try.func9, Try.ntmps9
  go_wp2_with fail
  generalize hw0 : w.alloc (.cells #[.int .i64 0, .map none, .int .i64 0] 75) = w0 at *
  have HSZ : Hid (w.heap.size < w0.heap.size) := Lib.hid (by rw [← hw0]; simp)
  clear hw0
  have KN := New_net w0 2 (by omega) (by omega)
  rw [show ((2 : Nat) : Int) = 2 from rfl] at KN
  refine KN.mono ?_
  rintro e w1 ⟨S1, g, rfl, hN1, hS1, hE1⟩
  have HN1 := Lib.hid hN1
  have HS1 := Lib.hid hS1
  have HE1 := Lib.hid hE1
  clear hN1 hS1 hE1 KN
  go_wp2_with fail
  refine (num4_any _ _).mono ?_
  rintro e w' ⟨rfl, rfl⟩
  go_wp2_with fail
  have HX1 := Lib.hid (ext_new w1 (.cells (madeCells #[.int .u8 0] k1) 5))
  have KS := Send_net (c := k1) (HN1.out.ext HX1.out) (a := 1) (b := 2) (by unfold I64; omega) (by unfold I64; omega) (by omega) (made_by w1 k1) (by rw [List.length_replicate]; have := HK1.out; omega)
  rw [HP1.out.1, HP1.out.2, List.length_replicate] at KS
  refine KS.mono ?_
  rintro e w2 ⟨rfl, S2, hN2, hS2, hC2⟩
  have HN2 := Lib.hid hN2
  have HE2 := Lib.hid (hC2.ext (HE1.out.trans HX1.out) HS1.out)
  have HS2 : Hid (∀ k, S2 k → w0.heap.size ≤ k) := Lib.hid (fun k hk => (hS2 k hk).elim (HS1.out k) (fun h => Nat.le_trans (HE1.out.trans HX1.out).size h))
  clear hN2 hS2 hC2 KS HX1 HN1 HE1
  go_wp2_with fail
  refine (num4_any _ _).mono ?_
  rintro e w' ⟨rfl, rfl⟩
  go_wp2_with fail
  have HX2 := Lib.hid (ext_new w2 (.cells (madeCells #[.int .u8 0] k2) 5))
  have KS := Send_net (c := k2) (HN2.out.ext HX2.out) (a := 1) (b := 2) (by unfold I64; omega) (by unfold I64; omega) (by omega) (made_by w2 k2) (by rw [List.length_replicate]; have := HK2.out; omega)
  rw [HP2.out.1, List.length_replicate] at KS
  refine KS.mono ?_
  rintro e w3 ⟨rfl, S3, hN3, hS3, hC3⟩
  have KL := Len_net hN3
  rw [HP2.out.2] at KL
  have HE3 := Lib.hid (hC3.ext (HE2.out.trans HX2.out) HS2.out)
  clear hN3 hS3 hC3 KS HX2 HN2 HE2
  go_wp2_with fail
  refine (num4_any _ _).mono ?_
  rintro e w' ⟨rfl, rfl⟩
  go_wp2_with fail
  refine KL.mono ?_
  rintro e w4 ⟨rfl, hE4⟩
  have HE4 := Lib.hid (HE3.out.trans hE4)
  have HZ4 := Lib.hid (HB0.out.ext HE4.out)
  have HE5 := Lib.hid (HX0.out.trans HE4.out)
  clear hE4 HE3 KL HE4 HB0 HX0 HS1 HS2 hm1 hm2 HP1 HP2 HK1 HK2 HSZ
  go_wp2_with fail
  go_loopw [5] (fun i wr => ∃ k : Nat, k ≤ 2 ∧ i = .int .i64 (k : Int) ∧ Ext w4 wr) (fun i _ => 2 - (intOf i).toNat)
  case atStart => exact ⟨0, by omega, rfl, Ext.refl w4⟩
  case round =>
    obtain ⟨k, hk, rfl, hE⟩ := hrel
    have HE := Lib.hid hE
    clear hE
    match k, hk with
    | 0, _ =>
      have HNO : Hid (∀ W, Ext wr W → NoneP W (.pointer none)) := Lib.hid (fun W _ => .inl rfl)
      go_wp2_with fail
      refine (Take_no (HNO.out _ (Ext.refl _)) 0).mono ?_
      rintro e wa ⟨rfl, hE⟩
      have HEa := Lib.hid (hE.trans (ext_new wa (.cells #[.int .i64 0, .int .i64 0, .slice none 0 0] 45)))
      clear hE
      go_wp2_with fail
      refine (At_no (HNO.out _ HEa.out) (-1)).mono ?_
      rintro e wb ⟨rfl, hE⟩
      have HEb := Lib.hid (HEa.out.trans (hE.trans (ext_new wb (.cells #[.int .i64 0, .int .i64 0, .slice none 0 0] 45))))
      clear hE
      go_wp2_with fail
      refine (flights_none (HNO.out _ HEb.out)).mono ?_
      rintro e wc ⟨A, c, rfl, hE⟩
      have HEc := Lib.hid (HEb.out.trans hE)
      clear hE HEa HEb
      go_wp2_with fail
      refine (num4_any _ _).mono ?_
      rintro e w' ⟨rfl, rfl⟩
      go_wp2_with fail
      refine (num4_any _ _).mono ?_
      rintro e w' ⟨rfl, rfl⟩
      go_wp2_with fail
      refine (Send_no (HNO.out _ HEc.out) 1 2 (.slice none 0 0)).mono ?_
      rintro e w' ⟨rfl, rfl⟩
      go_wp2_with fail
      refine (num4_any _ _).mono ?_
      rintro e w' ⟨rfl, rfl⟩
      go_wp2_with fail
      refine (Drop_no (HNO.out _ HEc.out) 0).mono ?_
      rintro e wd0 ⟨rfl, hE⟩
      have HEd0 := Lib.hid (HEc.out.trans hE)
      clear hE HEc
      go_wp2_with fail
      refine (num4_any _ _).mono ?_
      rintro e w' ⟨rfl, rfl⟩
      go_wp2_with fail
      refine (Double_no (HNO.out _ HEd0.out) 0).mono ?_
      rintro e wd1 ⟨rfl, hE⟩
      have HEd1 := Lib.hid (HEd0.out.trans hE)
      clear hE HEd0
      go_wp2_with fail
      refine (num4_any _ _).mono ?_
      rintro e w' ⟨rfl, rfl⟩
      go_wp2_with fail
      refine (Len_no (HNO.out _ HEd1.out)).mono ?_
      rintro e wd2 ⟨rfl, hE⟩
      have HEd2 := Lib.hid (HEd1.out.trans hE)
      clear hE HEd1
      go_wp2_with fail
      refine (Line_no (HNO.out _ HEd2.out) 1 2).mono ?_
      rintro e w' ⟨rfl, rfl⟩
      go_wp2_with fail
      refine (Lost_no (HNO.out _ HEd2.out)).mono ?_
      rintro e w' ⟨rfl, rfl⟩
      go_wp2_with fail
      refine (Clear_no (HNO.out _ HEd2.out) 1).mono ?_
      rintro e w' ⟨rfl, rfl⟩
      go_wp2_with fail
      refine (Copy_no (HNO.out _ HEd2.out)).mono ?_
      rintro e w' ⟨rfl, rfl⟩
      go_wp2_with fail
      exact ⟨⟨1, by omega, rfl, HE.out.trans HEd2.out⟩, by simp [intOf]⟩
    | 1, _ =>
      have HNO : Hid (∀ W, Ext wr W → NoneP W (.pointer (some ⟨w.heap.size, 0, none⟩))) := Lib.hid (fun W hW => .inr ⟨_, rfl, HZ4.out.ext (HE.out.trans hW)⟩)
      go_wp2_with fail
      refine (Take_no (HNO.out _ (Ext.refl _)) 0).mono ?_
      rintro e wa ⟨rfl, hE⟩
      have HEa := Lib.hid (hE.trans (ext_new wa (.cells #[.int .i64 0, .int .i64 0, .slice none 0 0] 45)))
      clear hE
      go_wp2_with fail
      refine (At_no (HNO.out _ HEa.out) (-1)).mono ?_
      rintro e wb ⟨rfl, hE⟩
      have HEb := Lib.hid (HEa.out.trans (hE.trans (ext_new wb (.cells #[.int .i64 0, .int .i64 0, .slice none 0 0] 45))))
      clear hE
      go_wp2_with fail
      refine (flights_none (HNO.out _ HEb.out)).mono ?_
      rintro e wc ⟨A, c, rfl, hE⟩
      have HEc := Lib.hid (HEb.out.trans hE)
      clear hE HEa HEb
      go_wp2_with fail
      refine (num4_any _ _).mono ?_
      rintro e w' ⟨rfl, rfl⟩
      go_wp2_with fail
      refine (num4_any _ _).mono ?_
      rintro e w' ⟨rfl, rfl⟩
      go_wp2_with fail
      refine (Send_no (HNO.out _ HEc.out) 1 2 (.slice none 0 0)).mono ?_
      rintro e w' ⟨rfl, rfl⟩
      go_wp2_with fail
      refine (num4_any _ _).mono ?_
      rintro e w' ⟨rfl, rfl⟩
      go_wp2_with fail
      refine (Drop_no (HNO.out _ HEc.out) 0).mono ?_
      rintro e wd0 ⟨rfl, hE⟩
      have HEd0 := Lib.hid (HEc.out.trans hE)
      clear hE HEc
      go_wp2_with fail
      refine (num4_any _ _).mono ?_
      rintro e w' ⟨rfl, rfl⟩
      go_wp2_with fail
      refine (Double_no (HNO.out _ HEd0.out) 0).mono ?_
      rintro e wd1 ⟨rfl, hE⟩
      have HEd1 := Lib.hid (HEd0.out.trans hE)
      clear hE HEd0
      go_wp2_with fail
      refine (num4_any _ _).mono ?_
      rintro e w' ⟨rfl, rfl⟩
      go_wp2_with fail
      refine (Len_no (HNO.out _ HEd1.out)).mono ?_
      rintro e wd2 ⟨rfl, hE⟩
      have HEd2 := Lib.hid (HEd1.out.trans hE)
      clear hE HEd1
      go_wp2_with fail
      refine (Line_no (HNO.out _ HEd2.out) 1 2).mono ?_
      rintro e w' ⟨rfl, rfl⟩
      go_wp2_with fail
      refine (Lost_no (HNO.out _ HEd2.out)).mono ?_
      rintro e w' ⟨rfl, rfl⟩
      go_wp2_with fail
      refine (Clear_no (HNO.out _ HEd2.out) 1).mono ?_
      rintro e w' ⟨rfl, rfl⟩
      go_wp2_with fail
      refine (Copy_no (HNO.out _ HEd2.out)).mono ?_
      rintro e w' ⟨rfl, rfl⟩
      go_wp2_with fail
      exact ⟨⟨2, by omega, rfl, HE.out.trans HEd2.out⟩, by simp [intOf]⟩
    | 2, _ =>
      go_wp2_with fail
      refine (known_net _).mono ?_
      rintro e w6 ⟨rfl, hE6⟩
      have HE6 := Lib.hid ((HE5.out.trans HE.out).trans hE6)
      clear hE6
      go_wp2_with fail
      go_ret
      exact ⟨rfl, HE6.out⟩

end Go.Proofs.Ytahooohokdbnpaa
