
/-
  Contract of layer 6's known: the chapter's rows.
-/
import Derived.Test.YtgbfeagoadlhmaaRecJ
set_option linter.unusedVariables false
set_option linter.unusedSimpArgs false
namespace Go.Proofs.Ytgbfeagoadlhmaa
open Go.RowKit Pl

attribute [local go_sem] Oper.semAt_some

def rk1 : Rec := ⟨3, 5, 0, 0, [], [], 0, 0, 0⟩
def rk2 : Rec := ⟨1, 5, 7, 12, [97, 98], [], 0, 0, 0⟩
def rk3 : Rec := ⟨2, 0, 0, 0, List.replicate 1024 0, [], 0, 0, 0⟩
def rk4 : Rec := ⟨3, 0, 0, 0, [], [], 0, 0, 0⟩
theorem rk1_may : mayB rk1 = true := by kernel_rfl
theorem rk2_may : mayB rk2 = true := by kernel_rfl
theorem rk3_may : mayB rk3 = true := by kernel_rfl
theorem rk4_may : mayB rk4 = false := by kernel_rfl
theorem rk1_ok : RecOk rk1 := ⟨by decide, by decide, by decide, by decide, by decide, by decide, by decide, by decide, fun i hi => by simp [rk1] at hi⟩
theorem rk2_ok : RecOk rk2 := ⟨by decide, by decide, by decide, by decide, by decide, by decide, by decide, by decide, fun i hi => by simp [rk2] at hi⟩
theorem rk3_ok : RecOk rk3 := ⟨by decide, by decide, by decide, by decide, by decide, by decide, (by show (List.replicate 1024 (0 : UInt8)).length ≤ _; rw [List.length_replicate]; decide), by decide, fun i hi => absurd hi (Nat.not_lt_zero i)⟩
theorem rk4_ok : RecOk rk4 := ⟨by decide, by decide, by decide, by decide, by decide, by decide, by decide, by decide, fun i hi => by simp [rk4] at hi⟩
theorem rk1_body : (bodyR rk1).length = 10 := by kernel_rfl
theorem rk2_body : (bodyR rk2).length = 16 := by kernel_rfl
theorem rk3_body : (bodyR rk3).length = 1036 := by kernel_rfl

theorem rk1_size (W : World) : Calls Try.prog 37 #[.agg #[.int .i64 3, .int .u64 5, .int .i64 0, .int .i64 0, .slice none 0 0, .slice none 0 0, .int .u64 0, .int .u64 0, .int .u64 0]] W fun e w' => e = .returned (.int .i64 27) ∧ Ext W w' := by
  have K := Size_yes W rk1 none none 0 0 (.inl rfl) (.inl rfl) rk1_ok (Nat.le_refl _) rk1_may
  rw [rk1_body] at K
  exact K
theorem rk2_size (W : World) (g : Nat) (h : By W (some ⟨g, 0, none⟩) [97, 98]) : Calls Try.prog 37 #[.agg #[.int .i64 1, .int .u64 5, .int .i64 7, .int .i64 12, .slice (some ⟨g, 0, none⟩) 2 2, .slice none 0 0, .int .u64 0, .int .u64 0, .int .u64 0]] W fun e w' => e = .returned (.int .i64 33) ∧ Ext W w' := by
  have K := Size_yes W rk2 (some ⟨g, 0, none⟩) none 2 0 h (.inl rfl) rk2_ok (by decide) rk2_may
  rw [rk2_body] at K
  exact K
theorem rk3_size (W : World) (g : Nat) (h : By W (some ⟨g, 0, none⟩) (List.replicate 1024 0)) : Calls Try.prog 37 #[.agg #[.int .i64 2, .int .u64 0, .int .i64 0, .int .i64 0, .slice (some ⟨g, 0, none⟩) 1024 1024, .slice none 0 0, .int .u64 0, .int .u64 0, .int .u64 0]] W fun e w' => e = .returned (.int .i64 1053) ∧ Ext W w' := by
  have K := Size_yes W rk3 (some ⟨g, 0, none⟩) none 1024 0 h (.inl rfl) rk3_ok (by show (List.replicate 1024 (0 : UInt8)).length ≤ 1024; rw [List.length_replicate]; exact Nat.le_refl _) rk3_may
  rw [rk3_body] at K
  unfold recC at K
  rw [show rk3.b.length = 1024 from List.length_replicate] at K
  exact K
theorem rk4_bytes (W : World) : Calls Try.prog 34 #[.agg #[.int .i64 3, .int .u64 0, .int .i64 0, .int .i64 0, .slice none 0 0, .slice none 0 0, .int .u64 0, .int .u64 0, .int .u64 0], .int .u64 0] W fun e w' => e = .returned (.tuple #[.slice none 0 0, .int .i64 2]) ∧ Ext W w' :=
  Bytes_no W rk4 none none 0 0 0 (.inl rfl) (.inl rfl) rk4_ok (.inl rk4_may)
theorem rk1_bytes (W : World) : Calls Try.prog 34 #[.agg #[.int .i64 3, .int .u64 5, .int .i64 0, .int .i64 0, .slice none 0 0, .slice none 0 0, .int .u64 0, .int .u64 0, .int .u64 0], .int .u64 8] W fun e w' => ∃ v, e = .returned (.tuple #[v, .int .i64 0]) ∧ Own 5 w' W.heap.size v (bytesR rk1 8) ∧ Ext W w' :=
  Bytes_yes W rk1 none none 0 0 8 (.inl rfl) (.inl rfl) rk1_ok (Nat.le_refl _) rk1_may (by omega)
theorem rk1_len : (bytesR rk1 8).length = 27 := by rw [bytesR_length, rk1_body]
theorem rk1_of (W : World) (g c : Nat) (hc : 27 ≤ c) (hc2 : c ≤ 9223372036854775807) (h : By W (some ⟨g, 0, none⟩) (bytesR rk1 8)) : Calls Try.prog 36 #[.slice (some ⟨g, 0, none⟩) 27 c, .int .u64 9] W fun e w' => e = .returned (.tuple #[.agg #[.int .i64 0, .int .u64 0, .int .i64 0, .int .i64 0, .slice none 0 0, .slice none 0 0, .int .u64 0, .int .u64 0, .int .u64 0], .int .i64 0, .int .i64 4]) ∧ Ext W w' :=
  Of_cut W g 27 c (bytesR rk1 8) 9 rk1_len (by omega) hc hc2 h (by omega) (cut_other rk1 8 9 (by omega) (by omega))
theorem made_byR (w : World) (k : Nat) : By (w.alloc (.cells (madeCells #[.int .u8 0] k) 5)) (some ⟨w.heap.size, 0, none⟩) (List.replicate k 0) :=
  .inr ⟨w.heap.size, 0, rfl, fun i hi => by
    rw [List.length_replicate] at hi
    rw [cell_of_row _ _ _ _ _ (0, 0) (heap_alloc_new w _), Nat.zero_add, ← Array.getElem?_toList, toList_madeCells_one, List.getElem?_replicate, if_pos hi]
    unfold at8
    rw [List.getD_eq_getElem?_getD, List.getElem?_replicate, if_pos hi]
    rfl⟩

theorem by_frozen (w : World) (l : List UInt8) (fr : Nat × Nat) : By (w.alloc (.cells (cells8 l) 5 fr)) (some ⟨w.heap.size, 0, none⟩) l :=
  .inr ⟨w.heap.size, 0, rfl, fun i hi => by
    rw [Nat.zero_add, cell_of_row _ _ _ _ _ fr (heap_alloc_new w _)]
    exact cells8_get l i hi⟩

set_option maxHeartbeats 3200000 in
set_option maxRecDepth 100000 in
theorem known6_any (w : World) : Calls Try.prog 31 #[] w fun e w' => e = .returned (.bool true) ∧ Ext w w' := by
  have hzr := Try.recZero
  have kc := fun (w : World) (C : Array Value) (n c : Nat) => Lib.run_convert_bytes_const (P := Try.prog) w 24 5 C n c Try.underlying24 Try.underlying5
  have HB0 := Lib.hid (Blk.new w 65 #[.int .i64 3, .int .u64 5, .int .i64 0, .int .i64 0, .slice none 0 0, .slice none 0 0, .int .u64 0, .int .u64 0, .int .u64 0])
  have HE0 := Lib.hid (ext_fresh w (.cells #[.int .i64 3, .int .u64 5, .int .i64 0, .int .i64 0, .slice none 0 0, .slice none 0 0, .int .u64 0, .int .u64 0, .int .u64 0] 65))
  have hmk := make8 1024 (by omega)
  rw [show ((1024 : Nat) : Int) = 1024 from rfl] at hmk
  go_enter Try.func31, Try.ntmps31
  go_upto_region 2 with fail
  have hl0 := load_rowR (P := Try.prog) (ty := 65) HB0.out Try.underlying65 rfl (Try.recSize rfl)
  generalize w.alloc (.cells #[.int .i64 3, .int .u64 5, .int .i64 0, .int .i64 0, .slice none 0 0, .slice none 0 0, .int .u64 0, .int .u64 0, .int .u64 0] 65) = w0 at *
  go_wp2_with (refine wpList_load_gR rfl 65 _ rfl _ rfl _ hl0 ?_)
  refine (rk1_size w0).mono ?_
  rintro e w1 ⟨rfl, hE1⟩
  have HB1 := Lib.hid (HB0.out.ext hE1)
  have HE1 := Lib.hid (HE0.out.trans hE1)
  clear hE1 hl0 HB0 HE0
  go_wp2_with fail
  have hX2 := ext_fresh w1 (.cells #[.int .u8 97, .int .u8 98] 5 (2, 3))
  refine (rk2_size _ w1.heap.size (by_frozen w1 [97, 98] (2, 3))).mono ?_
  rintro e w2 ⟨rfl, hE2⟩
  have HB2 := Lib.hid ((HB1.out.ext hX2).ext hE2)
  have HE2 := Lib.hid ((HE1.out.trans hX2).trans hE2)
  clear hE2 hX2 HB1 HE1
  go_wp2_with fail
  have hX3 := ext_fresh w2 (.cells (madeCells #[.int .u8 0] 1024) 5)
  refine (rk3_size _ w2.heap.size (made_byR w2 1024)).mono ?_
  rintro e w3 ⟨rfl, hE3⟩
  have HB3 := Lib.hid ((HB2.out.ext hX3).ext hE3)
  have HE3 := Lib.hid ((HE2.out.trans hX3).trans hE3)
  clear hE3 hX3 HB2 HE2 hmk
  go_wp2_with fail
  refine (rk4_bytes w3).mono ?_
  rintro e w4 ⟨rfl, hE4⟩
  have HB4 := Lib.hid (HB3.out.ext hE4)
  have HE4 := Lib.hid (HE3.out.trans hE4)
  have hl4 := load_rowR (P := Try.prog) (ty := 65) HB4.out Try.underlying65 rfl (Try.recSize rfl)
  clear hE4 HB3 HE3
  go_wp2_with (refine wpList_load_gR rfl 65 _ rfl _ rfl _ hl4 ?_)
  refine (rk1_bytes w4).mono ?_
  rintro e w5 ⟨v5, rfl, hO5, hE5⟩
  have hl5 := rk1_len
  rcases hO5.2 with ⟨_, h0⟩ | ⟨g, cap, cur, rfl, hgB, _, hnc, hcm, _, _⟩
  · rw [hl5] at h0; omega
  have HY5 := Lib.hid (Own.byAt hO5 rfl)
  rw [hl5] at hnc ⊢
  have hcm2 : cap ≤ 9223372036854775807 := by unfold maxLen at hcm; omega
  have K5 := Lib.hid (rk1_of w5 g cap hnc hcm2 HY5.out)
  have HE5 := Lib.hid (HE4.out.trans hE5)
  clear hO5 hE5 HE4 HB4 HY5 hl5 hcm hl4
  go_wp2_with fail
  refine K5.out.mono ?_
  rintro e w6 ⟨rfl, hE6⟩
  have HE6 := Lib.hid ((HE5.out.trans hE6).alloc (.cells #[.int .i64 0, .int .u64 0, .int .i64 0, .int .i64 0, .slice none 0 0, .slice none 0 0, .int .u64 0, .int .u64 0, .int .u64 0] 65))
  clear hE6 HE5 K5
  go_wp2_with fail
  refine (num6_any _ _).mono ?_
  rintro e w7 ⟨rfl, rfl⟩
  go_wp2_with fail
  refine (num6_any _ _).mono ?_
  rintro e w7 ⟨rfl, rfl⟩
  go_wp2_with fail
  refine (num6_any _ _).mono ?_
  rintro e w7 ⟨rfl, rfl⟩
  go_wp2_with fail
  refine (Name_7 _).mono ?_
  rintro e w7 ⟨rfl, rfl⟩
  go_wp2_with fail
  refine (Name_0 _).mono ?_
  rintro e w7 ⟨rfl, rfl⟩
  go_wp2_with fail
  go_ret
  exact ⟨rfl, HE6.out⟩

end Go.Proofs.Ytgbfeagoadlhmaa
