/-
  Contracts of the reference's letters and Hex.
-/
import Derived.Test.YtojgjmkkcadabaaHexA
import Derived.Laws.Concat
set_option linter.unusedVariables false
set_option linter.unusedSimpArgs false
namespace Go.Proofs.Ytojgjmkkcadabaa
open Go.RowKit Pl

/-- the letters -/
def lets : ByteArray := ⟨#[48, 49, 50, 51, 52, 53, 54, 55, 56, 57, 97, 98, 99, 100, 101, 102]⟩
theorem letters_any (w : World) : Calls Try.prog 56 #[] w fun e w' => e = .returned (.string lets) ∧ w = w' := by
  go_enter Try.func56, Try.ntmps56
  go_wp2
  go_ret
  exact ⟨rfl, rfl⟩
theorem load_u8 {w : World} {p : Addr} {x : Int} (h : w.cell? p = some (.int .u8 x)) : (Instr.loadAt 5 (.pointer (some p))).run Try.prog w = .ok (.int .u8 x) w := by
  simp [go_sem, h]

theorem slice_lets (n : Nat) (h : n < 16) (w : World) : (Instr.sliceAt 9 (.string lets) (some (.int .i64 (n : Int))) (some (.int .i64 ((n : Int) + 1))) none).run Try.prog w = .ok (.string ⟨[letter n].toArray⟩) w := by
  have : n = 0 ∨ n = 1 ∨ n = 2 ∨ n = 3 ∨ n = 4 ∨ n = 5 ∨ n = 6 ∨ n = 7 ∨ n = 8 ∨ n = 9 ∨ n = 10 ∨ n = 11 ∨ n = 12 ∨ n = 13 ∨ n = 14 ∨ n = 15 := by omega
  rcases this with rfl | rfl | rfl | rfl | rfl | rfl | rfl | rfl | rfl | rfl | rfl | rfl | rfl | rfl | rfl | rfl <;> rfl

set_option maxHeartbeats 2000000 in
theorem rhex_any (A : Option Addr) (l : List UInt8) (c : Nat) (hl : l.length ≤ 9000) (w : World) (hb : By w A l) :
    Calls Try.prog 38 #[.slice A l.length c] w fun e w' => e = .returned (.string ⟨(hex l).toArray⟩) ∧ Ext w w' := by
  generalize hn : l.length = n at *
  have HN := Lib.hid hn
  have HB := Lib.hid hb
  clear hb hn
  go_enter Try.func38, Try.ntmps38
  go_wp2_with fail
  go_loopw [3, 4] (fun v i wr => ∃ j : Nat, j ≤ n ∧ i = .int .i64 j ∧ v = .string ⟨(hex (l.take j)).toArray⟩ ∧ Ext w wr) (fun _ i _ => n - (intOf i).toNat)
  case atStart => exact ⟨0, Nat.zero_le _, rfl, rfl, Ext.refl w⟩
  case round =>
    obtain ⟨j, hj, rfl, rfl, hE⟩ := hrel
    have HE := Lib.hid hE
    clear hE
    by_cases hlt : j < n
    · have hjd : decide ((j : Int) < (n : Int)) = true := by simp; omega
      obtain ⟨b, o, rfl, hc⟩ := HB.out.at_ (by rw [HN.out]; omega)
      have hv : wr.drew.cell? ⟨b, o + j, none⟩ = some (.int .u8 (at8 l j)) := HE.out.cell (hc j (by rw [HN.out]; exact hlt))
      have b1 := at8_lo l j
      have b2 := at8_hi l j
      clear hc
      have HX : Hid (hex (l.take (j + 1)) = hex (l.take j) ++ hex2 (l.getD j 0)) := by rw [at8_take l j (by rw [HN.out]; exact hlt), hex_snoc]; rfl
      have hcl := (l.getD j 0).toNat_lt
      have hlen : (hex (l.take j)).length ≤ 18000 := by rw [hex_length, List.length_take, HN.out]; omega
      generalize hex (l.take j) = pre at *
      have hhi := high_div l j
      have hlw : at8 l j % 16 = (((l.getD j 0).toNat % 16 : Nat) : Int) := by unfold at8; omega
      have hq1 : (l.getD j 0).toNat / 16 < 16 := by omega
      have hq2 : (l.getD j 0).toNat % 16 < 16 := by omega
      unfold hex2 at HX
      generalize (l.getD j 0).toNat / 16 = q1 at *
      generalize (l.getD j 0).toNat % 16 = q2 at *
      have sl1 := fun w => slice_lets q1 hq1 w
      have sl2 := fun w => slice_lets q2 hq2 w
      have ad1 := fun w => run_string_add_lists (P := Try.prog) w pre [letter q1] (by omega) (by simp)
      have ad2 := fun w => run_string_add_lists (P := Try.prog) w (pre ++ [letter q1]) [letter q2] (by rw [List.length_append]; simp; omega) (by simp)
      go_wp2_with fail
      refine wp_eager Ext.pre (n := 14) (by kernel_rfl) (by kernel_rfl) ?_
      refine Eg.batchK Ext.pre (by intro c a d v w h; cases d <;> exact h) (by kernel_rfl) (n := 8) [0, 1, 2, 6, 7, 8] [] _ (by kernel_rfl) (fun K hK => ?_); (simp only [pickOps, List.getElem?_toArray, List.getElem?_cons_zero, List.getElem?_cons_succ, Option.toList_some, List.cons_append, List.nil_append]); (repeat (first | go_big_quiet_step (fail) | quiet_step (fail))); refine wpQuiet_nil (hK _ ?_); clear hK K
      (refine Eg.read Ext.pre (by intro c a d v w h; cases d <;> exact h) (by kernel_rfl) (i := 3) (n := 7) (l := [0, 1, 2, 6, 7, 8]) rfl (by kernel_rfl) (by kernel_rfl) rfl ⟨_, fun w' hR => load_run rfl (load_u8 (hR.cell hv)), ?_⟩); (simp only [Act.put, List.setIfInBounds_toArray])
      refine Eg.batchK Ext.pre (by intro c a d v w h; cases d <;> exact h) (by kernel_rfl) (n := 4) [4, 5, 12] [0, 1, 2, 6, 7, 8, 3] _ (by kernel_rfl) (fun K hK => ?_); (simp only [pickOps, List.getElem?_toArray, List.getElem?_cons_zero, List.getElem?_cons_succ, Option.toList_some, List.cons_append, List.nil_append]); (repeat (first | go_big_quiet_step (fail) | quiet_step (fail))); refine wpQuiet_nil (hK _ ?_); clear hK K
      (refine Eg.read Ext.pre (by intro c a d v w h; cases d <;> exact h) (by kernel_rfl) (i := 9) (n := 3) (l := [0, 1, 2, 6, 7, 8, 3, 4, 5, 12]) rfl (by kernel_rfl) (by kernel_rfl) rfl ⟨_, fun w' hR => load_run rfl (load_u8 (hR.cell hv)), ?_⟩); (simp only [Act.put, List.setIfInBounds_toArray])
      refine Eg.batchK Ext.pre (by intro c a d v w h; cases d <;> exact h) (by kernel_rfl) (n := 0) [10, 11, 13] [0, 1, 2, 6, 7, 8, 3, 4, 5, 12, 9] _ (by kernel_rfl) (fun K hK => ?_); (simp only [pickOps, List.getElem?_toArray, List.getElem?_cons_zero, List.getElem?_cons_succ, Option.toList_some, List.cons_append, List.nil_append]); (repeat (first | go_big_quiet_step (fail) | quiet_step (fail))); refine wpQuiet_nil (hK _ ?_); clear hK K
      refine Eg.finish (by kernel_rfl) ?_
      go_wp2_with fail
      refine wp_eager Ext.pre (n := 14) (by kernel_rfl) (by kernel_rfl) ?_
      refine Eg.batchK Ext.pre (by intro c a d v w h; cases d <;> exact h) (by kernel_rfl) (n := 7) [0, 2, 3, 4, 8, 9, 10] [] _ (by kernel_rfl) (fun K hK => ?_); (simp only [pickOps, List.getElem?_toArray, List.getElem?_cons_zero, List.getElem?_cons_succ, Option.toList_some, List.cons_append, List.nil_append]); (repeat (first | go_big_quiet_step (fail) | quiet_step (fail))); refine wpQuiet_nil (hK _ ?_); clear hK K
      refine Eg.act Ext.pre (i := 1) (n := 6) (l := [0, 2, 3, 4, 8, 9, 10]) rfl (by kernel_rfl) ?_
      go_wp2_with (go_at_call 56; refine (letters_any _).mono ?_; rintro e w' ⟨rfl, rfl⟩)
      refine ⟨Ext.refl _, ?_⟩
      refine Eg.batchK Ext.pre (by intro c a d v w h; cases d <;> exact h) (by kernel_rfl) (n := 4) [5, 6] [0, 2, 3, 4, 8, 9, 10, 1] _ (by kernel_rfl) (fun K hK => ?_); (simp only [pickOps, List.getElem?_toArray, List.getElem?_cons_zero, List.getElem?_cons_succ, Option.toList_some, List.cons_append, List.nil_append]); (repeat (first | go_big_quiet_step (fail) | quiet_step (fail))); refine wpQuiet_nil (hK _ ?_); clear hK K
      refine Eg.act Ext.pre (i := 7) (n := 3) (l := [0, 2, 3, 4, 8, 9, 10, 1, 5, 6]) rfl (by kernel_rfl) ?_
      go_wp2_with (go_at_call 56; refine (letters_any _).mono ?_; rintro e w' ⟨rfl, rfl⟩)
      refine ⟨Ext.refl _, ?_⟩
      refine Eg.batchK Ext.pre (by intro c a d v w h; cases d <;> exact h) (by kernel_rfl) (n := 0) [11, 12, 13] [0, 2, 3, 4, 8, 9, 10, 1, 5, 6, 7] _ (by kernel_rfl) (fun K hK => ?_); (simp only [pickOps, List.getElem?_toArray, List.getElem?_cons_zero, List.getElem?_cons_succ, Option.toList_some, List.cons_append, List.nil_append]); (repeat (first | go_big_quiet_step (fail) | quiet_step (fail))); refine wpQuiet_nil (hK _ ?_); clear hK K
      refine Eg.finish (by kernel_rfl) ?_
      go_wp2_with fail
      exact ⟨⟨j + 1, by omega, by go_num, by rw [HX.out], HE.out.drew.drew⟩, by simp [intOf]; omega⟩
    · obtain rfl : j = n := by omega
      have HTA : Hid (l.take j = l) := Lib.hid (List.take_of_length_le (by rw [HN.out]; omega))
      go_wp2_with fail
      go_ret
      exact ⟨by rw [HTA.out]; rfl, HE.out⟩

theorem index_lets (n : Nat) (h : n < 16) (w : World) : (Instr.index 9 (.string lets) (.int .i64 (n : Int))).run Try.prog w = .ok (.int .u8 ((letter n).toNat : Int)) w := by
  have : n = 0 ∨ n = 1 ∨ n = 2 ∨ n = 3 ∨ n = 4 ∨ n = 5 ∨ n = 6 ∨ n = 7 ∨ n = 8 ∨ n = 9 ∨ n = 10 ∨ n = 11 ∨ n = 12 ∨ n = 13 ∨ n = 14 ∨ n = 15 := by omega
  rcases this with rfl | rfl | rfl | rfl | rfl | rfl | rfl | rfl | rfl | rfl | rfl | rfl | rfl | rfl | rfl | rfl <;> rfl
/-- what a letter spells, as a number; nothing: -1 -/
def spI (c : UInt8) : Int := match spell c with | some n => (n : Int) | none => -1
theorem spI_some {c : UInt8} {n : Nat} (h : spell c = some n) : spI c = n := by unfold spI; rw [h]
theorem spI_none {c : UInt8} (h : spell c = none) : spI c = -1 := by unfold spI; rw [h]

set_option maxHeartbeats 800000 in
theorem spelled_any (c : UInt8) (w : World) : Calls Try.prog 57 #[.int .u8 (c.toNat : Int)] w fun e w' => e = .returned (.int .i64 (spI c)) ∧ w = w' := by
  go_enter Try.func57, Try.ntmps57
  go_wp2_with (go_at_call 56; refine (letters_any _).mono ?_; rintro e w' ⟨rfl, rfl⟩)
  go_loop [4] (fun i => ∃ k : Nat, k ≤ 16 ∧ i = .int .i64 k ∧ ∀ j, j < k → letter j ≠ c) (fun i => 16 - (intOf i).toNat)
  case atStart => exact ⟨0, Nat.zero_le _, rfl, fun j hj => by omega⟩
  case round =>
    obtain ⟨k, hk, rfl, hno⟩ := hrel
    have HNO := Lib.hid hno
    clear hno
    by_cases hlt : k < 16
    · have hkd : decide ((k : Int) < 16) = true := by simp; omega
      have ix := fun w => index_lets k hlt w
      by_cases he : letter k = c
      · have heq : (((letter k).toNat : Int) == (c.toNat : Int)) = true := by rw [he]; simp
        have HSP := Lib.hid (spI_some (he ▸ spell_letter k hlt))
        clear he
        generalize ((letter k).toNat : Int) = lk at *
        go_wp2_with fail
        go_ret
        exact ⟨by rw [HSP.out]; rfl, rfl⟩
      · have heq : (((letter k).toNat : Int) == (c.toNat : Int)) = false := by
          rw [beq_eq_false_iff_ne]
          intro e
          exact he (UInt8.toNat.inj (by omega))
        have HE := Lib.hid he
        clear he
        generalize ((letter k).toNat : Int) = lk at *
        go_wp2_with fail
        exact ⟨⟨k + 1, by omega, by go_num, fun j hj => by
          by_cases h : j < k
          · exact HNO.out j h
          · obtain rfl : j = k := by omega
            exact HE.out⟩, by simp [intOf]; omega⟩
    · obtain rfl : k = 16 := by omega
      have HSN : Hid (spI c = -1) := by
        refine Lib.hid (spI_none ?_)
        cases h : spell c with
        | none => rfl
        | some n => exact absurd (letter_spell h) (HNO.out n (spell_lt h))
      go_wp2_with fail
      go_ret
      exact ⟨by rw [HSN.out]; rfl, rfl⟩

end Go.Proofs.Ytojgjmkkcadabaa
