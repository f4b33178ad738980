/-
  Contract of wire.Hex.
-/
import Derived.Test.YtojgjmkkcadabaaKnownA
import Derived.Test.YtojgjmkkcadabaaHexP
import Derived.Test.YtojgjmkkcadabaaEager
import Derived.Laws.BitsAllLaws
set_option linter.unusedVariables false
set_option linter.unusedSimpArgs false
namespace Go.Proofs.Ytojgjmkkcadabaa
open Go.RowKit Pl

theorem index_letter (n : Nat) (h : n < 16) (w : World) : (Instr.index 9 (.string ⟨#[48, 49, 50, 51, 52, 53, 54, 55, 56, 57, 97, 98, 99, 100, 101, 102]⟩) (.int .u8 (n : Int))).run Try.prog w = .ok (.int .u8 ((letter n).toNat : Int)) w := by
  have : n = 0 ∨ n = 1 ∨ n = 2 ∨ n = 3 ∨ n = 4 ∨ n = 5 ∨ n = 6 ∨ n = 7 ∨ n = 8 ∨ n = 9 ∨ n = 10 ∨ n = 11 ∨ n = 12 ∨ n = 13 ∨ n = 14 ∨ n = 15 := by omega
  rcases this with rfl | rfl | rfl | rfl | rfl | rfl | rfl | rfl | rfl | rfl | rfl | rfl | rfl | rfl | rfl | rfl <;> rfl
theorem low_and (l : List UInt8) (j : Nat) : bits .and .u8 (at8 l j) 15 = (((l.getD j 0).toNat % 16 : Nat) : Int) := by
  have h := (l.getD j 0).toNat_lt
  have h2 := u8_and_nat (l.getD j 0).toNat 15 (by omega) (by omega)
  unfold at8
  rw [show ((15 : Nat) : Int) = 15 from rfl] at h2
  rw [h2, show (15 : Nat) = 2 ^ 4 - 1 from rfl, Nat.and_two_pow_sub_one_eq_mod]
theorem high_div (l : List UInt8) (j : Nat) : at8 l j / 16 = (((l.getD j 0).toNat / 16 : Nat) : Int) := by
  unfold at8; omega

set_option maxHeartbeats 800000 in
theorem hex_any (A : Option Addr) (l : List UInt8) (c : Nat) (hl : l.length ≤ 9000) (w : World) (hb : By w A l) :
    Calls Try.prog 36 #[.slice A l.length c] w fun e w' => e = .returned (.string ⟨(hex l).toArray⟩) ∧ Ext w w' := by
  generalize hn : l.length = n at *
  have HN := Lib.hid hn
  have HB := Lib.hid hb
  clear hb hn
  have hmk := fun w => make8c (2 * n) (by omega) w
  have hmk2 : ∀ w, (Instr.makeSlice 23 (.int .i64 0) (.int .i64 (2 * (n : Int)))).run Try.prog w = .ok (.slice (some ⟨w.heap.size, 0, none⟩) 0 (2 * n)) (w.alloc (.cells (madeCells #[.int .u8 0] (2 * n)) 5)) := fun w => by have := hmk w; rwa [show ((2 * n : Nat) : Int) = 2 * (n : Int) by omega] at this
  clear hmk
  go_enter Try.func36, Try.ntmps36
  go_wp2_with fail
  have hO0 := own_made w (2 * n) (by omega) w.heap.size (Nat.le_refl _)
  have HO0 := Lib.hid hO0
  clear hO0 hmk2
  go_loopw [3, 12] (fun v i wr => ∃ j : Nat, j ≤ n ∧ i = .int .i64 j ∧ Own 5 wr w.heap.size v (hex (l.take j)) ∧ Ext w wr) (fun _ i _ => n - (intOf i).toNat)
  case atStart => exact ⟨0, Nat.zero_le _, rfl, HO0.out, (Ext.refl w).alloc _⟩
  case round =>
    obtain ⟨j, hj, rfl, hO, hE⟩ := hrel
    have HO := Lib.hid hO
    have HE := Lib.hid hE
    clear hO hE
    by_cases hlt : j < n
    · have hjd : decide ((j : Int) < (n : Int)) = true := by simp; omega
      obtain ⟨b, o, rfl, hc⟩ := HB.out.at_ (by rw [HN.out]; omega)
      have hv := HE.out.cell (hc j (by rw [HN.out]; exact hlt))
      have b1 := at8_lo l j
      have b2 := at8_hi l j
      clear hc
      have HX : Hid (hex (l.take (j + 1)) = hex (l.take j) ++ hex2 (l.getD j 0)) := by rw [at8_take l j (by rw [HN.out]; exact hlt), hex_snoc]; rfl
      have hcl := (l.getD j 0).toNat_lt
      have hlw := low_and l j
      have hhi := high_div l j
      have hx1 := fun w => index_letter ((l.getD j 0).toNat / 16) (by omega) w
      have hx2 := fun w => index_letter ((l.getD j 0).toNat % 16) (by omega) w
      have hq1 : (l.getD j 0).toNat / 16 < 16 := by omega
      have hq2 : (l.getD j 0).toNat % 16 < 16 := by omega
      unfold hex2 at HX
      generalize (l.getD j 0).toNat / 16 = q1 at *
      generalize (l.getD j 0).toNat % 16 = q2 at *
      have hlen : (hex (l.take j)).length ≤ 18000 := by rw [hex_length, List.length_take, HN.out]; omega
      generalize hex (l.take j) = pre at *
      go_wp2_with fail
      refine wp_eager (below_pre w.heap.size) (n := 10) (by kernel_rfl) (by kernel_rfl) ?_
      refine Eg.batchK (below_pre w.heap.size) (by intro c a d v w h; cases d <;> exact h) (by kernel_rfl) (n := 3) [0, 1, 2, 3, 4, 5, 6] [] _ (by kernel_rfl) (fun K hK => ?_); (simp only [pickOps, List.getElem?_toArray, List.getElem?_cons_zero, List.getElem?_cons_succ, Option.toList_some, List.cons_append, List.nil_append]); (repeat (first | go_big_quiet_step (fail) | quiet_step (fail))); refine wpQuiet_nil (hK _ ?_); clear hK K
      refine Eg.act (below_pre w.heap.size) (i := 7) (n := 2) (l := [0, 1, 2, 3, 4, 5, 6]) rfl (by kernel_rfl) ?_
      go_wp2_with fail
      refine ⟨(Below.refl _ _).alloc (by exact HE.out.size) _, ?_⟩
      have hb2 : By (wr.drew.alloc (.cells (cells8 [letter q1, letter q2]) 5)) (some ⟨wr.heap.size, 0, none⟩) [letter q1, letter q2] := By.of_blk (Blk.new _ _ _)
      refine Eg.act (below_pre w.heap.size) (i := 8) (n := 1) (l := [0, 1, 2, 3, 4, 5, 6, 7]) rfl (by kernel_rfl) ?_
      refine wpList_append8 Try.byt rfl _ _ rfl rfl (HO.out.drew.alloc _) _ _ _ rfl [letter q1, letter q2] hb2 rfl ?c1 ?c2 ?_
      case c1 => (simp; omega)
      case c2 => (have := HE.out.size; simp; omega)
      intro v2 w2 hO2 hg2 hl2
      have hE2 := Below.grown (Below.refl w.heap.size _) hg2 (by have := HE.out.size; simp; omega) (fun k hk => (HO.out.lt k hk).1)
      go_wp2_with fail
      refine ⟨hE2, ?_⟩
      refine Eg.batchK (below_pre w.heap.size) (by intro c a d v w h; cases d <;> exact h) (by kernel_rfl) (n := 0) [9] [0, 1, 2, 3, 4, 5, 6, 7, 8] _ (by kernel_rfl) (fun K hK => ?_); (simp only [pickOps, List.getElem?_toArray, List.getElem?_cons_zero, List.getElem?_cons_succ, Option.toList_some, List.cons_append, List.nil_append]); (repeat (first | go_big_quiet_step (fail) | quiet_step (fail))); refine wpQuiet_nil (hK _ ?_); clear hK K
      refine Eg.finish (by kernel_rfl) ?_
      have HE2 : Ext w w2 := Below.trans ((HE.out.drew).alloc _) hE2
      go_wp2_with fail
      exact ⟨⟨j + 1, by omega, by go_num, by rw [HX.out]; exact hO2, HE2⟩, by simp [intOf]; omega⟩
    · obtain rfl : j = n := by omega
      rw [List.take_of_length_le (by rw [HN.out]; omega)] at HO
      obtain ⟨A2, c2, rfl, hb2, hc2, hc2'⟩ := HO.out.form
      have s1 := str_any hb2 c2
      generalize (hex l).length = hxl at *
      go_wp2_with fail
      go_ret
      exact ⟨rfl, HE.out⟩

end Go.Proofs.Ytojgjmkkcadabaa
