
/-
  Contract of the reference's Get.
-/
import Derived.Test.YtgbfeagoadlhmaaWireD
set_option linter.unusedVariables false
set_option linter.unusedSimpArgs false
namespace Go.Proofs.Ytgbfeagoadlhmaa
open Go.RowKit Pl

/-- the sum when j bytes have been weighed -/
def accI (l : List UInt8) (j : Nat) : Int := ((num (l.take j) * 256 ^ (l.length - j) : Nat) : Int)
theorem accI_zero (l : List UInt8) : accI l 0 = 0 := by simp [accI, num]
theorem accI_all (l : List UInt8) : accI l l.length = (num l : Int) := by simp [accI]
theorem accI_lo (l : List UInt8) (j : Nat) : 0 ≤ accI l j := by unfold accI; omega
theorem accI_step (l : List UInt8) (j : Nat) (h : j < l.length) : accI l j + at8 l j * wt (l.length - 1 - j) = accI l (j + 1) := by
  unfold accI at8 wt
  rw [at8_take l j h, num_snoc]
  have e1 : l.length - j = (l.length - 1 - j) + 1 := by omega
  have e2 : l.length - (j + 1) = l.length - 1 - j := by omega
  rw [e1, e2, Nat.pow_succ, ← Int.natCast_mul, ← Int.natCast_add]
  congr 1
  rw [Nat.add_mul, Nat.mul_assoc, Nat.mul_comm (256 ^ _) 256]
theorem accI_hi (l : List UInt8) (j : Nat) (h : l.length ≤ 8) (hj : j ≤ l.length) : accI l j ≤ 18446744073709551615 := by
  unfold accI
  have h1 := num_lt (l.take j)
  rw [List.length_take, Nat.min_eq_left hj] at h1
  have h2 : num (l.take j) * 256 ^ (l.length - j) < 256 ^ j * 256 ^ (l.length - j) := Nat.mul_lt_mul_of_pos_right h1 (Nat.pow_pos (by decide))
  rw [← Nat.pow_add, show j + (l.length - j) = l.length by omega] at h2
  have h3 := Nat.pow_le_pow_right (n := 256) (by decide) h
  omega

theorem weight_sub (n j : Nat) (h8 : n ≤ 8) (hj : j < n) (w : World) : Calls Try.prog 100 #[.int .i64 ((n : Int) - 1 - (j : Int))] w fun e w' => e = .returned (.int .u64 (wt (n - 1 - j))) ∧ w' = w := by
  refine (weight_int _ (by omega) (by omega) w).mono ?_
  rintro e w' ⟨rfl, rfl⟩
  exact ⟨by rw [show ((n : Int) - 1 - (j : Int)).toNat = n - 1 - j by omega], rfl⟩

set_option maxHeartbeats 800000 in
theorem rget_any (A : Option Addr) (l : List UInt8) (c : Nat) (h8 : l.length ≤ 8) (w : World) (hb : By w A l) :
    Calls Try.prog 83 #[.slice A l.length c] w fun e w' => e = .returned (.int .u64 (num l)) ∧ Ext w w' := by
  generalize hn : l.length = n at *
  have HN := Lib.hid hn
  have HB := Lib.hid hb
  clear hb hn
  go_enter Try.func83, Try.ntmps83
  go_wp2
  go_loopw [3, 4] (fun s i wr => ∃ j : Nat, j ≤ n ∧ i = .int .i64 j ∧ s = .int .u64 (accI l j) ∧ Ext w wr) (fun _ i _ => n - (intOf i).toNat)
  case atStart => exact ⟨0, Nat.zero_le _, rfl, by rw [accI_zero], Ext.refl _⟩
  case round =>
    obtain ⟨j, hj, rfl, rfl, hE⟩ := hrel
    by_cases hlt : j < n
    · obtain ⟨b, o, rfl, hc⟩ := (HB.out.ext hE).at_ (by rw [HN.out]; omega)
      have hv := hc j (by rw [HN.out]; exact hlt)
      clear hc
      have b1 := at8_lo l j
      have b2 := at8_hi l j
      have b3 := wt_pos (n - 1 - j)
      have b4 := wt_le (n - 1 - j) (by omega)
      have b5 := accI_lo l j
      have b6 := accI_hi l j (by rw [HN.out]; exact h8) (by rw [HN.out]; omega)
      have b7 := accI_hi l (j + 1) (by rw [HN.out]; exact h8) (by rw [HN.out]; omega)
      have e1 := accI_step l j (by rw [HN.out]; exact hlt)
      rw [HN.out] at e1
      have b8 : 0 ≤ at8 l j * wt (n - 1 - j) := Int.mul_nonneg b1 (by omega)
      have b9 : at8 l j * wt (n - 1 - j) ≤ 18446744073709551615 := by omega
      have b10 : accI l j + at8 l j * wt (n - 1 - j) ≤ 18446744073709551615 := by omega
      have HE := Lib.hid e1
      clear e1
      have i1 : (0 : Int) ≤ (j : Int) := by omega
      have i2 : (j : Int) < (n : Int) := by omega
      have s1 : IntKind.i64.wrap ((n : Int) - 1) = (n : Int) - 1 := IntWalk.i64_in _ (by omega)
      have s2 : IntKind.i64.wrap ((n : Int) - 1 - (j : Int)) = (n : Int) - 1 - (j : Int) := IntWalk.i64_in _ (by omega)
      have s3 : IntKind.u64.wrap (at8 l j) = at8 l j := IntWalk.u64_in _ (by omega)
      have s4 : IntKind.u64.wrap (at8 l j * wt (n - 1 - j)) = at8 l j * wt (n - 1 - j) := IntWalk.u64_in _ (by omega)
      have s5 : IntKind.u64.wrap (accI l j + at8 l j * wt (n - 1 - j)) = accI l j + at8 l j * wt (n - 1 - j) := IntWalk.u64_in _ (by omega)
      have q1 := fun W => weight_sub n j (by omega) (by omega) W
      have Q1 := Lib.hid q1
      clear q1
      go_wp2_with fail
      go_quiet ((go_at_call 100; exact Calls.quiet_of_same (Q1.out _)))
      clear s1 s2 s3 s4 s5
      go_wp2
      exact ⟨⟨j + 1, by omega, by go_num, by rw [HE.out], hE.drewN _⟩, by simp [intOf]; omega⟩
    · obtain rfl : j = n := by omega
      go_wp2
      go_ret
      exact ⟨by rw [← HN.out, accI_all]; rfl, hE⟩

end Go.Proofs.Ytgbfeagoadlhmaa
