
/-
  Contracts of the small functions of layer 1 and its reference: num, weight, Room, Put, Get.
-/
import Derived.Test.YtgbfeagoadlhmaaRows
import Derived.Test.YtgbfeagoadlhmaaBase
import Derived.Deep.QuietTactic
import Derived.BigQuiet
namespace Go.Proofs.Ytgbfeagoadlhmaa
open Go.RowKit Pl

/-- a byte's weight -/
def wt (k : Nat) : Int := ((256 ^ k : Nat) : Int)
theorem wt_zero : wt 0 = 1 := rfl
theorem wt_succ (k : Nat) : wt (k + 1) = wt k * 256 := by unfold wt; rw [Nat.pow_succ]; omega
theorem wt_pos (k : Nat) : 1 ≤ wt k := by
  unfold wt
  have := Nat.pow_pos (n := k) (show 0 < 256 by decide)
  omega
theorem wt_le (k : Nat) (h : k ≤ 7) : wt k ≤ 72057594037927936 := by
  unfold wt
  have := Nat.pow_le_pow_right (n := 256) (by decide) h
  omega

set_option maxHeartbeats 400000 in
theorem weight_any (k : Nat) (hk : k ≤ 7) (w : World) : Calls Try.prog 100 #[.int .i64 k] w fun e w' => e = .returned (.int .u64 (wt k)) ∧ w = w' := by
  go_enter Try.func100, Try.ntmps100
  go_wp2
  go_loop [3, 4] (fun n i => ∃ j : Nat, j ≤ k ∧ i = .int .i64 j ∧ n = .int .u64 (wt j)) (fun _ i => k - (intOf i).toNat)
  case atStart => exact ⟨0, Nat.zero_le _, rfl, rfl⟩
  case round =>
    obtain ⟨j, hj, rfl, rfl⟩ := hrel
    by_cases hlt : j < k
    · have h1 := wt_pos j
      have h2 := wt_le j (by omega)
      have h3 := wt_le (j + 1) (by omega)
      have H := Lib.hid (wt_succ j)
      have h4 : wt j * 256 ≤ 72057594037927936 := by rw [← H.out]; exact h3
      go_wp2
      go_round
      case rel => exact ⟨j + 1, by omega, by go_num, by rw [H.out]⟩
      case measure => simp [intOf]; omega
    · obtain rfl : j = k := by omega
      go_wp2
      go_ret
      exact ⟨rfl, rfl⟩

/-- has a number room in so many bytes? -/
def roomB (n : Nat) (size : Int) : Bool := decide (1 ≤ size) && (decide (size ≤ 8) && decide (n < 256 ^ size.toNat))

theorem room_true {n : Nat} {size : Int} (h : roomB n size = true) : ∃ k : Nat, size = (k : Int) ∧ 1 ≤ k ∧ k ≤ 8 ∧ n < 256 ^ k := by
  simp [roomB] at h
  exact ⟨size.toNat, by omega, by omega, by omega, h.2.2⟩
theorem room_false {n : Nat} {size : Int} (h : roomB n size = false) : size < 1 ∨ 8 < size ∨ ∃ k : Nat, size = (k : Int) ∧ 1 ≤ k ∧ k ≤ 8 ∧ 256 ^ k ≤ n := by
  simp [roomB] at h
  by_cases h1 : size < 1
  · exact .inl h1
  · by_cases h2 : 8 < size
    · exact .inr (.inl h2)
    · exact .inr (.inr ⟨size.toNat, by omega, by omega, by omega, h (by omega) (by omega)⟩)

end Go.Proofs.Ytgbfeagoadlhmaa
