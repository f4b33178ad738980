/-
  Contracts of the small functions of layer 1 and its reference: num, weight, Room, Put, Get.
-/
import Derived.Test.YtojgjmkkcadabaaRows
import Derived.Test.YtojgjmkkcadabaaBase
import Derived.Deep.QuietTactic
import Derived.BigQuiet
namespace Go.Proofs.Ytojgjmkkcadabaa
open Go.RowKit Pl

theorem num_any (n : Int) (w : World) : Calls Try.prog 17 #[.int .i64 n] w fun e w' => e = .returned (.int .i64 n) ∧ w = w' := by
  go_enter Try.func17, Try.ntmps17
  go_wp2
  go_ret
  exact ⟨rfl, rfl⟩

/-- a byte's weight -/
def wt (k : Nat) : Int := ((256 ^ k : Nat) : Int)
theorem wt_zero : wt 0 = 1 := rfl
theorem wt_succ (k : Nat) : wt (k + 1) = wt k * 256 := by unfold wt; rw [Nat.pow_succ]; omega
theorem wt_pos (k : Nat) : 1 ≤ wt k := by
  unfold wt
  have := Nat.pow_pos (n := k) (show 0 < 256 by decide)
  omega
theorem wt_le (k : Nat) (h : k ≤ 7) : wt k ≤ 72057594037927936 := by
  unfold wt
  have := Nat.pow_le_pow_right (n := 256) (by decide) h
  omega

set_option maxHeartbeats 400000 in
theorem weight_any (k : Nat) (hk : k ≤ 7) (w : World) : Calls Try.prog 50 #[.int .i64 k] w fun e w' => e = .returned (.int .u64 (wt k)) ∧ w = w' := by
  go_enter Try.func50, Try.ntmps50
  go_wp2
  go_loop [3, 4] (fun n i => ∃ j : Nat, j ≤ k ∧ i = .int .i64 j ∧ n = .int .u64 (wt j)) (fun _ i => k - (intOf i).toNat)
  case atStart => exact ⟨0, Nat.zero_le _, rfl, rfl⟩
  case round =>
    obtain ⟨j, hj, rfl, rfl⟩ := hrel
    by_cases hlt : j < k
    · have h1 := wt_pos j
      have h2 := wt_le j (by omega)
      have h3 := wt_le (j + 1) (by omega)
      have H := Lib.hid (wt_succ j)
      have h4 : wt j * 256 ≤ 72057594037927936 := by rw [← H.out]; exact h3
      go_wp2
      go_round
      case rel => exact ⟨j + 1, by omega, by go_num, by rw [H.out]⟩
      case measure => simp [intOf]; omega
    · obtain rfl : j = k := by omega
      go_wp2
      go_ret
      exact ⟨rfl, rfl⟩

/-- has a number room in so many bytes? -/
def roomB (n : Nat) (size : Int) : Bool := decide (1 ≤ size) && (decide (size ≤ 8) && decide (n < 256 ^ size.toNat))

theorem room_true {n : Nat} {size : Int} (h : roomB n size = true) : ∃ k : Nat, size = (k : Int) ∧ 1 ≤ k ∧ k ≤ 8 ∧ n < 256 ^ k := by
  simp [roomB] at h
  exact ⟨size.toNat, by omega, by omega, by omega, h.2.2⟩
theorem room_false {n : Nat} {size : Int} (h : roomB n size = false) : size < 1 ∨ 8 < size ∨ ∃ k : Nat, size = (k : Int) ∧ 1 ≤ k ∧ k ≤ 8 ∧ 256 ^ k ≤ n := by
  simp [roomB] at h
  by_cases h1 : size < 1
  · exact .inl h1
  · by_cases h2 : 8 < size
    · exact .inr (.inl h2)
    · exact .inr (.inr ⟨size.toNat, by omega, by omega, by omega, h (by omega) (by omega)⟩)

set_option maxHeartbeats 400000 in
theorem room_any (n : Nat) (hn : n < 18446744073709551616) (size : Int) (w : World) : Calls Try.prog 16 #[.int .u64 n, .int .i64 size] w fun e w' => e = .returned (.bool (roomB n size)) ∧ w = w' := by
  by_cases h1 : size < 1
  · have hr : roomB n size = false := by simp [roomB]; omega
    rw [hr]
    go_enter Try.func16, Try.ntmps16
    go_wp2
    go_ret
    exact ⟨rfl, rfl⟩
  by_cases h2 : 8 < size
  · have hr : roomB n size = false := by simp [roomB]; omega
    rw [hr]
    go_enter Try.func16, Try.ntmps16
    go_wp2
    go_ret
    exact ⟨rfl, rfl⟩
  obtain ⟨k, rfl⟩ : ∃ k : Nat, size = (k : Int) := ⟨size.toNat, by omega⟩
  by_cases h3 : k = 8
  · subst h3
    have hr : roomB n 8 = true := by simp [roomB]; exact hn
    rw [show ((8 : Nat) : Int) = 8 from rfl, hr]
    go_enter Try.func16, Try.ntmps16
    go_wp2
    go_ret
    exact ⟨rfl, rfl⟩
  · have hr : roomB n k = decide ((n : Int) < wt k) := by
      unfold wt
      have e : decide ((n : Int) < ((256 ^ k : Nat) : Int)) = decide (n < 256 ^ k) := by rw [Bool.eq_iff_iff]; simp only [decide_eq_true_eq]; omega
      rw [e]
      have e1 : decide (1 ≤ (k : Int)) = true := by simp; omega
      have e2 : decide ((k : Int) ≤ 8) = true := by simp; omega
      simp only [roomB, e1, e2, Int.toNat_natCast, Bool.true_and]
    have hk8 : ((k : Int) == 8) = false := by simp; omega
    rw [hr]
    have hb : k ≤ 7 := by omega
    have hb1 : 1 ≤ k := by omega
    clear hr h3
    go_enter Try.func16, Try.ntmps16
    go_wp2_with (go_at_call 50; refine (weight_any k hb _).mono ?_; rintro e w' ⟨rfl, rfl⟩)
    go_ret
    exact ⟨rfl, rfl⟩

end Go.Proofs.Ytojgjmkkcadabaa
