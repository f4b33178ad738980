
/-
  Contracts of wire.Put and wire.Get.
-/
import Derived.Test.YtgbfeagoadlhmaaWireB
set_option linter.unusedVariables false
set_option linter.unusedSimpArgs false
namespace Go.Proofs.Ytgbfeagoadlhmaa
open Go.RowKit Pl

theorem make8 (k : Nat) (hk : k ≤ 70368744177664) (w : World) :
    (Instr.makeSlice 24 (.int .i64 (k : Int)) (.int .i64 (k : Int))).run Try.prog w = .ok (.slice (some ⟨w.heap.size, 0, none⟩) k k) (w.alloc (.cells (madeCells #[.int .u8 0] k) 5)) := by
  obtain ⟨i0, hi, hz0, hz1, hz2⟩ := info_parts Try.info8
  have h := run_make (P := Try.prog) w 24 5 i0 (.int .u8 0) Try.underlying24 hi hz0 .i64 .i64 k k (by omega) (Int.le_refl _) (by rw [hz2]; omega) (by omega)
  simp only [Int.toNat_natCast, hz1, Nat.mul_one] at h
  exact h

theorem pow256 (n k : Nat) : (n : Int) / 2 ^ (8 * k) = ((n / 256 ^ k : Nat) : Int) := by
  have : (2 : Nat) ^ (8 * k) = 256 ^ k := by rw [Nat.pow_mul]
  rw [← this]
  simp

set_option maxHeartbeats 400000 in
theorem put_no (n : Nat) (hn : n < 18446744073709551616) (size : Int) (h : roomB n size = false) (w : World) :
    Calls Try.prog 48 #[.int .u64 n, .int .i64 size] w fun e w' => e = .returned (.tuple #[.slice none 0 0, .int .i64 2]) ∧ w = w' := by
  rcases room_false h with h1 | h1 | ⟨k, rfl, h1, h8, hk⟩
  · clear h
    go_enter Try.func48, Try.ntmps48
    go_wp2
    go_ret2
    exact ⟨rfl, rfl⟩
  · clear h
    go_enter Try.func48, Try.ntmps48
    go_wp2
    go_ret2
    exact ⟨rfl, rfl⟩
  · clear h
    have hk7 : k < 8 := by
      rcases Nat.lt_or_ge k 8 with h | h
      · exact h
      · obtain rfl : k = 8 := by omega
        omega
    have ht : ((n : Int) / 2 ^ (8 * k) != 0) = true := by
      rw [pow256, bne_iff_ne]
      have : 0 < n / 256 ^ k := Nat.div_pos hk (Nat.pow_pos (by decide))
      omega
    clear hk
    go_enter Try.func48, Try.ntmps48
    go_wp2
    go_ret2
    exact ⟨rfl, rfl⟩

theorem u8_of (n k : Nat) : Value.int .u8 ((n : Int) / 2 ^ (8 * k) % 256) = u8 (UInt8.ofNat (n / 256 ^ k)) := by
  rw [pow256, u8, UInt8.toNat_ofNat']
  congr 1

set_option maxHeartbeats 800000 in
theorem put_yes (n k : Nat) (hn : n < 256 ^ k) (h1 : 1 ≤ k) (h8 : k ≤ 8) (w : World) :
    Calls Try.prog 48 #[.int .u64 n, .int .i64 k] w fun e w' => ∃ g, e = .returned (.tuple #[.slice (some ⟨g, 0, none⟩) k k, .int .i64 0]) ∧ Blk w' g 5 (cells8 (put n k)) ∧ w.heap.size ≤ g ∧ Ext w w' := by
  have hmk := make8 k (by omega)
  have hlt : n < 18446744073709551616 := Nat.lt_of_lt_of_le hn (Nat.le_trans (Nat.pow_le_pow_right (by decide) h8) (by decide))
  have ht : ((n : Int) / 2 ^ (8 * k) != 0) = false := by
    rw [pow256, Nat.div_eq_of_lt hn]; rfl
  clear hn
  by_cases hk7 : k < 8
  all_goals
    go_enter Try.func48, Try.ntmps48
    go_wp2
    go_loopw [29] (fun i wr => ∃ j : Nat, j ≤ k ∧ i = .int .i64 j ∧ Blk wr w.heap.size 5 (putCells n k j) ∧ Ext w wr) (fun i _ => k - (intOf i).toNat)
    case atStart => exact ⟨0, Nat.zero_le _, rfl, by rw [putCells_zero]; exact Blk.new _ _ _, (Ext.refl _).alloc _⟩
    case round =>
      obtain ⟨j, hj, rfl, hB, hE⟩ := hrel
      by_cases hlt2 : j < k
      · obtain ⟨v, hv⟩ : ∃ v, wr.cell? ⟨w.heap.size, j, none⟩ = some v := by
          rw [hB.cell]
          exact ⟨_, Array.getElem?_eq_getElem (by rw [putCells_size]; exact hlt2)⟩
        have hf := hB.frozen j
        have HB := Lib.hid hB
        clear hB
        go_wp2
        refine ⟨⟨j + 1, by omega, by go_num, ?_, hE.setCell (Nat.le_refl _) _⟩, by simp [intOf]; omega⟩
        rw [u8_of, ← putCells_step]
        exact HB.out.set _ _
      · obtain rfl : j = k := by omega
        go_wp2
        go_ret2
        exact ⟨_, rfl, by rw [← putCells_all]; exact hB, Nat.le_refl _, hE⟩

theorem get_no (A : Option Addr) (n c : Nat) (hn : n ≤ 140737488355328) (h : n < 1 ∨ 8 < n) (w : World) :
    Calls Try.prog 50 #[.slice A n c] w fun e w' => e = .returned (.tuple #[.int .u64 0, .int .i64 2]) ∧ w = w' := by
  rcases h with h | h
  all_goals
    go_enter Try.func50, Try.ntmps50
    go_wp2
    go_ret2
    exact ⟨rfl, rfl⟩

/-- the number of the first k bytes -/
def numI (l : List UInt8) (k : Nat) : Int := (num (l.take k) : Int)
theorem numI_step (l : List UInt8) (k : Nat) (h : k < l.length) (h7 : k ≤ 7) : bits .or .u64 (IntKind.u64.wrap (numI l k * 256)) (at8 l k) = numI l (k + 1) := by
  have h1 := num_lt (l.take k)
  rw [List.length_take, Nat.min_eq_left (by omega)] at h1
  have h2 := Nat.pow_le_pow_right (n := 256) (by decide) h7
  have h3 := (l.getD k 0).toNat_lt
  unfold numI at8
  rw [IntKind.wrap_u64, at8_take l k h, num_snoc]
  have e : ((num (l.take k) : Int) * 256) % 18446744073709551616 = ((num (l.take k) * 256 : Nat) : Int) := by omega
  rw [e, u64_or_nat _ _ (by omega) (by omega), nat_join 8 _ _ (by omega) (by omega)]

set_option maxHeartbeats 800000 in
theorem get_yes (A : Option Addr) (l : List UInt8) (c : Nat) (h1 : 1 ≤ l.length) (h8 : l.length ≤ 8) (w : World) (hb : By w A l) :
    Calls Try.prog 50 #[.slice A l.length c] w fun e w' => e = .returned (.tuple #[.int .u64 (num l), .int .i64 0]) ∧ w = w' := by
  obtain ⟨b, o, rfl, hc⟩ := hb.at_ (by omega)
  clear hb
  generalize hn : l.length = n at *
  have HC := Lib.hid hc
  have HN := Lib.hid hn
  clear hc hn
  go_enter Try.func50, Try.ntmps50
  go_wp2
  go_loop [4, 17] (fun s i => ∃ j : Nat, j ≤ n ∧ i = .int .i64 j ∧ s = .int .u64 (numI l j)) (fun _ i => n - (intOf i).toNat)
  case atStart => exact ⟨0, Nat.zero_le _, rfl, rfl⟩
  case round =>
    obtain ⟨j, hj, rfl, rfl⟩ := hrel
    by_cases hlt : j < n
    · have hv := HC.out j hlt
      have b1 := at8_lo l j
      have b2 := at8_hi l j
      go_wp2
      refine ⟨⟨j + 1, by omega, by go_num, ?_⟩, by simp [intOf]; omega⟩
      rw [numI_step l j (by rw [HN.out]; exact hlt) (by omega)]
    · obtain rfl : j = n := by omega
      go_wp2
      go_ret2
      refine ⟨?_, rfl⟩
      unfold numI
      rw [List.take_of_length_le (by rw [HN.out]; omega)]
      rfl

end Go.Proofs.Ytgbfeagoadlhmaa
