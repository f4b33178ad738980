
/-
  Contracts of wire.Put and wire.Get.
-/
import Derived.Test.YtgbfeagoadlhmaaWireA
namespace Go.Proofs.Ytgbfeagoadlhmaa
open Go.RowKit Pl

theorem Try.info8 : (Try.prog.info? 5).map (fun i => (i.zero, i.size, i.bytes)) = some (some (.int .u8 0), 1, 1) := by kernel_rfl

/-- what stands in the row when i bytes have been laid -/
def putCells (n size k : Nat) : Array Value := ((List.range size).map fun i => if i < k then u8 (UInt8.ofNat (n / 256 ^ (size - 1 - i))) else .int .u8 0).toArray

theorem putCells_zero (n size : Nat) : putCells n size 0 = (madeCells #[.int .u8 0] size) := by
  apply Array.toList_inj.1
  rw [toList_madeCells_one]
  simp only [putCells, List.toList_toArray]
  rw [List.map_congr_left (g := fun _ => Value.int .u8 0) (by intro i _; simp)]
  exact List.map_const' .. |>.trans (by simp)

theorem putCells_size (n size k : Nat) : (putCells n size k).size = size := by simp [putCells]

theorem putCells_step (n size k : Nat) : (putCells n size k).setIfInBounds k (u8 (UInt8.ofNat (n / 256 ^ (size - 1 - k)))) = putCells n size (k + 1) := by
  apply Array.ext
  · simp [putCells]
  · intro i h1 h2
    simp [putCells] at h1 h2
    rw [Array.getElem_setIfInBounds (by simpa [putCells] using h1)]
    simp only [putCells, List.getElem_toArray, List.getElem_map, List.getElem_range]
    by_cases hik : k = i
    · subst hik; simp
    · simp only [hik, if_false]
      have : i < k ↔ i < k + 1 := by omega
      simp [this]

theorem putCells_all (n size : Nat) : putCells n size size = cells8 (put n size) := by
  unfold putCells cells8 put
  congr 1
  rw [List.map_map]
  apply List.map_congr_left
  intro i hi
  simp at hi
  simp [hi]

end Go.Proofs.Ytgbfeagoadlhmaa
