
/-
  Contract of layer 1's known: the chapter's rows.
-/
import Derived.Test.YtgbfeagoadlhmaaReadC
import Derived.Lib.SlBytesConst
set_option linter.unusedVariables false
set_option linter.unusedSimpArgs false
namespace Go.Proofs.Ytgbfeagoadlhmaa
open Go.RowKit Pl

theorem By.lit (w : World) (l : List UInt8) (t : TypeId) (fr : Nat × Nat) : By (w.alloc (.cells (cells8 l) t fr)) (some ⟨w.heap.size, 0, none⟩) l := by
  refine .inr ⟨w.heap.size, 0, rfl, fun i hi => ?_⟩
  rw [Nat.zero_add, cell_of_row _ _ i (cells8 l) t fr (heap_alloc_new w _)]
  exact cells8_get l i hi

theorem str_any {w : World} {A : Option Addr} {l : List UInt8} (h : By w A l) (c : Nat) : (convert 24 9 (.slice A l.length c)).run Try.prog w = .ok (.string ⟨l.toArray⟩) w :=
  run_string h _ _ _ Try.underlying24 Try.underlying5 Try.underlying9 c

theorem By.rd {w w' : World} {A : Option Addr} {l : List UInt8} {r : Nat} {s : Option (List UInt8)} (h : By w A l) (hr : Rd w r s) (hu : Upd w w' r) : By w' A l := by
  cases s with
  | none => exact h.upd (show Blk w r _ _ from hr) (noByte2 (by intro n h; cases h) (by intro n h; cases h)) hu
  | some m => obtain ⟨B, c, h1, _⟩ := hr; exact h.upd h1 (noByte2 (by intro n h; cases h) (by intro n h; cases h)) hu

end Go.Proofs.Ytgbfeagoadlhmaa
