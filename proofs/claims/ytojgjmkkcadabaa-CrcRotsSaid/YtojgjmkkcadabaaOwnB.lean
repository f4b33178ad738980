/-
  Bytes of the call's own: where they lie.
-/
import Derived.Test.YtojgjmkkcadabaaOwn
set_option linter.unusedVariables false
set_option linter.unusedSimpArgs false
namespace Go.Proofs.Ytojgjmkkcadabaa
open Go.RowKit Pl

/-- an own slice: where it lies -/
theorem Own.lies {e : TypeId} {w : World} {B : Nat} {v : Value} {l : List UInt8} (h : Own e w B v l) :
    ∃ A c, v = .slice A l.length c ∧ By w A l ∧ l.length ≤ c ∧ c ≤ 9223372036854775807 ∧ (l.length = 0 ∨ ∃ g cur, A = some ⟨g, 0, none⟩ ∧ B ≤ g ∧ g < w.heap.size ∧ Blk w g e cur ∧ l.length ≤ cur.size) := by
  obtain ⟨A, c, hv, hb, hc, hc'⟩ := h.form
  refine ⟨A, c, hv, hb, hc, by unfold maxLen at hc'; omega, ?_⟩
  obtain ⟨_, h2⟩ := h
  rcases h2 with ⟨rfl, hn⟩ | ⟨g, cap, cur, rfl, hB, hh, hnc, hcm, hcs, ht⟩
  · exact .inl hn
  · right
    cases hv
    exact ⟨g, cur, rfl, hB, Blk.lt hh, hh, by omega⟩

theorem zero_other {e : TypeId} {w w' : World} {g B : Nat} {v : Value} {l : List UInt8} (h : Own e w B v l) (hg : w.grownBy w' (some g)) (hlt : g < B) : Own e w' B v l := by
  refine h.kept hg ?_
  cases hv : v.ownBlock with
  | none => exact .inl rfl
  | some k => right; have := (h.lt k hv).1; simp; omega

end Go.Proofs.Ytojgjmkkcadabaa
