/-
  An argument of type [][]byte.
-/
import Derived.Test.YtojgjmkkcadabaaLaw
import Derived.Test.YtojgjmkkcadabaaJoin
set_option linter.unusedVariables false
set_option linter.unusedSimpArgs false
namespace Go.Proofs.Ytojgjmkkcadabaa
open Go.ChangeShapes Go.WideShapes Go.ChangeAt Go.RowKit

theorem Try.cells8s : Try.prog.cellsOf 23 = 1 := by kernel_rfl

theorem open_lists {H : Type} {enc : TypeId × Value → H} {W : World} {base : Nat} {v : Value} {d : DataW H} {p : List MemPlace} (hv : Value.okWide Try.prog W .any base 59 v)
    (h : DataW.Trod enc Try.prog W 0 (fun _ => true) true 59 v d p) : ∃ A c L, v = .slice A L.length c ∧ Bys W A L ∧ L.length ≤ c ∧ c ≤ 9223372036854775807 ∧ ∀ i, i < L.length → (L.getD i []).length ≤ 9223372036854775807 := by
  obtain ⟨a0, len0, cap0, rfl⟩ := okWide_slice Try.underlying59 hv
  obtain ⟨fuel, hf⟩ := h
  simp only [Value.cells] at hf
  rcases Go.Deep.open_slice Try.underlying59 hf with ⟨h0, _⟩ | ⟨a, len, cap, m, n, D, Pl, hcs, hb, hl, hm, hmm, hx, hi⟩
  · simp at h0
    obtain ⟨rfl, rfl, rfl⟩ := h0
    exact ⟨none, 0, [], rfl, .inl rfl, Nat.le_refl _, by omega, fun i hi => by simp at hi⟩
  · simp at hcs
    obtain ⟨rfl, rfl, rfl⟩ := hcs
    have hel : ∀ i, i < len0 → ∃ l : List UInt8, (∃ Ai ci, W.cell? (a.add i) = some (.slice Ai l.length ci) ∧ By W Ai l ∧ l.length ≤ ci) ∧ l.length ≤ 9223372036854775807 := by
      intro i hil
      obtain ⟨cs', hc, ht'⟩ := hi i (by rw [hmm]; simp; omega)
      rw [Try.cells8s, Nat.mul_one] at hc
      obtain ⟨_, hcl, hat⟩ := World.cells?_some hc
      obtain ⟨u, rfl⟩ : ∃ u, cs' = [u] := by
        match cs', hcl with
        | [u], _ => exact ⟨u, rfl⟩
      obtain ⟨Ai, ci, l, rfl, hby, h1, h2⟩ := trod_bytes ht'
      have hc0 := hat 0 (by omega)
      rw [Go.Deep.add_add] at hc0
      simp at hc0
      exact ⟨l, ⟨Ai, ci, hc0, hby, h1⟩, by omega⟩
    obtain ⟨L, hL, hQ⟩ := list_of [] (fun i l => (∃ Ai ci, W.cell? (a.add i) = some (.slice Ai l.length ci) ∧ By W Ai l ∧ l.length ≤ ci) ∧ l.length ≤ 9223372036854775807) len0 hel
    refine ⟨some a, cap0, L, by rw [hL], ?_, by rw [hL]; exact hl, by unfold maxLen at hm; omega, fun i hi => (hQ i (by omega)).2⟩
    by_cases h0 : len0 = 0
    · left; exact List.eq_nil_of_length_eq_zero (by omega)
    · obtain ⟨Ai, ci, hc0, _⟩ := (hQ 0 (by omega)).1
      obtain ⟨b, o, rfl⟩ := addr_plain hc0 rfl
      refine .inr ⟨b, o, rfl, fun i hi => ?_⟩
      obtain ⟨Ai, ci, hc, hb1, hb2⟩ := (hQ i (by omega)).1
      rw [add_at] at hc
      exact ⟨Ai, ci, hc, hb1, hb2⟩

end Go.Proofs.Ytojgjmkkcadabaa
