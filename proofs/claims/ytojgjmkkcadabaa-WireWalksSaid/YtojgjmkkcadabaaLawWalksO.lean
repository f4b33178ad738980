/-
  An argument of type []Step.
-/
import Derived.Test.YtojgjmkkcadabaaLaw
import Derived.Test.YtojgjmkkcadabaaWalks
set_option linter.unusedVariables false
set_option linter.unusedSimpArgs false
namespace Go.Proofs.Ytojgjmkkcadabaa
open Go.ChangeShapes Go.WideShapes Go.ChangeAt Go.RowKit

theorem open_steps {H : Type} {enc : TypeId × Value → H} {W : World} {base : Nat} {v : Value} {d : DataW H} {p : List MemPlace} (hv : Value.okWide Try.prog W .any base 46 v)
    (h : DataW.Trod enc Try.prog W 0 (fun _ => true) true 46 v d p) :
    ∃ A c fs, v = .slice A fs.length c ∧ Stps W A fs ∧ fs.length ≤ c ∧ c ≤ 9223372036854775807 := by
  obtain ⟨a, len, cap, rfl⟩ := okWide_slice Try.underlying46 hv
  obtain ⟨fuel, hf⟩ := h
  simp only [Value.cells] at hf
  rcases open_structs Try.underlying46 Try.underlying53 (by kernel_rfl) (by kernel_rfl) hf with h1 | ⟨ad, len', cap', h1, h2, h3, h4⟩
  · simp at h1
    obtain ⟨rfl, rfl, rfl⟩ := h1
    exact ⟨none, 0, [], rfl, .inl rfl, Nat.le_refl _, by omega⟩
  · simp at h1
    obtain ⟨rfl, rfl, rfl⟩ := h1
    by_cases h0 : len = 0
    · subst h0
      exact ⟨some ad, cap, [], rfl, .inl rfl, by omega, h3⟩
    · obtain ⟨u, _, _, hu, _⟩ := h4 0 (by omega) 0 _ rfl
      obtain ⟨b, o, rfl⟩ := addr_plain hu (by simp)
      obtain ⟨fs, hl, hq⟩ := list_of stp0 (fun i f => W.cell? ⟨b, o + i * 2, none⟩ = some (.int .i64 f.kind) ∧ W.cell? ⟨b, o + i * 2 + 1, none⟩ = some (.int .i64 f.n)) len (fun i hi => by
        obtain ⟨u0, y0, n0, k0, t0⟩ := h4 i hi 0 _ rfl
        obtain ⟨u1, y1, n1, k1, t1⟩ := h4 i hi 1 _ rfl
        obtain ⟨z0, e0, _, w0⟩ := DataW.trod_int Try.underlying3 t0
        obtain ⟨z1, e1, _, w1⟩ := DataW.trod_int Try.underlying3 t1
        simp only [List.cons.injEq, and_true] at e0 e1
        subst e0 e1
        rw [add_at] at k0 k1
        refine ⟨⟨z0, z1⟩, k0, ?_⟩
        rw [Nat.add_assoc]; exact k1)
      exact ⟨some ⟨b, o, none⟩, cap, fs, by rw [hl], .inr ⟨b, o, rfl, fun i hi => hq i (by omega)⟩, by rw [hl]; exact h2, h3⟩

end Go.Proofs.Ytojgjmkkcadabaa
