/-
  An argument of type []Field.
-/
import Derived.Test.YtojgjmkkcadabaaLaw
import Derived.Test.YtojgjmkkcadabaaFields
set_option linter.unusedVariables false
set_option linter.unusedSimpArgs false
namespace Go.Proofs.Ytojgjmkkcadabaa
open Go.ChangeShapes Go.WideShapes Go.ChangeAt Go.RowKit

theorem open_fields {H : Type} {enc : TypeId × Value → H} {W : World} {base : Nat} {v : Value} {d : DataW H} {p : List MemPlace} (hv : Value.okWide Try.prog W .any base 37 v)
    (h : DataW.Trod enc Try.prog W 0 (fun _ => true) true 37 v d p) :
    ∃ A c fs, v = .slice A fs.length c ∧ Flds W A fs ∧ fs.length ≤ c ∧ c ≤ 9223372036854775807 ∧ ∀ i, i < fs.length → (fs.getD i fld0).n < 18446744073709551616 := by
  obtain ⟨a, len, cap, rfl⟩ := okWide_slice Try.underlying37 hv
  obtain ⟨fuel, hf⟩ := h
  simp only [Value.cells] at hf
  rcases open_structs Try.underlying37 Try.underlying39 (by kernel_rfl) (by kernel_rfl) hf with h1 | ⟨ad, len', cap', h1, h2, h3, h4⟩
  · simp at h1
    obtain ⟨rfl, rfl, rfl⟩ := h1
    exact ⟨none, 0, [], rfl, .inl rfl, Nat.le_refl _, by omega, fun i hi => by simp at hi⟩
  · simp at h1
    obtain ⟨rfl, rfl, rfl⟩ := h1
    by_cases h0 : len = 0
    · subst h0
      exact ⟨some ad, cap, [], rfl, .inl rfl, by omega, h3, fun i hi => by simp at hi⟩
    · obtain ⟨u, _, _, hu, _⟩ := h4 0 (by omega) 0 _ rfl
      obtain ⟨b, o, rfl⟩ := addr_plain hu (by simp)
      obtain ⟨fs, hl, hq⟩ := list_of fld0 (fun i f => W.cell? ⟨b, o + i * 3, none⟩ = some (.int .u64 (f.n : Int)) ∧ W.cell? ⟨b, o + i * 3 + 1, none⟩ = some (.int .i64 f.size) ∧
          (∃ Ai ci, W.cell? ⟨b, o + i * 3 + 2, none⟩ = some (.slice Ai f.b.length ci) ∧ By W Ai f.b ∧ f.b.length ≤ ci ∧ ci ≤ 9223372036854775807) ∧ f.n < 18446744073709551616) len (fun i hi => by
        obtain ⟨u0, y0, n0, k0, t0⟩ := h4 i hi 0 _ rfl
        obtain ⟨u1, y1, n1, k1, t1⟩ := h4 i hi 1 _ rfl
        obtain ⟨u2, y2, n2, k2, t2⟩ := h4 i hi 2 _ rfl
        obtain ⟨z0, e0, _, w0⟩ := DataW.trod_int Try.underlying22 t0
        obtain ⟨z1, e1, _, w1⟩ := DataW.trod_int Try.underlying3 t1
        obtain ⟨A2, c2, l2, rfl, hb, hc, hc'⟩ := trod_bytes t2
        simp only [List.cons.injEq, and_true] at e0 e1
        subst e0 e1
        rw [add_at] at k0 k1 k2
        have hb0 := bounds_u64 w0
        obtain ⟨m, rfl⟩ := Int.eq_ofNat_of_zero_le hb0.1
        refine ⟨⟨m, z1, l2⟩, k0, ?_, ⟨A2, c2, ?_, hb, hc, hc'⟩, by have := hb0.2; show m < _; omega⟩
        · rw [Nat.add_assoc]; exact k1
        · rw [Nat.add_assoc]; exact k2)
      refine ⟨some ⟨b, o, none⟩, cap, fs, by rw [hl], .inr ⟨b, o, rfl, fun i hi => ?_⟩, by rw [hl]; exact h2, h3, fun i hi => (hq i (by omega)).2.2.2⟩
      obtain ⟨q1, q2, q3, _⟩ := hq i (by omega)
      exact ⟨q1, q2, q3⟩

end Go.Proofs.Ytojgjmkkcadabaa
