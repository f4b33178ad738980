
/-
  An argument of type []Act, or Act.
-/
import Derived.Test.YtahooohokdbnpaaLaw
import Derived.Test.YtahooohokdbnpaaPairN
set_option linter.unusedVariables false
set_option maxRecDepth 100000
set_option linter.unusedSimpArgs false
namespace Go.Proofs.Ytahooohokdbnpaa
open Go.ChangeShapes Go.WideShapes Go.ChangeAt Go.RowKit

theorem open_acs {H : Type} {enc : TypeId × Value → H} {W : World} {base : Nat} {v : Value} {d : DataW H} {p : List MemPlace} (hv : Value.okWide Try.prog W .any base 22 v)
    (h : DataW.Trod enc Try.prog W 0 (fun _ => true) true 22 v d p) :
    ∃ A c fs, v = .slice A fs.length c ∧ Acs W A fs ∧ fs.length ≤ c ∧ c ≤ 9223372036854775807 ∧ ∀ i, i < fs.length → I64 (fs.getD i ac0).a ∧ I64 (fs.getD i ac0).b := by
  obtain ⟨a, len, cap, rfl⟩ := okWide_slice Try.underlying22 hv
  obtain ⟨fuel, hf⟩ := h
  simp only [Value.cells] at hf
  rcases open_structs Try.underlying22 Try.underlying38 (by kernel_rfl) (by kernel_rfl) hf with h1 | ⟨ad, len', cap', h1, h2, h3, h4⟩
  · simp at h1
    obtain ⟨rfl, rfl, rfl⟩ := h1
    exact ⟨none, 0, [], rfl, .inl rfl, Nat.le_refl _, by omega, fun i hi => by simp at hi⟩
  · simp at h1
    obtain ⟨rfl, rfl, rfl⟩ := h1
    by_cases h0 : len = 0
    · subst h0
      exact ⟨some ad, cap, [], rfl, .inl rfl, by omega, h3, fun i hi => by simp at hi⟩
    · obtain ⟨u, _, _, hu, _⟩ := h4 0 (by omega) 0 _ rfl
      obtain ⟨b, o, rfl⟩ := addr_plain hu (by simp)
      obtain ⟨fs, hl, hq⟩ := list_of ac0 (fun i f => (W.cell? ⟨b, o + i * 4, none⟩ = some (.int .i64 f.kind) ∧ W.cell? ⟨b, o + i * 4 + 1, none⟩ = some (.int .i64 f.a) ∧ W.cell? ⟨b, o + i * 4 + 2, none⟩ = some (.int .i64 f.b) ∧
          ∃ Ai ci, W.cell? ⟨b, o + i * 4 + 3, none⟩ = some (.slice Ai f.bytes.length ci) ∧ By W Ai f.bytes) ∧ I64 f.a ∧ I64 f.b) len (fun i hi => by
        obtain ⟨u0, y0, n0, k0, t0⟩ := h4 i hi 0 _ rfl
        obtain ⟨u1, y1, n1, k1, t1⟩ := h4 i hi 1 _ rfl
        obtain ⟨u2, y2, n2, k2, t2⟩ := h4 i hi 2 _ rfl
        obtain ⟨u3, y3, n3, k3, t3⟩ := h4 i hi 3 _ rfl
        obtain ⟨z0, e0, _, w0⟩ := DataW.trod_int Try.underlying3 t0
        obtain ⟨z1, e1, _, w1⟩ := DataW.trod_int Try.underlying3 t1
        obtain ⟨z2, e2, _, w2⟩ := DataW.trod_int Try.underlying3 t2
        obtain ⟨A3, c3, l3, rfl, hb, hc, hc'⟩ := trod_bytes t3
        simp only [List.cons.injEq, and_true] at e0 e1 e2
        subst e0 e1 e2
        rw [add_at] at k0 k1 k2 k3
        have hb1 := bounds_i64 w1
        have hb2 := bounds_i64 w2
        refine ⟨⟨z0, z1, z2, l3⟩, ⟨k0, ?_, ?_, A3, c3, ?_, hb⟩, ⟨hb1.1, hb1.2⟩, hb2.1, hb2.2⟩
        · rw [Nat.add_assoc]; exact k1
        · rw [Nat.add_assoc]; exact k2
        · rw [Nat.add_assoc]; exact k3)
      refine ⟨some ⟨b, o, none⟩, cap, fs, by rw [hl], .inr ⟨b, o, rfl, fun i hi => (hq i (by omega)).1⟩, by rw [hl]; exact h2, h3, fun i hi => (hq i (by omega)).2⟩

end Go.Proofs.Ytahooohokdbnpaa
