
/-
  An argument of type []Step.
-/
import Derived.Test.YtgbfeagoadlhmaaLaw
import Derived.Test.YtgbfeagoadlhmaaStp
set_option linter.unusedVariables false
set_option maxRecDepth 100000
set_option linter.unusedSimpArgs false
namespace Go.Proofs.Ytgbfeagoadlhmaa
open Go.ChangeShapes Go.WideShapes Go.ChangeAt Go.RowKit

theorem open_stps {H : Type} {enc : TypeId × Value → H} {W : World} {base : Nat} {v : Value} {d : DataW H} {p : List MemPlace} (hv : Value.okWide Try.prog W .any base 38 v)
    (h : DataW.Trod enc Try.prog W 0 (fun _ => true) true 38 v d p) :
    ∃ A c fs, v = .slice A fs.length c ∧ Stps W A fs ∧ fs.length ≤ c ∧ c ≤ 9223372036854775807 ∧ ∀ i, i < fs.length → -9223372036854775808 ≤ (fs.getD i stp0).n ∧ (fs.getD i stp0).n ≤ 9223372036854775807 ∧ (fs.getD i stp0).lsn < 18446744073709551616 := by
  obtain ⟨a, len, cap, rfl⟩ := okWide_slice Try.underlying38 hv
  obtain ⟨fuel, hf⟩ := h
  simp only [Value.cells] at hf
  rcases open_structs Try.underlying38 Try.underlying45 (by kernel_rfl) (by kernel_rfl) hf with h1 | ⟨ad, len', cap', h1, h2, h3, h4⟩
  · simp at h1
    obtain ⟨rfl, rfl, rfl⟩ := h1
    exact ⟨none, 0, [], rfl, .inl rfl, Nat.le_refl _, by omega, fun i hi => by simp at hi⟩
  · simp at h1
    obtain ⟨rfl, rfl, rfl⟩ := h1
    by_cases h0 : len = 0
    · subst h0
      exact ⟨some ad, cap, [], rfl, .inl rfl, by omega, h3, fun i hi => by simp at hi⟩
    · obtain ⟨u, _, _, hu, _⟩ := h4 0 (by omega) 0 _ rfl
      obtain ⟨b, o, rfl⟩ := addr_plain hu (by simp)
      obtain ⟨fs, hl, hq⟩ := list_of stp0 (fun i f => (W.cell? ⟨b, o + i * 5, none⟩ = some (.int .i64 f.kind) ∧ W.cell? ⟨b, o + i * 5 + 1, none⟩ = some (.int .i64 f.n) ∧
          (∃ Ai ci, W.cell? ⟨b, o + i * 5 + 2, none⟩ = some (.slice Ai f.b.length ci) ∧ By W Ai f.b ∧ f.b.length ≤ ci ∧ ci ≤ 9223372036854775807) ∧
          W.cell? ⟨b, o + i * 5 + 3, none⟩ = some (.int .u8 (f.by_.toNat : Int)) ∧ W.cell? ⟨b, o + i * 5 + 4, none⟩ = some (.int .u64 (f.lsn : Int))) ∧ -9223372036854775808 ≤ f.n ∧ f.n ≤ 9223372036854775807 ∧ f.lsn < 18446744073709551616) len (fun i hi => by
        obtain ⟨u0, y0, n0, k0, t0⟩ := h4 i hi 0 _ rfl
        obtain ⟨u1, y1, n1, k1, t1⟩ := h4 i hi 1 _ rfl
        obtain ⟨u2, y2, n2, k2, t2⟩ := h4 i hi 2 _ rfl
        obtain ⟨u3, y3, n3, k3, t3⟩ := h4 i hi 3 _ rfl
        obtain ⟨u4, y4, n4, k4, t4⟩ := h4 i hi 4 _ rfl
        obtain ⟨z0, e0, _, w0⟩ := DataW.trod_int Try.underlying3 t0
        obtain ⟨z1, e1, _, w1⟩ := DataW.trod_int Try.underlying3 t1
        obtain ⟨A2, c2, l2, rfl, hb, hc, hc'⟩ := trod_bytes t2
        obtain ⟨z3, e3, _, w3⟩ := DataW.trod_int Try.underlying5 t3
        obtain ⟨z4, e4, _, w4⟩ := DataW.trod_int Try.underlying39 t4
        simp only [List.cons.injEq, and_true] at e0 e1 e3 e4
        subst e0 e1 e3 e4
        rw [add_at] at k0 k1 k2 k3 k4
        have hb1 := bounds_i64 w1
        have hb3 := wf_byte w3
        have hb4 := bounds_u64 w4
        obtain ⟨m, rfl⟩ := Int.eq_ofNat_of_zero_le hb4.1
        obtain ⟨y, rfl⟩ := Int.eq_ofNat_of_zero_le hb3.1
        have hy : (UInt8.ofNat y).toNat = y := by rw [UInt8.toNat_ofNat']; have := hb3.2; omega
        refine ⟨⟨z0, z1, l2, UInt8.ofNat y, m⟩, ⟨k0, ?_, ⟨A2, c2, ?_, hb, hc, hc'⟩, ?_, ?_⟩, hb1.1, hb1.2, by have := hb4.2; show m < _; omega⟩
        · rw [Nat.add_assoc]; exact k1
        · rw [Nat.add_assoc]; exact k2
        · rw [Nat.add_assoc]; show _ = some (Value.int .u8 ((UInt8.ofNat y).toNat : Int)); rw [hy]; exact k3
        · rw [Nat.add_assoc]; exact k4)
      refine ⟨some ⟨b, o, none⟩, cap, fs, by rw [hl], .inr ⟨b, o, rfl, fun i hi => (hq i (by omega)).1⟩, by rw [hl]; exact h2, h3, fun i hi => (hq i (by omega)).2⟩

end Go.Proofs.Ytgbfeagoadlhmaa
