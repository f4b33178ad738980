
/-
  A record as an argument, opened.
-/
import Derived.Test.YtgbfeagoadlhmaaLaw
import Derived.Test.YtgbfeagoadlhmaaRecG
set_option linter.unusedVariables false
namespace Go.Proofs.Ytgbfeagoadlhmaa
open Go.ChangeShapes Go.WideShapes Go.ChangeAt Go.RowKit

/-- numbers of 64 bits, read at a cell -/
theorem trod_nums {H : Type} {enc : TypeId × Value → H} {W : World} {fuel : Nat} {v : Value} {x : DataW H × List MemPlace}
    (hf : DataW.trod enc Try.prog W 0 (fun _ => true) true fuel 63 [v] = some x) : ∃ A c l, v = .slice A l.length c ∧ Nums W A l ∧ l.length ≤ c ∧ c ≤ 9223372036854775807 ∧ (∀ i, i < l.length → l.getD i 0 < 18446744073709551616) ∧ c ≤ maxLen := by
  rcases open_ints Try.underlying63 Try.underlying39 (by kernel_rfl) hf with ⟨h1, h2⟩ | ⟨ad, len, cap, zs, h1, h2, h3, h4, h5, h6, h7, h8⟩
  · simp at h1
    subst h1
    exact ⟨none, 0, [], rfl, .inl rfl, Nat.le_refl _, by omega, fun i hi => by simp at hi, by unfold maxLen; omega⟩
  · simp at h1
    subst h1
    simp only [if_true] at h5
    have hl : ((zs.take len).map Int.toNat).length = len := by simp; omega
    have hw : ∀ i, i < len → 0 ≤ zs.getD i 0 ∧ zs.getD i 0 ≤ 18446744073709551615 := fun i hi => by
      have hz : i < zs.length := by omega
      have := bounds_u64 (h8 zs[i] (List.getElem_mem hz))
      simpa [List.getD_eq_getElem?_getD, hz] using this
    refine ⟨some ad, cap, (zs.take len).map Int.toNat, by rw [hl], ?_, by rw [hl]; exact h3, by unfold maxLen at h4; omega, fun i hi => ?_, h4⟩
    · by_cases h0 : len = 0
      · left
        exact List.eq_nil_of_length_eq_zero (by rw [hl]; exact h0)
      · obtain ⟨b, off, rfl, hc⟩ := ints_at h7 (by omega)
        refine .inr ⟨b, off, rfl, fun i hi => ?_⟩
        rw [hl] at hi
        rw [hc i (by omega)]
        have h9 := hw i hi
        have hz : i < zs.length := by omega
        have e : ((zs.take len).map Int.toNat).getD i 0 = (zs.getD i 0).toNat := by simp [List.getD_eq_getElem?_getD, hi, hz]
        rw [e]
        congr 2
        simp [List.getD_eq_getElem?_getD, hz] at h9 ⊢
        omega
    · rw [hl] at hi
      have h9 := hw i hi
      have hz : i < zs.length := by omega
      have e : ((zs.take len).map Int.toNat).getD i 0 = (zs.getD i 0).toNat := by simp [List.getD_eq_getElem?_getD, hi, hz]
      rw [e]
      omega

set_option maxHeartbeats 1000000 in
set_option maxRecDepth 100000 in
theorem open_rec {H : Type} {enc : TypeId × Value → H} {W : World} {base : Nat} {v : Value} {d : DataW H} {p : List MemPlace} (hv : Value.okWide Try.prog W .any base 65 v)
    (h : DataW.Trod enc Try.prog W 0 (fun _ => true) true 65 v d p) :
    ∃ r A ca S cs, v = .agg (recC r A ca S cs) ∧ By W A r.b ∧ Nums W S r.subs ∧ r.b.length ≤ ca ∧ r.subs.length ≤ cs ∧ ca ≤ 9223372036854775807 ∧ (-9223372036854775808 ≤ r.kind ∧ r.kind ≤ 9223372036854775807) ∧ r.xid < 18446744073709551616 ∧ r.next < 18446744073709551616 ∧ r.redo < 18446744073709551616 ∧ r.tml < 18446744073709551616 ∧ (∀ i, i < r.subs.length → r.subs.getD i 0 < 18446744073709551616) := by
  obtain ⟨cs, rfl, hsz⟩ := okWide_struct Try.underlying65 hv
  obtain ⟨fuel, hf⟩ := h
  obtain ⟨ys, n, _, _, hlen, hyl, hf⟩ := DataW.trod_struct Try.underlying65 hf
  have h9 : Try.prog.cellsOf 65 = 9 := by kernel_rfl
  rw [h9] at hsz
  obtain ⟨l⟩ := cs
  have k0 : Try.prog.cellsOf 62 = 1 := by kernel_rfl
  have k1 : Try.prog.cellsOf 39 = 1 := by kernel_rfl
  have k2 : Try.prog.cellsOf 3 = 1 := by kernel_rfl
  have k4 : Try.prog.cellsOf 24 = 1 := by kernel_rfl
  have k5 : Try.prog.cellsOf 63 = 1 := by kernel_rfl
  match l, hsz, ys, hyl with
  | [u0, u1, u2, u3, u4, u5, u6, u7, u8], _, [y0, y1, y2, y3, y4, y5, y6, y7, y8], _ =>
    have t0 : DataW.trod enc Try.prog W 0 (fun _ => true) true n 62 (([u0, u1, u2, u3, u4, u5, u6, u7, u8].drop 0).take (Try.prog.cellsOf 62)) = some y0 := hf 0 _ rfl
    have t1 : DataW.trod enc Try.prog W 0 (fun _ => true) true n 39 (([u0, u1, u2, u3, u4, u5, u6, u7, u8].drop 1).take (Try.prog.cellsOf 39)) = some y1 := hf 1 _ rfl
    have t2 : DataW.trod enc Try.prog W 0 (fun _ => true) true n 3 (([u0, u1, u2, u3, u4, u5, u6, u7, u8].drop 2).take (Try.prog.cellsOf 3)) = some y2 := hf 2 _ rfl
    have t3 : DataW.trod enc Try.prog W 0 (fun _ => true) true n 3 (([u0, u1, u2, u3, u4, u5, u6, u7, u8].drop 3).take (Try.prog.cellsOf 3)) = some y3 := hf 3 _ rfl
    have t4 : DataW.trod enc Try.prog W 0 (fun _ => true) true n 24 (([u0, u1, u2, u3, u4, u5, u6, u7, u8].drop 4).take (Try.prog.cellsOf 24)) = some y4 := hf 4 _ rfl
    have t5 : DataW.trod enc Try.prog W 0 (fun _ => true) true n 63 (([u0, u1, u2, u3, u4, u5, u6, u7, u8].drop 5).take (Try.prog.cellsOf 63)) = some y5 := hf 5 _ rfl
    have t6 : DataW.trod enc Try.prog W 0 (fun _ => true) true n 39 (([u0, u1, u2, u3, u4, u5, u6, u7, u8].drop 6).take (Try.prog.cellsOf 39)) = some y6 := hf 6 _ rfl
    have t7 : DataW.trod enc Try.prog W 0 (fun _ => true) true n 39 (([u0, u1, u2, u3, u4, u5, u6, u7, u8].drop 7).take (Try.prog.cellsOf 39)) = some y7 := hf 7 _ rfl
    have t8 : DataW.trod enc Try.prog W 0 (fun _ => true) true n 39 (([u0, u1, u2, u3, u4, u5, u6, u7, u8].drop 8).take (Try.prog.cellsOf 39)) = some y8 := hf 8 _ rfl
    rw [k0] at t0
    rw [k1] at t1 t6 t7 t8
    rw [k2] at t2 t3
    rw [k4] at t4
    rw [k5] at t5
    simp only [List.drop_zero, List.drop_succ_cons, List.take_succ_cons, List.take_zero] at t0 t1 t2 t3 t4 t5 t6 t7 t8
    obtain ⟨z0, e0, _, w0⟩ := DataW.trod_int Try.underlying62 t0
    obtain ⟨z1, e1, _, w1⟩ := DataW.trod_int Try.underlying39 t1
    obtain ⟨z2, e2, _, w2⟩ := DataW.trod_int Try.underlying3 t2
    obtain ⟨z3, e3, _, w3⟩ := DataW.trod_int Try.underlying3 t3
    obtain ⟨A4, c4, l4, rfl, hb, hc, hc'⟩ := trod_bytes t4
    obtain ⟨A5, c5, l5, rfl, hN, hd, hd', hw, _⟩ := trod_nums t5
    obtain ⟨z6, e6, _, w6⟩ := DataW.trod_int Try.underlying39 t6
    obtain ⟨z7, e7, _, w7⟩ := DataW.trod_int Try.underlying39 t7
    obtain ⟨z8, e8, _, w8⟩ := DataW.trod_int Try.underlying39 t8
    simp only [List.cons.injEq, and_true] at e0 e1 e2 e3 e6 e7 e8
    subst e0 e1 e2 e3 e6 e7 e8
    have hb0 := bounds_i64 w0
    have hb1 := bounds_u64 w1
    have hb6 := bounds_u64 w6
    have hb7 := bounds_u64 w7
    have hb8 := bounds_u64 w8
    obtain ⟨n1, rfl⟩ : ∃ m : Nat, z1 = (m : Int) := ⟨z1.toNat, by omega⟩
    obtain ⟨n6, rfl⟩ : ∃ m : Nat, z6 = (m : Int) := ⟨z6.toNat, by omega⟩
    obtain ⟨n7, rfl⟩ : ∃ m : Nat, z7 = (m : Int) := ⟨z7.toNat, by omega⟩
    obtain ⟨n8, rfl⟩ : ∃ m : Nat, z8 = (m : Int) := ⟨z8.toNat, by omega⟩
    exact ⟨⟨z0, n1, z2, z3, l4, l5, n6, n7, n8⟩, A4, c4, A5, c5, rfl, hb, hN, hc, hd, hc', hb0, by simp only; omega, by simp only; omega, by simp only; omega, by simp only; omega, hw⟩

end Go.Proofs.Ytgbfeagoadlhmaa
