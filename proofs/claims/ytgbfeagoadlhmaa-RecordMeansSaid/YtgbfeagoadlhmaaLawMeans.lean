
/-
  RecordMeansSaid: for any record, any two places, any bytes behind and any three bits the law RecordMeans returns true, and its arguments read as before. No condition.
-/
import Derived.Test.YtgbfeagoadlhmaaLaw
import Derived.Test.YtgbfeagoadlhmaaLawRec
import Derived.Test.YtgbfeagoadlhmaaRecR
set_option linter.unusedVariables false
set_option linter.unusedSimpArgs false
namespace Go.Proofs.Ytgbfeagoadlhmaa
open Go.ChangeShapes Go.WideShapes Go.ChangeAt Go.RowKit

theorem okWide_arr5 {P : Program} {W : World} {r : Reach} {b0 n : Nat} {t e : TypeId} {v : Value} (ht : P.underlying t = some (.array n e)) (h : Value.okWide P W r b0 t v) : ∃ xs : Array Value, v = .agg xs := by
  simp only [Value.okWide, ht] at h
  obtain ⟨cs, h1, _⟩ := h
  exact ⟨cs, h1⟩

/-- an array of whole numbers, opened -/
theorem open_arr_ints {H : Type} {enc : TypeId × Value → H} {P : Program} {W : World} {r : Reach} {base n : Nat} {t e : TypeId} {k : IntKind} {v : Value} {d : DataW H} {p : List MemPlace} (ht : P.underlying t = some (.array n e)) (he : P.underlying e = some (.int k)) (hc : P.cellsOf e = 1) (hn : P.cellsOf t = n)
    (hv : Value.okWide P W r base t v) (h : DataW.Trod enc P W 0 (fun _ => true) true t v d p) : ∃ zs : List Int, zs.length = n ∧ v = .agg (zs.map (Value.int k)).toArray ∧ ∀ z ∈ zs, (Lit.int k z).wf = true := by
  obtain ⟨cs, rfl⟩ := okWide_arr5 ht hv
  obtain ⟨fuel, hf⟩ := h
  obtain ⟨xs, m, _, _, hl, hx, hi⟩ := DataW.trod_array ht hf
  simp only [Value.cells] at hl hi
  rw [hn] at hl
  rw [hc] at hi
  obtain ⟨zs, hzl, hz⟩ := list_of (0 : Int) (fun i z => cs[i]? = some (.int k z) ∧ (Lit.int k z).wf = true) n (fun i hin => by
    have h1 := hi i hin
    rw [List.getElem?_eq_getElem (by omega)] at h1
    obtain ⟨z, h2, _, h3⟩ := DataW.trod_int he h1
    refine ⟨z, ?_, h3⟩
    rw [Nat.mul_one, List.drop_eq_getElem_cons (by omega)] at h2
    simp only [List.take_succ_cons, List.take_zero, List.cons.injEq, and_true] at h2
    rw [← Array.getElem?_toList, List.getElem?_eq_getElem (by omega), h2])
  refine ⟨zs, hzl, ?_, ?_⟩
  · congr 1
    apply Array.ext
    · simp; rw [← Array.length_toList]; omega
    · intro i h1 h2
      simp at h2
      have h3 := (hz i (by omega)).1
      rw [Array.getElem?_eq_getElem h1] at h3
      simp only [Option.some.injEq] at h3
      rw [h3]
      simp [List.getD_eq_getElem?_getD, h2]
  · intro z hzm
    obtain ⟨i, hi2, rfl⟩ := List.getElem_of_mem hzm
    have := (hz i (by omega)).2
    simpa [List.getD_eq_getElem?_getD, hi2] using this

theorem three_ofM : ∀ {zs : List Int}, zs.length = 3 → ∃ x y z : Int, zs = [x, y, z]
  | [x, y, z], _ => ⟨x, y, z, rfl⟩

set_option maxRecDepth 100000 in
theorem means_lifted (os : Os) (started : os.Started) (H : Type) (enc : TypeId × Value → H) :
    ReturnsInHanded {} Try.checked os 9 .any (Rows.recordMeansSpec.pre6 enc Try.prog Try.f9 Rows.recordMeansRow.domain false) (Rows.recordMeansSpec.post enc Try.prog Try.f9 false true false false) := by
  refine returnsInHanded_of_change (C := Try.checked) Try.own started (by kernel_rfl) Try.func9
    (ChangeSpec.witness6 (enc := enc) (C := Try.checked) false ⟨#[], #[.agg #[.int .i64 0, .int .u64 0, .int .i64 0, .int .i64 0, .slice none 0 0, .slice none 0 0, .int .u64 0, .int .u64 0, .int .u64 0], .int .u64 0, .int .u64 0, .slice none 0 0, .agg #[.int .i64 0, .int .i64 0, .int .i64 0]], []⟩ 8 (by kernel_rfl) (by kernel_rfl) (by kernel_rfl) (by kernel_rfl)) ?_
  intro W base args ds gs before hval0 hW hcnd _
  have hval : ∀ (j : Nat) t v, Try.f9.params[j]? = some t → args[j]? = some v → Value.okWide Try.prog W .any base t v := hval0
  have hW' : DataW.Whole enc Try.prog Try.f9.params.toList Rows.recordMeansSpec.vars false W args.toList ds gs before := hW
  obtain ⟨p, q, hA0, hV, rfl, hfz, hnd⟩ := hW
  have hA : DataW.TrodAll enc Try.prog W 0 (fun _ => true) true Try.f9.params.toList args.toList ds p := hA0
  rw [Try.params9] at hA hval
  obtain ⟨v0, vs0, d0, ds0, p0, q0, hargs0, rfl, rfl, h0, r0⟩ := trodAll_cons hA
  obtain ⟨v1, vs1, d1, ds1, p1, q1, hargs1, rfl, rfl, h1, r1⟩ := trodAll_cons r0
  obtain ⟨v2, vs2, d2, ds2, p2, q2, hargs2, rfl, rfl, h2, r2⟩ := trodAll_cons r1
  obtain ⟨v3, vs3, d3, ds3, p3, q3, hargs3, rfl, rfl, h3, r3⟩ := trodAll_cons r2
  obtain ⟨v4, vs4, d4, ds4, p4, q4, hargs4, rfl, rfl, h4, r4⟩ := trodAll_cons r3
  obtain ⟨rfl, rfl, rfl⟩ := trodAll_nil r4
  obtain rfl : args = #[v0, v1, v2, v3, v4] := by cases args; simp_all
  clear hA0 hval0
  obtain ⟨r, A, ca, S, cs, rfl, hA1, hS1, hR⟩ := open_rec (hval 0 65 v0 rfl rfl) h0
  obtain ⟨n1, rfl, rfl, rfl, wn1⟩ := open_int Try.underlying39 (hval 1 39 v1 rfl rfl) h1
  obtain ⟨n2, rfl, rfl, rfl, wn2⟩ := open_int Try.underlying39 (hval 2 39 v2 rfl rfl) h2
  obtain ⟨Bh, cb, beh, rfl, hBh, hcb, hcb'⟩ := open_bytes (hval 3 24 v3 rfl rfl) h3
  obtain ⟨zs, hzl, rfl, hzw⟩ := open_arr_ints (n := 3) (e := 3) (k := .i64) (by kernel_rfl) Try.underlying3 (by kernel_rfl) (by kernel_rfl) (hval 4 40 v4 rfl rfl) h4
  have hb1 := bounds_u64 wn1
  have hb2 := bounds_u64 wn2
  obtain ⟨pl, rfl⟩ : ∃ m : Nat, n1 = (m : Int) := ⟨n1.toNat, by omega⟩
  obtain ⟨ot, rfl⟩ : ∃ m : Nat, n2 = (m : Int) := ⟨n2.toNat, by omega⟩
  obtain ⟨z0, z1, z2, rfl⟩ := three_ofM hzl
  obtain ⟨hca, _, _, hk, hx, hnx, hrd, htl, hsu⟩ := hR
  refine (means_law W r A S ca cs pl ot Bh beh cb z0 z1 z2 hA1 hS1 hBh hcb hca (by omega) (by omega) hk hx hnx hrd htl hsu).mono fun e W' ⟨he, hE⟩ => ?_
  exact ⟨_, he, law_post Try.laidOut (by kernel_rfl) rfl rfl Try.underlying4 ⟨rfl, rfl, rfl⟩ hW' hE⟩

theorem means_holds : Rows.RecordMeansSaid :=
  OpenClaim.holds_of_wide 9 Try.f9 rfl rfl rfl rfl rfl rfl rfl ⟨rfl, rfl, rfl, rfl, rfl⟩ rfl rfl rfl rfl rfl (by kernel_rfl) Try.func9 (by kernel_rfl)
    (of_decide_eq_true (by kernel_rfl)) (by unfold Func.isWrapper; first | (rw [if_pos (by decide +kernel)]; kernel_rfl) | (rw [if_neg (by decide +kernel)]; exact ⟨rfl, rfl⟩))
    (fun os started H enc _ => means_lifted os started H enc)

end Go.Proofs.Ytgbfeagoadlhmaa
#print axioms Go.Proofs.Ytgbfeagoadlhmaa.means_holds
