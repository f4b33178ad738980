
/-
  PageDiffsSaid: for any two pages the law PageDiffs returns true, and its arguments read as before. No condition.
-/
import Derived.Test.YtgbfeagoadlhmaaLawP
import Derived.Test.YtgbfeagoadlhmaaDiffs
set_option linter.unusedVariables false
namespace Go.Proofs.Ytgbfeagoadlhmaa
open Go.ChangeShapes Go.WideShapes Go.ChangeAt Go.RowKit

set_option maxRecDepth 100000 in
theorem diffs_lifted (os : Os) (started : os.Started) (H : Type) (enc : TypeId × Value → H) :
    ReturnsInHanded {} Try.checked os 3 .any (Rows.pageDiffsSpec.pre6 enc Try.prog Try.f3 Rows.pageDiffsRow.domain false) (Rows.pageDiffsSpec.post enc Try.prog Try.f3 false true false false) := by
  refine returnsInHanded_of_change (C := Try.checked) Try.own started (by kernel_rfl) Try.func3
    (witness_pages #[zpg, zpg] [zpd, zpd] (by kernel_rfl) (by kernel_rfl) (by kernel_rfl) Try.func3 rfl rfl rfl rfl (fun W j t v h1 h2 => by
      rw [Try.params3] at h1
      match j, h1, h2 with
      | 0, h1, h2 => cases h1; cases h2; exact zpg_ok _ _ _
      | 1, h1, h2 => cases h1; cases h2; exact zpg_ok _ _ _
      | k + 2, h1, h2 => simp at h1) rfl (fun W => by
      rw [Try.params3]
      exact ⟨[], [], zpg_trod W, ⟨[], [], zpg_trod W, rfl, rfl⟩, rfl⟩) (by kernel_rfl) (by
      rw [Try.params3]
      show zpd.weights _ _ ++ (zpd.weights _ _ ++ []) = []
      rw [show zpd.weights Try.checked.prog 23 = [] from zpd_weights]
      rfl)) ?_
  intro W base args ds gs before hval0 hW hcnd _
  have hval : ∀ (j : Nat) t v, Try.f3.params[j]? = some t → args[j]? = some v → Value.okWide Try.prog W .any base t v := hval0
  have hW' : DataW.Whole enc Try.prog Try.f3.params.toList Rows.pageDiffsSpec.vars false W args.toList ds gs before := hW
  obtain ⟨p, q, hA0, hV, rfl, hfz, hnd⟩ := hW
  have hA : DataW.TrodAll enc Try.prog W 0 (fun _ => true) true Try.f3.params.toList args.toList ds p := hA0
  rw [Try.params3] at hA hval
  obtain ⟨v0, vs0, d0, ds0, p0, q0, hargs0, rfl, rfl, h0, r0⟩ := trodAll_cons hA
  obtain ⟨v1, vs1, d1, ds1, p1, q1, hargs1, rfl, rfl, h1, r1⟩ := trodAll_cons r0
  obtain ⟨rfl, rfl, rfl⟩ := trodAll_nil r1
  obtain rfl : args = #[v0, v1] := by cases args; simp_all
  clear hA0 hval0
  obtain ⟨P0, hp0, rfl⟩ := open_page (hval 0 23 v0 rfl rfl) h0
  obtain ⟨P1, hp1, rfl⟩ := open_page (hval 1 23 v1 rfl rfl) h1
  refine (diffs_any W P0 P1 hp0 hp1).mono fun e W' ⟨he, hE⟩ => ?_
  exact ⟨_, he, law_post Try.laidOut (by kernel_rfl) rfl rfl Try.underlying4 ⟨rfl, rfl, rfl⟩ hW' hE⟩

theorem diffs_holds : Rows.PageDiffsSaid :=
  OpenClaim.holds_of_wide 3 Try.f3 rfl rfl rfl rfl rfl rfl rfl ⟨rfl, rfl, rfl, rfl, rfl⟩ rfl rfl rfl rfl rfl (by kernel_rfl) Try.func3 (by kernel_rfl)
    (of_decide_eq_true (by kernel_rfl)) (by unfold Func.isWrapper; first | (rw [if_pos (by decide +kernel)]; kernel_rfl) | (rw [if_neg (by decide +kernel)]; exact ⟨rfl, rfl⟩))
    (fun os started H enc _ => diffs_lifted os started H enc)

end Go.Proofs.Ytgbfeagoadlhmaa
#print axioms Go.Proofs.Ytgbfeagoadlhmaa.diffs_holds
