
/-
  PagePacksSaid: for any page the law PagePacks returns true, and its argument reads as before. No condition.
-/
import Derived.Test.YtgbfeagoadlhmaaLawP
import Derived.Test.YtgbfeagoadlhmaaPacks
set_option linter.unusedVariables false
namespace Go.Proofs.Ytgbfeagoadlhmaa
open Go.ChangeShapes Go.WideShapes Go.ChangeAt Go.RowKit

set_option maxRecDepth 100000 in
theorem packs_lifted (os : Os) (started : os.Started) (H : Type) (enc : TypeId × Value → H) :
    ReturnsInHanded {} Try.checked os 4 .any (Rows.pagePacksSpec.pre6 enc Try.prog Try.f4 Rows.pagePacksRow.domain false) (Rows.pagePacksSpec.post enc Try.prog Try.f4 false true false false) := by
  refine returnsInHanded_of_change (C := Try.checked) Try.own started (by kernel_rfl) Try.func4
    (witness_pages #[zpg] [zpd] (by kernel_rfl) (by kernel_rfl) (by kernel_rfl) Try.func4 rfl rfl rfl rfl (fun W j t v h1 h2 => by
      rw [Try.params4] at h1
      match j, h1, h2 with
      | 0, h1, h2 => cases h1; cases h2; exact zpg_ok _ _ _
      | k + 1, h1, h2 => simp at h1) rfl (fun W => by
      rw [Try.params4]
      exact ⟨[], [], zpg_trod W, rfl, rfl⟩) (by kernel_rfl) (by
      rw [Try.params4]
      show zpd.weights _ _ ++ [] = []
      rw [show zpd.weights Try.checked.prog 23 = [] from zpd_weights]
      rfl)) ?_
  intro W base args ds gs before hval0 hW hcnd _
  have hval : ∀ (j : Nat) t v, Try.f4.params[j]? = some t → args[j]? = some v → Value.okWide Try.prog W .any base t v := hval0
  have hW' : DataW.Whole enc Try.prog Try.f4.params.toList Rows.pagePacksSpec.vars false W args.toList ds gs before := hW
  obtain ⟨p, q, hA0, hV, rfl, hfz, hnd⟩ := hW
  have hA : DataW.TrodAll enc Try.prog W 0 (fun _ => true) true Try.f4.params.toList args.toList ds p := hA0
  rw [Try.params4] at hA hval
  obtain ⟨v0, vs0, d0, ds0, p0, q0, hargs0, rfl, rfl, h0, r0⟩ := trodAll_cons hA
  obtain ⟨rfl, rfl, rfl⟩ := trodAll_nil r0
  obtain rfl : args = #[v0] := by cases args; simp_all
  clear hA0 hval0
  obtain ⟨P0, hp0, rfl⟩ := open_page (hval 0 23 v0 rfl rfl) h0
  refine (packs_any W P0 hp0).mono fun e W' ⟨he, hE⟩ => ?_
  exact ⟨_, he, law_post Try.laidOut (by kernel_rfl) rfl rfl Try.underlying4 ⟨rfl, rfl, rfl⟩ hW' hE⟩

theorem packs_holds : Rows.PagePacksSaid :=
  OpenClaim.holds_of_wide 4 Try.f4 rfl rfl rfl rfl rfl rfl rfl ⟨rfl, rfl, rfl, rfl, rfl⟩ rfl rfl rfl rfl rfl (by kernel_rfl) Try.func4 (by kernel_rfl)
    (of_decide_eq_true (by kernel_rfl)) (by unfold Func.isWrapper; first | (rw [if_pos (by decide +kernel)]; kernel_rfl) | (rw [if_neg (by decide +kernel)]; exact ⟨rfl, rfl⟩))
    (fun os started H enc _ => packs_lifted os started H enc)

end Go.Proofs.Ytgbfeagoadlhmaa
#print axioms Go.Proofs.Ytgbfeagoadlhmaa.packs_holds
