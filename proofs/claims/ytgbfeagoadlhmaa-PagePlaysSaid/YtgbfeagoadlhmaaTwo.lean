
/-
  A drawn region at a place where either of two operations may come up. Over any program.
-/
import Derived.Test.YtgbfeagoadlhmaaEager
set_option linter.unusedVariables false
set_option linter.unusedSimpArgs false
namespace Go.Proofs.Ytgbfeagoadlhmaa
open Go.RowKit

section
variable {P : Program} {ops : Array Oper} {Q : Exit → Act → World → Prop} {R : World → World → Prop}

theorem Eg.one (hR : Pre R) {i : Nat} {o : Oper} {n : Nat} {l : List Nat} {a : Act} {w w0 : World} (hw0 : R w0 w) (hi : ops[i]? = some o)
    (h : wpList P ops (Exit.then (fun a' w' => R w w' ∧ Eg P ops Q R n (l ++ [i]) a' w') Q) [o] a w) :
    wpOp P ops Q i (fun a' w' => R w0 w' ∧ wpAnyH P .any ops Q (R w0) n ((done ops.size l).setIfInBounds i true) a' w') a w := by
  unfold wpList at h
  unfold wpOp
  simp only [hi]
  have fin : ∀ a' w', (R w w' ∧ Eg P ops Q R n (l ++ [i]) a' w') → R w0 w' ∧ wpAnyH P .any ops Q (R w0) n ((done ops.size l).setIfInBounds i true) a' w' := fun a' w' h => by
    have h2 := hR.trans hw0 h.1
    have h3 := h.2 w0 h2
    rw [done_snoc] at h3
    exact ⟨h2, h3⟩
  by_cases hw : Region.wanted o (yielded ops a.tmps) = true
  · rw [if_pos hw] at h ⊢
    rcases h with h | ⟨h, a1, w1, h2⟩
    · exact .inl (Oper.wp_mono (fun a' w' h' => fin a' w' h') (Oper.wp_then h))
    · exact .inr ⟨h, a1, w1, h2⟩
  · rw [if_neg hw] at h ⊢
    exact fin _ _ h
theorem Eg.two (hR : Pre R) {i j : Nat} {oi oj : Oper} {n : Nat} {l : List Nat} {a : Act} {w : World} (hi : ops[i]? = some oi) (hj : ops[j]? = some oj) (hr : Region.ready .any ops (done ops.size l) = [i, j])
    (h1 : wpList P ops (Exit.then (fun a' w' => R w w' ∧ Eg P ops Q R n (l ++ [i]) a' w') Q) [oi] a w)
    (h2 : wpList P ops (Exit.then (fun a' w' => R w w' ∧ Eg P ops Q R n (l ++ [j]) a' w') Q) [oj] a w) : Eg P ops Q R (n + 1) l a w := by
  intro w0 hw0
  refine wpAnyH_all hr (by simp) fun k hk => ?_
  rcases List.mem_cons.1 hk with rfl | hk
  · exact Eg.one hR hw0 hi h1
  · obtain rfl : k = j := by simpa using hk
    exact Eg.one hR hw0 hj h2
end

theorem grow_pre (g : Nat) : Pre (fun w w' : World => w.grownBy w' (some g)) := ⟨fun w => World.grownBy.refl w _, fun h k => h.trans k⟩

end Go.Proofs.Ytgbfeagoadlhmaa
