
/-
  Contract of law04.flights.
-/
import Derived.Test.YtahooohokdbnpaaNetK
import Derived.Maps.OwnIn
set_option linter.unusedVariables false
set_option linter.unusedSimpArgs false
namespace Go.Proofs.Ytahooohokdbnpaa
open Go.RowKit Go.Shelf Go.Maps Pl

attribute [local go_sem] Oper.semAt_some

theorem nil_closure (t : TypeId) (ht : ((Try.prog.underlying t).map fun d => match d with | .func .. => true | _ => false) = true) (f : Nat) (lb : Array Value) (w : World) : (binOp .eql t (.func (.func f) #[] lb) .nilFunc).run Try.prog w = .ok (.bool false) w := by
  cases hu : Try.prog.underlying t with
  | none => rw [hu] at ht; cases ht
  | some d =>
    rw [hu] at ht
    cases d with
    | func a b c =>
      have h1 : ∀ d, (Op.equalIn (d + 1) t (.func (.func f) #[] lb) .nilFunc).run Try.prog w = .ok false w := fun d => by simp [Op.equalIn, run_underlying hu]
      have h2 : (Op.equal t (.func (.func f) #[] lb) .nilFunc).run Try.prog w = .ok false w := h1 9999
      simp only [binOp]
      simp [h2]
    | _ => simp at ht
theorem KK.stepO {B : Nat} {G : Nat → Prop} {N c0 : Nat} {e : TypeId} {W Wa Wb : World} (h : KK B G N c0 e W Wa) {row : Option Nat} (hg : Wa.grownBy Wb row) (hb : ∀ k, row = some k → (∃ t cs, Blk Wa k t cs ∧ t ≠ e) ∧ ¬ G k ∧ (k < N ∨ N + c0 ≤ k)) : KK B G N c0 e W Wb := by
  cases row with
  | none => exact ⟨h.1.trans (KeepsFrom.none hg), h.2.1.trans (Keeps.grown hg (fun r e => by cases e)), fun k cur hk => (h.2.2 k cur hk).grown hg (by simp)⟩
  | some k =>
    obtain ⟨⟨t, cs, h1, h2⟩, h3, h4⟩ := hb k rfl
    exact h.step hg h1 h3 h4 h2
theorem FlCells.kept {w0 w1 : World} {cs : List Value} {fs : List Fl} (h : FlCells w0 cs fs) (hk : ∀ k cur, Blk w0 k 5 cur → Blk w1 k 5 cur) : FlCells w1 cs fs := by
  obtain ⟨h1, h2⟩ := h
  refine ⟨h1, fun i hi => ?_⟩
  obtain ⟨vb, a, b, c, d⟩ := h2 i hi
  exact ⟨vb, a, b, c, d.kept hk⟩
theorem alG_lt {w0 : World} {ga gl : Nat} {v : Value} {cs : List Value} {fs : List Fl} {W : World} (h : alC w0 ga gl v cs fs W) : ∀ k, alG w0 ga gl v k → k < W.heap.size := by
  rintro k (rfl | rfl | h1 | ⟨cur, h1⟩)
  · exact h.1.lt
  · exact h.2.1.lt
  · exact (World.ownsRow.lt h.2.2.1 k h1).2
  · exact (h.2.2.2 k cur h1).lt
theorem flN_big {N : Nt} (h : OkN N) : ∀ f ∈ flN N, f.b.length ≤ 1048576 := by
  intro f hf
  have hf' : f ∈ flightsO (linesOf N.ends) N.L := hf
  simp only [flightsO, List.mem_flatMap, lineF, List.mem_map] at hf'
  obtain ⟨p, _, b, hb, rfl⟩ := hf'
  exact h.big p b hb
/-- flights up to a number of them -/
def upTo (F : List Fl) (most : Int) : List Fl := if 1 ≤ most ∧ most ≤ (F.length : Int) then F.take most.toNat else F

end Go.Proofs.Ytahooohokdbnpaa
