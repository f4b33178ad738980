
/-
  A range over a function whose rounds are told what memory holds: one law for the loop. Over any program.
-/
import Derived.RangeFuncNested
import Derived.RangeFuncBound
import Derived.RangeFuncCalls
import Derived.RangeFuncLeaves
import Derived.Shelf.Abstract
import Derived.Shelf.RegionOpen
import Derived.WalkKit
import Derived.OwnWalkIn
import Derived.TacticsInMore
import Derived.LoopNIn
import Derived.LoopIn
import Derived.Test.YtgbfeagoadlhmaaBase
set_option linter.unusedVariables false
set_option linter.unusedSimpArgs false
namespace Go.Proofs.Ytgbfeagoadlhmaa
open Go.RowKit Go.Shelf Pl

section
variable {P : Program} {σ : Type}

/-- what is so abides new blocks, and a turn of what is no cells -/
def Firm (Y : World → Prop) : Prop := ∀ A B row, Y A → A.grownBy B row → (∀ r, row = some r → ∃ o : Obj, A.heap[r]? = some o ∧ o.isCells = false) → Y B
theorem Firm.grow {Y : World → Prop} (h : Firm Y) {A B : World} (hA : Y A) (hg : A.grownBy B none) : Y B := h A B none hA hg (fun r e => by cases e)
theorem Firm.put {Y : World → Prop} (h : Firm Y) {A : World} {l : Nat} {o : Obj} (o' : Obj) (hA : Y A) (hl : A.heap[l]? = some o) (ho : o.isCells = false) : Y (A.putObj l o') :=
  h A _ (some l) hA (grownBy_putObj' A l o') (fun r e => by cases e; exact ⟨o, hl, ho⟩)

/-- a round leaves blocks of G as they are, and those from N on but for fr's -/
def Keeps (G : Nat → Prop) (N : Nat) (fr : Nat → Prop) (A B : World) : Prop :=
  A.heap.size ≤ B.heap.size ∧ ∀ k, k < A.heap.size → (G k ∨ (N ≤ k ∧ ¬ fr k)) → B.heap[k]? = A.heap[k]?

/-- an iterator's word: of a state s it asks for a round with args that X allows -/
def SeqX (n : Nat) (P : Program) (gf : Nat) (lb : Array Value) (G : Nat → Prop) (Fr : Array Value → Nat → Prop) (X : Nat → σ → Array Value → σ → World → Prop) (S Sp : σ → Prop) (s0 : σ) (C : World → Prop) : Prop :=
  ∀ (l : Nat) (J Jx : σ → World → Prop) (W : World), C W → (∀ s A B, J s A → A.grownBy B none → J s B) → (∀ s A B, Jx s A → A.grownBy B none → Jx s B) →
    (∀ s args s' A, J s A → X W.heap.size s args s' A → YieldAt Fence.wide (n - 1) P l args A fun e B =>
      (e = .returned (.bool true) ∧ J s' B ∧ Keeps G W.heap.size (Fr args) A B) ∨ (e = .returned (.bool false) ∧ Jx s' B)) →
    J s0 W → CallsIn Fence.wide n P gf (#[.func (.yield l) #[] #[]] ++ lb) W fun e B => (∃ v, e = .returned v) ∧ ((∃ s, S s ∧ J s B) ∨ ∃ s, Sp s ∧ Jx s B)

/-- how a round's body is left -/
def postX (B : Nat) (G : Nat → Prop) (N : Nat) (fr : Nat → Prop) (I : σ → World → Prop) (Ix : Code → σ → World → Prop) (s' : σ) (W : World) : Exit → Act → World → Prop
  | .normal, _, W' => KeepsFrom B W W' ∧ Keeps G N fr W W' ∧ I s' W'
  | .ret, _, W' => KeepsFrom B W W' ∧ Ix .ret s' W'
  | .exit id, _, W' => KeepsFrom B W W' ∧ Ix (.exit id) s' W'
  | .goto t, _, W' => KeepsFrom B W W' ∧ Ix (.goto t) s' W'
  | .panic _, _, _ => False
  | .outgrown, _, _ => False

theorem wp_rangeX {g : Operand} {ps : Array Tmp} {assign body : Code} {Q : Exit → Act → World → Prop} {a : Act} {w : World} (n : Nat) (h1 : 1 ≤ n) {gf : Nat} {lb : Array Value} (hg : a.eval g = .func (.func gf) #[] lb)
    (eg : ∀ args w, (callFunc gf args).run P w = .ok (.enter gf args) w) {G : Nat → Prop} {Fr : Array Value → Nat → Prop} {X : Nat → σ → Array Value → σ → World → Prop} {S Sp : σ → Prop} {s0 : σ} {C : World → Prop}
    (hseq : SeqX (n - 1) P gf lb G Fr X S Sp s0 C) (hC : ∀ W, w.grownBy W none → C W) (hG : ∀ k, G k → k < w.heap.size) (hps : ∀ N s args s' A, X N s args s' A → args.size = ps.size) (hX : ∀ N s args s', Firm (X N s args s'))
    (I : σ → World → Prop) (Ix : Code → σ → World → Prop) (hI : OwnFrom w.heap.size I) (hIx : ∀ c, OwnFrom w.heap.size (Ix c)) (h0 : I s0 w) (Ax : Array Value → Act → World → Prop) (hAx : ∀ args a', Firm (Ax args a'))
    (hassign : ∀ (l : Nat) s args s' (W : World) (K : Act → World → Prop), X (w.heap.size + 2) s args s' W → (∀ a' W', Ax args a' W' → W.grownBy W' none → K a' W') →
      assign.wpIn (Fence.wide.inRound l) (n - 1 - 1) P (Exit.then K (fun _ _ _ => False)) { tmps := (ps.zip args).foldl (fun t (p, v) => t.setIfInBounds p v) a.tmps, defers := [] } W)
    (hbody : ∀ (l : Nat) s args s' a' (W : World), I s W → X (w.heap.size + 2) s args s' W → Ax args a' W → body.wpIn (Fence.wide.inRound l) (n - 1 - 1) P (postX w.heap.size G (w.heap.size + 2) (Fr args) I Ix s' W) a' W)
    (hdone : ∀ (D : Nat) s (W : World), w.heap.size ≤ D → S s → I s W → W.heap[D]? = some (.deferred (some [])) → Q .normal { a with defers := { target := .collected D, args := #[] } :: a.defers } W)
    (hstop : ∀ (D : Nat) (c : Code) s (W : World), w.heap.size ≤ D → Sp s → Ix c s W → W.heap[D]? = some (.deferred (some [])) → c.wp P Q { a with defers := { target := .collected D, args := #[] } :: a.defers } W) :
    (Code.rangeFunc g ps assign body).wp P Q a w := by
  refine (wpIn_wide (n := n)).1 (wpIn_rangeFunc fun fn hfn => ?_)
  generalize hrec : (fun (st : LoopState) (pe : Option Code) => ({ state := st, pending := pe, fn, tmps := a.tmps, params := ps, assign, body, defers := w.heap.size } : Loop)) = rec
  have hre : ∀ st pe, rec st pe = { state := st, pending := pe, fn, tmps := a.tmps, params := ps, assign, body, defers := w.heap.size } := fun st pe => by rw [← hrec]
  generalize hW1 : (w.alloc (.deferred (some []))).alloc (.loop (rec .ready none)) = W1
  have hs1 : W1.heap.size = w.heap.size + 2 := by rw [← hW1]; simp
  have hg1 : w.grownBy W1 none := by rw [← hW1]; exact (World.grownBy_alloc w _ none).trans (World.grownBy_alloc _ _ none)
  have hL1 : W1.heap[w.heap.size + 1]? = some (.loop (rec .ready none)) := by
    rw [← hW1]; have := World.alloc_heap_new (w.alloc (.deferred (some []))) (.loop (rec .ready none)); rwa [World.size_alloc] at this
  have hK1 : W1.heap[w.heap.size]? = some (.deferred (some [])) := by
    rw [← hW1]; exact (Below.heap_alloc _ _ _ (by simp)).trans (World.alloc_heap_new w _)
  refine ⟨w.heap.size + 1, [{ target := .collected w.heap.size, args := #[] }], W1, { target := .fn (.func gf) lb, args := #[.func (.yield (w.heap.size + 1)) #[] #[]] }, W1, gf,
    #[.func (.yield (w.heap.size + 1)) #[] #[]] ++ lb, W1, ?_, ?_, fun _ _ => trivial, ?_, fun _ => h1, ?_⟩
  · rw [← hW1, hre]; exact run_enterLoop_outer _ _ _ _ _
  · simp only [resolve, hg]; simp [go_sem]
  · simp [invoke, go_sem, eg]
  have old : ∀ {A B : World} {k : Nat} {o : Obj}, A.grownBy B none → A.heap[k]? = some o → B.heap[k]? = some o := fun hg' hk => (hg'.block _ (Array.getElem?_eq_some_iff.1 hk).1 (by simp)).trans hk
  refine (hseq (w.heap.size + 1)
    (fun s W => I s W ∧ W.heap[w.heap.size + 1]? = some (.loop (rec .ready none)) ∧ W.heap[w.heap.size]? = some (.deferred (some [])))
    (fun s W => ∃ c, Ix c s W ∧ W.heap[w.heap.size + 1]? = some (.loop (rec .done (some c))) ∧ W.heap[w.heap.size]? = some (.deferred (some [])))
    W1 (hC W1 hg1) (fun s A B h hg' => ⟨hI s A B none h.1 hg' (fun r e => by cases e), old hg' h.2.1, old hg' h.2.2⟩)
    (fun s A B h hg' => by obtain ⟨c, a1, a2, a3⟩ := h; exact ⟨c, hIx c s A B none a1 hg' (fun r e => by cases e), old hg' a2, old hg' a3⟩)
    ?_ ⟨hI s0 w W1 none h0 hg1 (fun r e => by cases e), hL1, hK1⟩).mono ?_
  · rintro s args s' A ⟨hi, hl, hk⟩ hx
    rw [hs1] at hx
    have hy := run_yield (P := P) (args := args) hl (by rw [hre]; exact hps _ _ _ _ _ hx)
    rw [hre] at hy
    refine ⟨fn, _, assign, body, hy, roundIn_of_wpIn hfn (hassign _ s args s' A _ hx fun a' A1 hax hgA => ?_)⟩
    have hl1 := old hgA hl
    have hk1 := old hgA hk
    have hlt : w.heap.size + 1 < A1.heap.size := (Array.getElem?_eq_some_iff.1 hl1).1
    refine ⟨_, run_beginRound hl1 (by rw [hre]), ?_⟩
    generalize hA2 : A1.putObj (w.heap.size + 1) (.loop { rec .ready none with state := .busy }) = A2
    have hl2 : A2.heap[w.heap.size + 1]? = some (.loop { rec .ready none with state := .busy }) := by rw [← hA2]; exact World.putObj_heap_same hlt
    have hk2 : A2.heap[w.heap.size]? = some (.deferred (some [])) := by rw [← hA2]; exact (World.putObj_heap_other (by omega)).trans hk1
    have hi2 : I s A2 := by rw [← hA2]; exact hI.putObj _ (hI s A A1 none hi hgA (fun r e => by cases e)) (by omega) hl1 rfl
    have hx2 : X (w.heap.size + 2) s args s' A2 := by rw [← hA2]; exact (hX _ _ _ _).put _ ((hX _ _ _ _).grow hx hgA) hl1 rfl
    have hax2 : Ax args a' A2 := by rw [← hA2]; exact (hAx _ _).put _ hax hl1 rfl
    have hb2 : ∀ k, k < A.heap.size → k ≠ w.heap.size + 1 → A2.heap[k]? = A.heap[k]? := fun k hk' hne => by rw [← hA2, World.putObj_heap_other hne]; exact hgA.block k hk' (by simp)
    have hsz2 : A.heap.size ≤ A2.heap.size := by rw [← hA2]; have := hgA.size; simpa using this
    refine wpIn_mono (hbody _ s args s' a' A2 hi2 hx2 hax2) ?_
    have fin : ∀ (jump : Option Code) (A3 : World), KeepsFrom w.heap.size A2 A3 → ∃ A4, (Instr.endRound (w.heap.size + 1) jump).run P A3 = .ok (.bool jump.isNone) A4 ∧ A4 = A3.putObj (w.heap.size + 1) (.loop (rec (if jump.isNone then .ready else .done) jump)) ∧
        A3.heap[w.heap.size + 1]? = some (.loop { rec .ready none with state := .busy }) ∧ A4.heap[w.heap.size + 1]? = some (.loop (rec (if jump.isNone then .ready else .done) jump)) ∧ A4.heap[w.heap.size]? = some (.deferred (some [])) := fun jump A3 hk3 => by
      have hl3 := hk3.same _ _ (by omega) hl2 rfl
      have hr := run_endRound (P := P) jump hl3
      refine ⟨_, ?_, rfl, hl3, World.putObj_heap_same (Array.getElem?_eq_some_iff.1 hl3).1, (World.putObj_heap_other (by omega)).trans (hk3.same _ _ (Nat.le_refl _) hk2 rfl)⟩
      rw [hre] at hr ⊢
      exact hr
    rintro e a3 A3 hp
    cases e with
    | normal =>
      obtain ⟨hk3, hkp, hi3⟩ := hp
      obtain ⟨A4, hr, rfl, hl3, hl4, hk4⟩ := fin none A3 hk3
      refine ⟨_, _, hr, .inl ⟨rfl, ⟨hI.putObj _ hi3 (by omega) hl3 rfl, hl4, hk4⟩, ?_, ?_⟩⟩
      · have := hkp.1; simp; omega
      · intro k hk' hor
        rw [hs1] at hor
        have hne : k ≠ w.heap.size + 1 := by rcases hor with h | h; (have := hG k h; omega); omega
        rw [World.putObj_heap_other hne, hkp.2 k (by omega) hor, hb2 k hk' hne]
    | ret =>
      obtain ⟨hk3, hi3⟩ := hp
      obtain ⟨A4, hr, rfl, hl3, hl4, hk4⟩ := fin (some .ret) A3 hk3
      exact ⟨_, _, hr, .inr ⟨rfl, .ret, (hIx _).putObj _ hi3 (by omega) hl3 rfl, hl4, hk4⟩⟩
    | exit id =>
      obtain ⟨hk3, hi3⟩ := hp
      obtain ⟨A4, hr, rfl, hl3, hl4, hk4⟩ := fin (some (.exit id)) A3 hk3
      exact ⟨_, _, hr, .inr ⟨rfl, .exit id, (hIx _).putObj _ hi3 (by omega) hl3 rfl, hl4, hk4⟩⟩
    | goto t =>
      obtain ⟨hk3, hi3⟩ := hp
      obtain ⟨A4, hr, rfl, hl3, hl4, hk4⟩ := fin (some (.goto t)) A3 hk3
      exact ⟨_, _, hr, .inr ⟨rfl, .goto t, (hIx _).putObj _ hi3 (by omega) hl3 rfl, hl4, hk4⟩⟩
    | panic ch => exact hp.elim
    | outgrown => exact hp.elim
  · rintro e W2 ⟨⟨v, rfl⟩, (⟨s, hS, hi, hl, hk⟩ | ⟨s, hSp, c, hi, hl, hk⟩)⟩
    · have hr := run_endLoop (P := P) hl (by rw [hre]; simp)
      rw [hre] at hr
      exact ⟨none, _, hr, hdone _ s _ (Nat.le_refl _) hS (hI.putObj _ hi (by omega) hl rfl) ((World.putObj_heap_other (by omega)).trans hk)⟩
    · have hr := run_endLoop (P := P) hl (by rw [hre]; simp)
      rw [hre] at hr
      exact ⟨some c, _, hr, wpIn_wide.2 (hstop _ c s _ (Nat.le_refl _) hSp ((hIx c).putObj _ hi (by omega) hl rfl) ((World.putObj_heap_other (by omega)).trans hk))⟩

/-- an operation of a round whose run is known -/
theorem wpListIn_run {F : Fence} {n : Nat} {ops : Array Oper} {rest : List Oper} {o : Oper} {a : Act} {w w' : World} {v : Value} {Q : Exit → Act → World → Prop} (hw : Region.wanted o (yielded ops a.tmps) = true) (hab : o.about P w a.eval = none) (hnd : ∀ c, o.op ≠ .defer c)
    (hr : (execOp a.eval o).run P w = .ok (.value v) w') (h : wpListIn F n P ops Q rest (a.put o.dst v) w') : wpListIn F n P ops Q (o :: rest) a w := by
  refine wpListIn_step fun K hK => ?_
  rw [if_pos hw]
  refine ⟨fun f hf => (by rw [hab] at hf; cases hf), ?_⟩
  rw [Oper.semAt_plain F _ _ hnd, hr]
  exact hK _ _ h

end
end Go.Proofs.Ytgbfeagoadlhmaa
