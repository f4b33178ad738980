
/-
  What a round keeps: small laws. Copy within a round.
-/
import Derived.Test.YtgbfeagoadlhmaaRange
import Derived.Test.YtgbfeagoadlhmaaCopyB
set_option linter.unusedVariables false
set_option linter.unusedSimpArgs false
namespace Go.Proofs.Ytgbfeagoadlhmaa
open Go.RowKit Go.Shelf Pl

theorem Blk.firm {A B : World} {g : Nat} {t : TypeId} {cs : Array Value} {row : Option Nat} (h : Blk A g t cs) (hg : A.grownBy B row) (hr : ∀ r, row = some r → ∃ o : Obj, A.heap[r]? = some o ∧ o.isCells = false) : Blk B g t cs :=
  h.grown hg (fun e => by
    obtain ⟨o, ho, hc⟩ := hr g e.symm
    unfold Blk at h
    rw [h] at ho
    cases ho
    cases hc)
theorem Own.firm {e : TypeId} {A B : World} {N : Nat} {v : Value} {l : List UInt8} {row : Option Nat} (h : Own e A N v l) (hg : A.grownBy B row) (hr : ∀ r, row = some r → ∃ o : Obj, A.heap[r]? = some o ∧ o.isCells = false) : Own e B N v l := by
  refine h.kept hg ?_
  obtain ⟨_, h2⟩ := h
  rcases h2 with ⟨rfl, _⟩ | ⟨g, cap, cur, rfl, _, hb, _⟩
  · exact .inl rfl
  · right
    intro he
    obtain ⟨o, ho, hc⟩ := hr g he.symm
    rw [hb] at ho
    cases ho
    cases hc
theorem grown_set (w : World) (p : Addr) (u : Value) : w.grownBy (w.setCell p u) (some p.block) :=
  have h := (Below.refl 0 w).setCell (p := p) (Nat.zero_le _) u
  ⟨Below.os h, Below.tape h, Below.output h, Below.size h, fun k _ hk => heap_setCell_other w p k u (fun e => hk (by rw [e]))⟩

theorem Keeps.refl (G : Nat → Prop) (N : Nat) (fr : Nat → Prop) (A : World) : Keeps G N fr A A := ⟨Nat.le_refl _, fun _ _ _ => rfl⟩
theorem Keeps.trans {G : Nat → Prop} {N : Nat} {fr : Nat → Prop} {A B C : World} (h : Keeps G N fr A B) (k : Keeps G N fr B C) : Keeps G N fr A C :=
  ⟨Nat.le_trans h.1 k.1, fun i hi hor => (k.2 i (Nat.lt_of_lt_of_le hi h.1) hor).trans (h.2 i hi hor)⟩
theorem Keeps.grown {G : Nat → Prop} {N : Nat} {fr : Nat → Prop} {A B : World} {row : Option Nat} (h : A.grownBy B row) (hr : ∀ r, row = some r → ¬ G r ∧ (r < N ∨ fr r)) : Keeps G N fr A B :=
  ⟨h.size, fun k hk hor => h.block k hk (fun e => by
    obtain ⟨h1, h2⟩ := hr k e.symm
    rcases hor with hg | ⟨hn, hf⟩
    · exact h1 hg
    · rcases h2 with h2 | h2
      · omega
      · exact hf h2)⟩
theorem KeepsFrom.cells {B : Nat} {W W' : World} {g : Nat} {t : TypeId} {cs : Array Value} (hg : W.grownBy W' (some g)) (hb : Blk W g t cs) : KeepsFrom B W W' :=
  ⟨hg.size, fun k o _ hk ho => (hg.block k (Array.getElem?_eq_some_iff.1 hk).1 (fun e => by
    cases e
    unfold Blk at hb
    rw [hb] at hk
    cases hk
    cases ho)).trans hk⟩
theorem KeepsFrom.none {B : Nat} {W W' : World} (hg : W.grownBy W' none) : KeepsFrom B W W' :=
  ⟨hg.size, fun k o _ hk ho => (hg.block k (Array.getElem?_eq_some_iff.1 hk).1 (by simp)).trans hk⟩

/-- a code's end, and no panic -/
def quietQ (Q : Exit → Act → World → Prop) : Exit → Act → World → Prop
  | .panic _, _, _ => False
  | .normal, a, w => Q .normal a w
  | .ret, a, w => Q .ret a w
  | .exit i, a, w => Q (.exit i) a w
  | .goto t, a, w => Q (.goto t) a w
  | .outgrown, a, w => Q .outgrown a w
theorem wp_quiet {P : Program} {c : Code} {Q : Exit → Act → World → Prop} {a : Act} {w : World} (h : c.wp P (quietQ Q) a w) : c.wp P Q a w :=
  Code.wp_mono (fun e a w h => by cases e <;> first | exact h | exact h.elim) h

/-- a return of a function that has a range over a function: ahead of the loop; behind it -/
theorem postM_ret {P : Program} {F : Fence} {n : Nat} {fn : Func} {R : Ending → World → Prop} {tmps : Array Value} {w : World} {v : Value} (hr : (results fn tmps).run P w = .ok v w) (h : R (.returned v) w) : quietQ (bodyPostM F n P fn R) .ret { tmps := tmps, defers := [] } w := ⟨_, hr, h⟩
theorem postM_mark {P : Program} {F : Fence} {n : Nat} {fn : Func} {R : Ending → World → Prop} {tmps : Array Value} {w : World} {v : Value} {D : Nat} (hK : w.heap[D]? = some (.deferred (some []))) (hr : (results fn tmps).run P (w.putObj D (.deferred none)) = .ok v (w.putObj D (.deferred none))) (h : R (.returned v) (w.putObj D (.deferred none))) :
    quietQ (bodyPostM F n P fn R) .ret { tmps := tmps, defers := [{ target := .collected D, args := #[] }] } w := ⟨by simp, .inl ⟨_, _, rfl, run_takeDeferred hK, _, hr, h⟩⟩
theorem Blk.mark {w : World} {g D : Nat} {t : TypeId} {cs : Array Value} (h : Blk w g t cs) (hK : w.heap[D]? = some (.deferred (some []))) : Blk (w.putObj D (.deferred none)) g t cs :=
  h.firm (grownBy_putObj' w D _) (fun r e => by cases e; exact ⟨_, hK, rfl⟩)
theorem Ext.mark {a w : World} {D : Nat} (h : Ext a w) (hD : a.heap.size ≤ D) : Ext a (w.putObj D (.deferred none)) :=
  h.grown (grownBy_putObj' w D _) (fun r e => by cases e; exact hD)

section
variable {P : Program} {e : TypeId} {w : World}
theorem wpListIn_copy8g {F : Fence} {n : Nat} {t : TypeId} (hb : Byt P t e) {ops : Array Oper} {rest : List Oper} {op : Oper} {a : Act} {Q : Exit → Act → World → Prop} (hgd : op.guard = none) (d s : Operand)
    (ho : op.op = .call { callee := .builtin .copy, args := #[d, s], argTypes := #[t, t] }) {g : Nat} {T : TypeId} {D : List UInt8} (h : Blk w g T (cells8 D)) {A : Option Addr} {l : List UInt8} (hs : By w A l) (o dl dc m c : Nat) (hml : l.length = min m dl) (Ad : Option Addr)
    (hd : a.eval d = .slice Ad dl dc) (hx : a.eval s = .slice A m c) (hfit : o + l.length ≤ D.length) (hAd : 0 < l.length → Ad = some ⟨g, o, none⟩)
    (hk : ∀ w', Blk w' g T (cells8 (over D o l)) → Upd w w' g → wpListIn F n P ops Q rest (a.put op.dst (.int .i64 (l.length : Int))) w') : wpListIn F n P ops Q (op :: rest) a w := by
  obtain ⟨w', hr, h2, h3⟩ := run_copy8g hb op.type h hs o dl dc m c hml hfit Ad hAd
  refine wpListIn_run (by simp [Region.wanted, hgd]) (by simp [Oper.about, ho, resolve, Target.leads, Sem.run_pure]) (by rw [ho]; intro c h; cases h) ?_ (hk w' h2 h3)
  unfold execOp
  simp only [ho, resolve, invoke, builtin, Sem.run_bind, Sem.run_pure, Result.andThen_ok, List.map_toArray, List.map_cons, List.map_nil, hd, hx, hr]
end

/-- the law for a range over a function, where what a round begins with is told by its arguments -/
theorem wp_rangeF {P : Program} {σ : Type} {g : Operand} {ps : Array Tmp} {assign body : Code} {Q : Exit → Act → World → Prop} {a : Act} {w : World} (n : Nat) (h1 : 1 ≤ n) {gf : Nat} {lb : Array Value} (hg : a.eval g = .func (.func gf) #[] lb)
    (eg : ∀ args w, (callFunc gf args).run P w = .ok (.enter gf args) w) {G : Nat → Prop} {Fr : Array Value → Nat → Prop} {X : Nat → σ → Array Value → σ → World → Prop} {S Sp : σ → Prop} {s0 : σ} {C : World → Prop}
    (hseq : SeqX (n - 1) P gf lb G Fr X S Sp s0 C) (hC : ∀ W, w.grownBy W none → C W) (hG : ∀ k, G k → k < w.heap.size) (hps : ∀ N s args s' A, X N s args s' A → args.size = ps.size) (hX : ∀ N s args s', Firm (X N s args s'))
    (I : σ → World → Prop) (Ix : Code → σ → World → Prop) (hI : OwnFrom w.heap.size I) (hIx : ∀ c, OwnFrom w.heap.size (Ix c)) (h0 : I s0 w) (F : Array Value → Array Value → Array Value)
    (hassign : ∀ (l : Nat) s args s' (W : World) (K : Act → World → Prop), X (w.heap.size + 2) s args s' W → K { tmps := F args a.tmps, defers := [] } W →
      assign.wpIn (Fence.wide.inRound l) (n - 1 - 1) P (Exit.then K (fun _ _ _ => False)) { tmps := (ps.zip args).foldl (fun t (p, v) => t.setIfInBounds p v) a.tmps, defers := [] } W)
    (hbody : ∀ (l : Nat) s args s' (W : World), I s W → X (w.heap.size + 2) s args s' W → body.wpIn (Fence.wide.inRound l) (n - 1 - 1) P (postX w.heap.size G (w.heap.size + 2) (Fr args) I Ix s' W) { tmps := F args a.tmps, defers := [] } W)
    (hdone : ∀ (D : Nat) s (W : World), w.heap.size ≤ D → S s → I s W → W.heap[D]? = some (.deferred (some [])) → Q .normal { a with defers := { target := .collected D, args := #[] } :: a.defers } W)
    (hstop : ∀ (D : Nat) (c : Code) s (W : World), w.heap.size ≤ D → Sp s → Ix c s W → W.heap[D]? = some (.deferred (some [])) → c.wp P Q { a with defers := { target := .collected D, args := #[] } :: a.defers } W) :
    (Code.rangeFunc g ps assign body).wp P Q a w :=
  wp_rangeX n h1 hg eg hseq hC hG hps hX I Ix hI hIx h0 (fun args a' _ => a' = { tmps := F args a.tmps, defers := [] }) (fun args a' A B row h _ _ => h)
    (fun l s args s' W K hx hK => hassign l s args s' W K hx (hK _ _ rfl (World.grownBy.refl W none))) (fun l s args s' a' W hi hx hax => by subst hax; exact hbody l s args s' W hi hx) hdone hstop

end Go.Proofs.Ytgbfeagoadlhmaa
