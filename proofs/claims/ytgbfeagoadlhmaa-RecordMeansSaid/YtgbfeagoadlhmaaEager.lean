
/-
  A region that draws its order, walked in one order: whatever may come up and only reads is taken at once; then the one that acts. Over any program.
-/
import Derived.Test.YtgbfeagoadlhmaaOwn
import Derived.OrdersHeld
import Derived.Deep.QuietTactic
import Derived.BigQuiet
import Derived.Laws.Panics
set_option linter.unusedVariables false
set_option linter.unusedSimpArgs false
namespace Go.Proofs.Ytgbfeagoadlhmaa
open Go.RowKit

section
variable {P : Program} {md : Region.Mode} {ops : Array Oper} {Q : Exit → Act → World → Prop} {R : World → World → Prop}

theorem wpAnyH_weaker {S S' : World → Prop} (hS : ∀ w, S' w → S w) : ∀ (fuel : Nat) (listed : Array Bool) (a : Act) (w : World), wpAnyH P md ops Q S' fuel listed a w → wpAnyH P md ops Q S fuel listed a w
  | 0, _, _, _, h => h
  | fuel + 1, _, _, _, h => ⟨h.1, fun i hi => wpOp_mono (fun a' w' h' => ⟨hS _ h'.1, wpAnyH_weaker hS fuel _ a' w' h'.2⟩) (h.2 i hi)⟩

/-- which have come up -/
def done (n : Nat) (l : List Nat) : Array Bool := l.foldl (fun b i => b.setIfInBounds i true) (Array.replicate n false)
theorem done_snoc (n : Nat) (l : List Nat) (i : Nat) : done n (l ++ [i]) = (done n l).setIfInBounds i true := by simp [done]

/-- the walk from here on, whatever order is picked; R: what may become of the world -/
def Eg (P : Program) (ops : Array Oper) (Q : Exit → Act → World → Prop) (R : World → World → Prop) (n : Nat) (l : List Nat) (a : Act) (w : World) : Prop :=
  ∀ w0, R w0 w → wpAnyH P .any ops Q (R w0) n (done ops.size l) a w

/-- operations that hand back a value and enter no function -/
def calm : Op → Bool
  | .move _ | .assign _ | .pick .. | .load .. | .nilCheck _ | .binOp .. | .unOp .. | .convert .. | .slice .. | .fieldAddr .. | .field .. | .indexAddr .. | .index .. | .extract .. | .build .. | .lookup .. => true
  | .call c => match c.callee with | .builtin .len | .builtin .cap | .builtin .min | .builtin .max => true | _ => false
  | _ => false

theorem bind_value {α : Type} {s : Sem α} {k : α → Sem Next} (hk : ∀ x w1 n w', (k x).run P w1 = .ok n w' → ∃ v, n = .value v) {w w' : World} {n : Next} (h : (s >>= k).run P w = .ok n w') : ∃ v, n = .value v := by
  simp only [Sem.run_bind] at h
  cases hs : s.run P w with
  | ok u w1 => rw [hs] at h; exact hk _ _ _ _ h
  | halt x w1 => rw [hs] at h; simp [Result.andThen] at h
theorem pure_value {v : Value} {w w' : World} {n : Next} (h : (pure (Next.value v) : Sem Next).run P w = .ok n w') : ∃ v, n = .value v := by
  simp [Sem.run_pure] at h; exact ⟨_, h.1.symm⟩
theorem run_value {s : Sem Value} {w w' : World} {n : Next} (h : (do pure (Next.value (← s)) : Sem Next).run P w = .ok n w') : ∃ v, n = .value v :=
  bind_value (fun _ _ _ _ h => pure_value h) h

theorem calm_value {o : Oper} (hc : calm o.op = true) {ρ : Operand → Value} {w w' : World} {n : Next} (h : (execOp ρ o).run P w = .ok n w') : ∃ v, n = .value v := by
  unfold execOp at h
  revert h hc
  cases o.op with
  | call c =>
    intro hc h
    unfold calm at hc
    obtain ⟨callee, args, at'⟩ := c
    cases callee with
    | value f => simp at hc
    | invoke r m => simp at hc
    | builtin b => cases b <;> simp at hc <;> (simp only [resolve, invoke, builtin, pure_bind] at h; exact run_value h)
  | nilCheck x =>
    intro hc h
    simp only at h
    have hp : ∀ {n : Next} {w' : World}, (runtimePanic .nilDeref : Sem Next).run P w = .ok n w' → ∃ v, n = .value v := fun h => by simp [runtimePanic, goPanic, go_sem] at h
    split at h
    · exact hp h
    · exact hp h
    · exact hp h
    · split at h
      · exact hp h
      · refine bind_value (fun _ _ _ _ h => bind_value (fun _ _ _ _ h => ?_) h) h
        split at h
        · exact bind_value (fun _ _ _ _ h => pure_value h) h
        · exact pure_value h
      · exact pure_value h
    · exact pure_value h
  | pick c x y => intro hc h; exact bind_value (fun _ _ _ _ h => pure_value h) h
  | move x => intro hc h; exact pure_value h
  | assign x => intro hc h; exact pure_value h
  | _ => intro hc h; first | exact run_value h | (simp [calm] at hc)

/-- a nil check that passes, of a pointer -/
theorem nilCheck_run {o : Oper} {x : Operand} (ho : o.op = .nilCheck x) {ρ : Operand → Value} {p : Addr} (hx : ρ x = .pointer (some p)) (w : World) : (execOp ρ o).run P w = .ok (.value (.pointer (some p))) w := by
  unfold execOp
  simp only [ho, hx]
  rfl

/-- what may be taken one behind the other -/
def floats (ops : Array Oper) : List Nat → List Nat → Bool
  | _, [] => true
  | l, i :: fs => Region.free .any ops (done ops.size l) i && (Region.ready .any ops (done ops.size l)).contains i && ((ops[i]?).map (fun o => calm o.op)).getD false && floats ops (l ++ [i]) fs

/-- the operations of these numbers -/
def pickOps (ops : Array Oper) : List Nat → List Oper
  | [] => []
  | i :: fs => (ops[i]?).toList ++ pickOps ops fs

structure Pre (R : World → World → Prop) : Prop where
  refl : ∀ w, R w w
  trans : ∀ {a b c}, R a b → R b c → R a c

/-- at a panic the post does not look at the frame -/
def Frameless (Q : Exit → Act → World → Prop) : Prop := ∀ c a d v w, Q (.panic c) (Act.put a d v) w → Q (.panic c) a w

theorem Eg.take (hR : Pre R) (hQ : Frameless Q) (hs : Region.noSelect ops = true) {i : Nat} {o : Oper} {v : Value} {n : Nat} {l : List Nat} {a : Act} {w : World} (hi : ops[i]? = some o)
    (hf : Region.free .any ops (done ops.size l) i = true) (hr : (Region.ready .any ops (done ops.size l)).contains i = true) (hy : YieldsIf P ops (R w) o v a)
    (h : Eg P ops Q R n (l ++ [i]) (a.put o.dst v) w) : Eg P ops Q R (n + 1) l a w := by
  intro w0 hw0
  have h1 := h w (hR.refl w)
  rw [done_snoc] at h1
  exact wpAnyH_weaker (fun w' hw' => hR.trans hw0 hw') _ _ _ _ (wpAnyH_take hi hs hf hr (fun c a w => hQ c a _ _ w) hy (hR.refl w) h1)

theorem Eg.batch (hR : Pre R) (hQ : Frameless Q) (hs : Region.noSelect ops = true) (C : World → Prop) {w : World} (hC : ∀ w', R w w' → C w') {n : Nat} : ∀ (fs : List Nat) (l : List Nat) (a : Act), floats ops l fs = true →
    wpQuiet P ops C (fun a' => Eg P ops Q R n (l ++ fs) a' w) (pickOps ops fs) a → Eg P ops Q R (n + fs.length) l a w
  | [], l, a, _, h => by rw [List.append_nil] at h; exact h
  | i :: fs, l, a, hst, h => by
    simp only [floats, Bool.and_eq_true] at hst
    obtain ⟨⟨⟨hf, hr⟩, hc⟩, hrest⟩ := hst
    cases ho : ops[i]? with
    | none => rw [ho] at hc; simp at hc
    | some o =>
      rw [ho] at hc
      simp only [Option.map_some, Option.getD_some] at hc
      simp only [pickOps, ho, Option.toList_some, List.singleton_append] at h
      have ih := Eg.batch hR hQ hs C hC (n := n) fs (l ++ [i])
      rw [show n + (i :: fs).length = (n + fs.length) + 1 by simp; omega]
      have e : l ++ i :: fs = (l ++ [i]) ++ fs := by simp
      rw [e] at h
      unfold wpQuiet at h
      by_cases hw : Region.wanted o (yielded ops a.tmps) = true
      · rw [if_pos hw] at h
        obtain ⟨v, hv, hk⟩ := h
        refine Eg.take hR hQ hs (v := v) ho hf hr (.inl ⟨hw, fun w' hw' => ?_⟩) (ih _ hrest hk)
        have hq := hv w' (hC w' hw')
        unfold Oper.quietAt at hq
        cases hrun : (execOp a.eval o).run P w' with
        | halt x w1 => rw [hrun] at hq; exact hq.elim
        | ok nx w1 =>
          obtain ⟨u, rfl⟩ := calm_value hc hrun
          rw [hrun] at hq
          obtain ⟨h1, h2⟩ := hq
          rw [h1, h2]
      · rw [if_neg hw] at h
        exact Eg.take hR hQ hs (v := undef) ho hf hr (.inr ⟨by simpa using hw, rfl⟩) (ih _ hrest h)

theorem Eg.batchK (hR : Pre R) (hQ : Frameless Q) (hs : Region.noSelect ops = true) {w : World} {n : Nat} (fs l : List Nat) (a : Act) (hst : floats ops l fs = true)
    (h : ∀ K : Act → Prop, (∀ a', Eg P ops Q R n (l ++ fs) a' w → K a') → wpQuiet P ops (fun _ => True) K (pickOps ops fs) a) : Eg P ops Q R (n + fs.length) l a w :=
  Eg.batch hR hQ hs (fun _ => True) (fun _ _ => trivial) fs l a hst (h _ fun _ h => h)

/-- one that reads, and reads the same in every later world -/
theorem Eg.read (hR : Pre R) (hQ : Frameless Q) (hs : Region.noSelect ops = true) {i : Nat} {o : Oper} {n : Nat} {l : List Nat} {a : Act} {w : World} (hi : ops[i]? = some o)
    (hf : Region.free .any ops (done ops.size l) i = true) (hr : (Region.ready .any ops (done ops.size l)).contains i = true) (hw : Region.wanted o (yielded ops a.tmps) = true)
    (h : ∃ v, (∀ w', R w w' → (execOp a.eval o).run P w' = .ok (.value v) w') ∧ Eg P ops Q R n (l ++ [i]) (a.put o.dst v) w) : Eg P ops Q R (n + 1) l a w :=
  let ⟨_, hy, h⟩ := h
  Eg.take hR hQ hs hi hf hr (.inl ⟨hw, hy⟩) h
theorem Eg.skip (hR : Pre R) (hQ : Frameless Q) (hs : Region.noSelect ops = true) {i : Nat} {o : Oper} {n : Nat} {l : List Nat} {a : Act} {w : World} (hi : ops[i]? = some o)
    (hf : Region.free .any ops (done ops.size l) i = true) (hr : (Region.ready .any ops (done ops.size l)).contains i = true) (hw : Region.wanted o (yielded ops a.tmps) = false)
    (h : Eg P ops Q R n (l ++ [i]) (a.put o.dst undef) w) : Eg P ops Q R (n + 1) l a w :=
  Eg.take hR hQ hs hi hf hr (.inr ⟨hw, rfl⟩) h
theorem convert_run {o : Oper} {src dst : TypeId} {x : Operand} (ho : o.op = .convert src dst x) {ρ : Operand → Value} {v : Value} {w : World} (h : (convert src dst (ρ x)).run P w = .ok v w) : (execOp ρ o).run P w = .ok (.value v) w := by
  unfold execOp
  simp only [ho, Sem.run_bind, h, Result.andThen, Sem.run_pure]

theorem load_run {o : Oper} {t : TypeId} {x : Operand} (ho : o.op = .load t x) {ρ : Operand → Value} {v : Value} {w : World} (h : (Instr.loadAt t (ρ x)).run P w = .ok v w) : (execOp ρ o).run P w = .ok (.value v) w := by
  unfold execOp
  simp only [ho, Sem.run_bind, h, Result.andThen, Sem.run_pure]

theorem Oper.wp_then {o : Oper} {a : Act} {w : World} {next : Act → World → Prop} {K : Act → World → Prop} (h : o.wp P a w next (Exit.then K Q)) : o.wp P a w next Q := by
  unfold Oper.wp at *
  generalize (execOp a.eval o).run P w = r at *
  cases r with
  | ok n w' =>
    cases n <;> simp only [Oper.upon] at h ⊢ <;> first | exact h | exact Calls.mono h (fun e w'' he => by cases e <;> exact he)
  | halt x w' => cases x <;> simp only [Oper.upon] at h ⊢ <;> exact h

/-- the one that acts -/
theorem Eg.act (hR : Pre R) {i : Nat} {o : Oper} {n : Nat} {l : List Nat} {a : Act} {w : World} (hi : ops[i]? = some o) (hr : Region.ready .any ops (done ops.size l) = [i])
    (h : wpList P ops (Exit.then (fun a' w' => R w w' ∧ Eg P ops Q R n (l ++ [i]) a' w') Q) [o] a w) : Eg P ops Q R (n + 1) l a w := by
  intro w0 hw0
  refine wpAnyH_all hr (by simp) fun j hj => ?_
  obtain rfl : j = i := by simpa using hj
  unfold wpList at h
  unfold wpOp
  simp only [hi]
  have fin : ∀ a' w', (R w w' ∧ Eg P ops Q R n (l ++ [j]) a' w') → R w0 w' ∧ wpAnyH P .any ops Q (R w0) n ((done ops.size l).setIfInBounds j true) a' w' := fun a' w' h => by
    have h2 := hR.trans hw0 h.1
    have h3 := h.2 w0 h2
    rw [done_snoc] at h3
    exact ⟨h2, h3⟩
  by_cases hw : Region.wanted o (yielded ops a.tmps) = true
  · rw [if_pos hw] at h ⊢
    rcases h with h | ⟨h, a1, w1, h2⟩
    · exact .inl (Oper.wp_mono (fun a' w' h' => fin a' w' h') (Oper.wp_then h))
    · exact .inr ⟨h, a1, w1, h2⟩
  · rw [if_neg hw] at h ⊢
    exact fin _ _ h

theorem Eg.finish {n : Nat} {l : List Nat} {a : Act} {w : World} (hr : Region.ready .any ops (done ops.size l) = []) (h : Q .normal a w) : Eg P ops Q R n l a w :=
  fun w0 _ => wpAnyH_done hr h n

theorem Ext.pre : Pre Ext := ⟨Ext.refl, Ext.trans⟩
theorem below_pre (B : Nat) : Pre (Below B) := ⟨Below.refl B, Below.trans⟩

theorem wp_eager (hR : Pre R) {id n : Nat} {a : Act} {w : World} (hm : P.follows .mixedOrders = true) (hn : ops.size = n) (h : Eg P ops Q R n [] a w.drew) : (Code.region id ops true).wp P Q a w := by
  subst hn
  exact wp_region_held (S := R w.drew) hm (h _ (hR.refl _))
end
end Go.Proofs.Ytgbfeagoadlhmaa
