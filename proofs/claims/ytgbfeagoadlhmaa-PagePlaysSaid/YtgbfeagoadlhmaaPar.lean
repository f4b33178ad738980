
/-
  Operations of a drawn region that may come up in several orders, each leaving a value that is known by what it is good for. Over any program.
-/
import Derived.Test.YtgbfeagoadlhmaaEager
set_option linter.unusedVariables false
set_option linter.unusedSimpArgs false
namespace Go.Proofs.Ytgbfeagoadlhmaa
open Go.RowKit

section
variable {P : Program} {ops : Array Oper} {Q : Exit → Act → World → Prop} {R : World → World → Prop}

theorem done_get (n : Nat) (l : List Nat) (k : Nat) : (done n l)[k]? = if k < n then some (decide (k ∈ l)) else none := by
  induction l using Pl.snoc_ind with
  | h0 => by_cases h : k < n <;> simp [done, h]
  | h1 l i ih =>
    rw [done_snoc, Array.getElem?_setIfInBounds, ih]
    have hs : (done n l).size = n := by
      have : ∀ (l : List Nat) (b : Array Bool), (l.foldl (fun b i => b.setIfInBounds i true) b).size = b.size := by
        intro l
        induction l with
        | nil => intro b; rfl
        | cons x t ih => intro b; rw [List.foldl_cons, ih]; simp
      unfold done; rw [this]; simp
    by_cases hik : i = k
    · subst hik
      by_cases h : i < n <;> simp [hs, h]
    · have : ¬ k = i := fun e => hik e.symm
      by_cases h : k < n <;> simp [hik, h, this]
theorem done_no {n : Nat} {l : List Nat} {k : Nat} : (done n l).getD k true = false ↔ k < n ∧ k ∉ l := by
  rw [Array.getD_eq_getD_getElem?, done_get]
  by_cases h : k < n <;> simp [h]
theorem done_yes {n : Nat} {l : List Nat} {k : Nat} : (done n l).getD k false = true ↔ k < n ∧ k ∈ l := by
  rw [Array.getD_eq_getD_getElem?, done_get]
  by_cases h : k < n <;> simp [h]
theorem done_congr {n : Nat} {l l' : List Nat} (h : ∀ k, k ∈ l ↔ k ∈ l') : done n l = done n l' := by
  apply Array.ext_getElem?
  intro k
  rw [done_get, done_get]
  simp only [h k]

theorem mem_turn (l s : List Nat) (i k : Nat) : k ∈ l ++ i :: s ↔ k ∈ (l ++ s) ++ [i] := by
  simp only [List.mem_append, List.mem_cons, List.not_mem_nil, or_false]
  constructor
  · rintro (h | h | h)
    · exact .inl (.inl h)
    · exact .inr h
    · exact .inl (.inr h)
  · rintro ((h | h) | h)
    · exact .inl h
    · exact .inr (.inr h)
    · exact .inr (.inl h)
def dstOf (ops : Array Oper) (i : Nat) : Option Tmp := (ops[i]?).bind (·.dst)
/-- the frame in which these operations have left these values -/
def putAll (ops : Array Oper) : List Nat → Act → (Nat → Value) → Act
  | [], a, _ => a
  | i :: t, a, vals => (putAll ops t a vals).put (dstOf ops i) (vals i)
def upd (vals : Nat → Value) (i : Nat) (v : Value) : Nat → Value := fun k => if k = i then v else vals k

theorem putAll_congr {vals vals' : Nat → Value} {a : Act} : ∀ (T : List Nat), (∀ i ∈ T, vals i = vals' i) → putAll ops T a vals = putAll ops T a vals'
  | [], _ => rfl
  | i :: t, h => by
    unfold putAll
    rw [putAll_congr t (fun j hj => h j (List.mem_cons_of_mem _ hj)), h i (List.mem_cons_self ..)]
theorem put_same (a : Act) (d : Option Tmp) (u v : Value) : (a.put d u).put d v = a.put d v := by
  cases d with
  | none => rfl
  | some d => simp [Act.put]
theorem put_far (a : Act) {d e : Option Tmp} (h : d = none ∨ d ≠ e) (u v : Value) : (a.put d u).put e v = (a.put e v).put d u := by
  cases d with
  | none => rfl
  | some d =>
    cases e with
    | none => rfl
    | some e =>
      have hne : d ≠ e := by rcases h with h | h; cases h; exact fun x => h (by rw [x])
      simp only [Act.put]
      rw [Array.setIfInBounds_comm _ _ hne]
def dstsOk (ops : Array Oper) : List Nat → Bool
  | [] => true
  | i :: t => (t.all fun j => i != j && (dstOf ops i == none || dstOf ops i != dstOf ops j)) && dstsOk ops t
theorem dstsOk_nodup : ∀ (T : List Nat), dstsOk ops T = true → T.Nodup
  | [], _ => List.nodup_nil
  | i :: t, h => by
    simp only [dstsOk, Bool.and_eq_true, List.all_eq_true] at h
    refine List.nodup_cons.2 ⟨fun hi => ?_, dstsOk_nodup t h.2⟩
    have := (h.1 i hi)
    simp at this
theorem putAll_upd {a : Act} {vals : Nat → Value} {i : Nat} {v : Value} : ∀ (T : List Nat), dstsOk ops T = true → i ∈ T → (putAll ops T a vals).put (dstOf ops i) v = putAll ops T a (upd vals i v)
  | [], _, h => by cases h
  | j :: t, hd, h => by
    have hn := List.nodup_cons.1 (dstsOk_nodup _ hd)
    simp only [dstsOk, Bool.and_eq_true, List.all_eq_true] at hd
    by_cases hij : i = j
    · subst hij
      unfold putAll
      rw [put_same, show upd vals i v i = v by simp [upd]]
      rw [putAll_congr (vals := vals) (vals' := upd vals i v) t (fun k hk => by unfold upd; rw [if_neg (fun (e : k = i) => hn.1 (e ▸ hk))])]
    · have hit : i ∈ t := by
        rcases List.mem_cons.1 h with h | h
        · exact absurd h hij
        · exact h
      unfold putAll
      have hx := hd.1 i hit
      have hne : dstOf ops j = none ∨ dstOf ops j ≠ dstOf ops i := by
        simp only [Bool.and_eq_true, Bool.or_eq_true, beq_iff_eq, bne_iff_ne] at hx
        exact hx.2
      rw [put_far _ hne, putAll_upd t hd.2 hit]
      congr 1
      unfold upd
      rw [if_neg (fun e => hij e.symm)]
def valsNow (ops : Array Oper) (a : Act) : Nat → Value := fun i => match dstOf ops i with | some d => a.tmps.getD d undef | none => undef
theorem putAll_now {a : Act} : ∀ (T : List Nat), putAll ops T a (valsNow ops a) = a
  | [] => rfl
  | i :: t => by
    unfold putAll
    rw [putAll_now t]
    unfold valsNow
    cases h : dstOf ops i with
    | none => rfl
    | some d =>
      simp only [Act.put]
      congr 1
      apply Array.ext_getElem?
      intro k
      rw [Array.getElem?_setIfInBounds]
      by_cases hk : d = k
      · subst hk
        by_cases hd : d < a.tmps.size
        · simp [hd]
        · simp [hd]
      · simp [hk]

def subs : List Nat → List (List Nat)
  | [] => [[]]
  | i :: t => subs t ++ (subs t).map (i :: ·)
theorem filter_subs (p : Nat → Bool) : ∀ T : List Nat, T.filter p ∈ subs T
  | [] => by simp [subs]
  | i :: t => by
    have ih := filter_subs p t
    unfold subs
    rw [List.filter_cons]
    split
    · exact List.mem_append.2 (.inr (List.mem_map.2 ⟨_, ih, rfl⟩))
    · exact List.mem_append.2 (.inl ih)
/-- which of these an operation waits for -/
def depsIn (ops : Array Oper) (T : List Nat) (i : Nat) : List Nat :=
  match ops[i]? with
  | none => []
  | some o => ((o.after.toList.filter (Region.binds .any)).map (·.on)).filter (fun k => T.contains k)
def closedB (ops : Array Oper) (T s : List Nat) : Bool := s.all fun i => (depsIn ops T i).all fun j => s.contains j
def parOk (ops : Array Oper) (l T : List Nat) : Bool :=
  dstsOk ops T && (T.all fun i => !l.contains i) && (subs T).all fun s => !closedB ops T s || s.length == T.length ||
    (!(Region.ready .any ops (done ops.size (l ++ s))).isEmpty && (Region.ready .any ops (done ops.size (l ++ s))).all fun i => T.contains i)

theorem Eg.par (hR : Pre R) {T l : List Nat} {n : Nat} {a : Act} {w : World} (V : Nat → Value → World → Prop) (hV : ∀ i v w w', R w w' → V i v w → V i v w') (hT : parOk ops l T = true)
    (hstep : ∀ i ∈ T, ∀ (o : Oper), ops[i]? = some o → ∀ (vals : Nat → Value) (w' : World), R w w' → (∀ j ∈ depsIn ops T i, V j (vals j) w') →
      wpList P ops (Exit.then (fun a' w'' => R w' w'' ∧ ∃ v, a' = (putAll ops T a vals).put o.dst v ∧ V i v w'') Q) [o] (putAll ops T a vals) w')
    (hexit : ∀ (vals : Nat → Value) (w' : World), R w w' → (∀ i ∈ T, V i (vals i) w') → Eg P ops Q R n (l ++ T) (putAll ops T a vals) w') :
    Eg P ops Q R (n + T.length) l a w := by
  simp only [parOk, Bool.and_eq_true] at hT
  obtain ⟨⟨hd, hl⟩, hs⟩ := hT
  have hnd := dstsOk_nodup T hd
  intro w0 hw0
  have main : ∀ (m : Nat) (s : List Nat) (vals : Nat → Value) (w' : World), s.Nodup → (∀ i ∈ s, i ∈ T) → closedB ops T s = true → m + s.length = T.length → R w w' → (∀ i ∈ s, V i (vals i) w') →
      wpAnyH P .any ops Q (R w0) (n + m) (done ops.size (l ++ s)) (putAll ops T a vals) w' := by
    intro m
    induction m with
    | zero =>
      intro s vals w' hsn hsT hcl hlen hRw hVs
      have hall : ∀ i ∈ T, i ∈ s := by
        intro i hi
        have hmem : ∀ k, k ∈ T.filter (fun k => s.contains k) ↔ k ∈ s := by
          intro k
          rw [List.mem_filter]
          simp only [List.contains_iff_mem]
          exact ⟨fun h => h.2, fun h => ⟨hsT k h, h⟩⟩
        have hp : (T.filter (fun k => s.contains k)).Perm s := (List.perm_ext_iff_of_nodup (hnd.filter _) hsn).2 hmem
        have h1 := hp.length_eq
        have h2 : (T.filter (fun k => s.contains k)).length = T.length := by omega
        have h3 := List.length_filter_eq_length_iff.1 h2 i hi
        rwa [List.contains_iff_mem] at h3
      have h := hexit vals w' hRw (fun i hi => hVs i (hall i hi)) w0 (hR.trans hw0 hRw)
      rw [done_congr (l' := l ++ T) (fun k => by simp only [List.mem_append]; exact ⟨fun h => h.imp id (hsT k), fun h => h.imp id (hall k)⟩)]
      exact h
    | succ m ih =>
      intro s vals w' hsn hsT hcl hlen hRw hVs
      have hf := List.all_eq_true.1 hs _ (filter_subs (fun k => s.contains k) T)
      have hmem : ∀ k, k ∈ T.filter (fun k => s.contains k) ↔ k ∈ s := by
        intro k
        rw [List.mem_filter]
        simp only [List.contains_iff_mem]
        exact ⟨fun h => h.2, fun h => ⟨hsT k h, h⟩⟩
      have hcl' : closedB ops T (T.filter (fun k => s.contains k)) = true := by
        unfold closedB at *
        rw [List.all_eq_true] at *
        intro i hi
        have h1 := hcl i ((hmem i).1 hi)
        rw [List.all_eq_true] at *
        intro j hj
        have h2 := h1 j hj
        rw [List.contains_iff_mem] at *
        exact (hmem j).2 h2
      have hlen' : (T.filter (fun k => s.contains k)).length = s.length := by
        have hp : (T.filter (fun k => s.contains k)).Perm s := (List.perm_ext_iff_of_nodup (hnd.filter _) hsn).2 hmem
        exact hp.length_eq
      have hdone : done ops.size (l ++ T.filter (fun k => s.contains k)) = done ops.size (l ++ s) := done_congr (fun k => by simp only [List.mem_append, hmem k])
      rw [hcl', hlen', hdone] at hf
      have hne : (s.length == T.length) = false := by simp; omega
      rw [hne] at hf
      simp only [Bool.not_true, Bool.false_or, Bool.and_eq_true, Bool.not_eq_true', List.isEmpty_eq_false_iff] at hf
      obtain ⟨hr1, hr2⟩ := hf
      refine wpAnyH_all rfl hr1 fun i hi => ?_
      have hiT : i ∈ T := by have := List.all_eq_true.1 hr2 i hi; rwa [List.contains_iff_mem] at this
      obtain ⟨hun, o, ho, hall⟩ := mem_ready.1 hi
      have his := done_no.1 hun
      have hdep : ∀ j ∈ depsIn ops T i, j ∈ s := by
        intro j hj
        unfold depsIn at hj
        rw [ho] at hj
        simp only [List.mem_filter, List.mem_map, List.contains_iff_mem] at hj
        obtain ⟨⟨e, ⟨he, hb⟩, rfl⟩, hjT⟩ := hj
        have h1 := done_yes.1 (hall e (by simpa using he) hb)
        rcases List.mem_append.1 h1.2 with h | h
        · have := List.all_eq_true.1 hl _ hjT
          simp only [Bool.not_eq_true', ← Bool.not_eq_true, List.contains_iff_mem] at this
          exact absurd h this
        · exact h
      have h := hstep i hiT o ho vals w' hRw (fun j hj => hVs j (hdep j hj))
      have hdst : o.dst = dstOf ops i := by unfold dstOf; rw [ho]; rfl
      have fin : ∀ a' w'', (R w' w'' ∧ ∃ v, a' = (putAll ops T a vals).put o.dst v ∧ V i v w'') → R w0 w'' ∧ wpAnyH P .any ops Q (R w0) (n + m) ((done ops.size (l ++ s)).setIfInBounds i true) a' w'' := by
        rintro a' w'' ⟨hRw', v, rfl, hv⟩
        have hRw2 := hR.trans hRw hRw'
        refine ⟨hR.trans hw0 hRw2, ?_⟩
        have hin : i ∉ s := fun h => his.2 (List.mem_append.2 (.inr h))
        have h2 := ih (i :: s) (upd vals i v) w'' (List.nodup_cons.2 ⟨hin, hsn⟩)
          (fun k hk => by rcases List.mem_cons.1 hk with rfl | hk; exact hiT; exact hsT k hk)
          (by
            unfold closedB at *
            rw [List.all_eq_true] at *
            intro k hk
            rw [List.all_eq_true]
            intro j hj
            rw [List.contains_iff_mem]
            rcases List.mem_cons.1 hk with rfl | hk
            · exact List.mem_cons_of_mem _ (hdep j hj)
            · have h1 := hcl k hk
              rw [List.all_eq_true] at h1
              have h2 := h1 j hj
              rw [List.contains_iff_mem] at h2
              exact List.mem_cons_of_mem _ h2)
          (by simp; omega) hRw2
          (fun k hk => by
            unfold upd
            rcases List.mem_cons.1 hk with rfl | hk
            · rw [if_pos rfl]; exact hv
            · rw [if_neg (fun (e : k = i) => hin (e ▸ hk))]; exact hV _ _ _ _ hRw' (hVs k hk))
        rw [hdst, putAll_upd T hd hiT]
        have e : done ops.size (l ++ i :: s) = (done ops.size (l ++ s)).setIfInBounds i true := by
          rw [← done_snoc]
          exact done_congr (mem_turn l s i)
        rw [← e]
        exact h2
      unfold wpList at h
      unfold wpOp
      simp only [ho]
      by_cases hw : Region.wanted o (yielded ops (putAll ops T a vals).tmps) = true
      · rw [if_pos hw] at h ⊢
        rcases h with h | ⟨h, a1, w1, h2⟩
        · exact .inl (Oper.wp_mono (fun a' w' h' => fin a' w' h') (Oper.wp_then h))
        · exact .inr ⟨h, a1, w1, h2⟩
      · rw [if_neg hw] at h ⊢
        exact fin _ _ h
  have h := main T.length [] (valsNow ops a) w List.nodup_nil (fun i hi => by cases hi) rfl (by simp) (hR.refl w) (fun i hi => by cases hi)
  rw [putAll_now, List.append_nil] at h
  exact h
/-- what a value is good for, as long as the world goes on by R -/
structure StV (R : World → World → Prop) where
  p : Value → World → Prop
  st : ∀ v w w', R w w' → p v w → p v w'
def StV.is (R : World → World → Prop) (c : Value) : StV R := ⟨fun v _ => v = c, fun _ _ _ _ h => h⟩
def StV.any (R : World → World → Prop) : StV R := ⟨fun _ _ => True, fun _ _ _ _ h => h⟩

def putL : List (Nat × Option Tmp) → Act → (Nat → Value) → Act
  | [], a, _ => a
  | (i, d) :: t, a, vals => (putL t a vals).put d (vals i)
theorem putL_eq {a : Act} {vals : Nat → Value} : ∀ (T : List Nat), putL (T.map fun i => (i, dstOf ops i)) a vals = putAll ops T a vals
  | [] => rfl
  | i :: t => by unfold putAll; rw [← putL_eq t]; rfl

/-- what is shown behind one of them -/
def StepPost (R : World → World → Prop) (V : StV R) (fr : Act) (d : Option Tmp) (w : World) : Act → World → Prop := fun a' w' => R w w' ∧ ∃ v, a' = fr.put d v ∧ V.p v w'
theorem StepPost.of {R : World → World → Prop} {V : StV R} {fr : Act} {d : Option Tmp} {w w' : World} (v : Value) {a' : Act} (h : a' = fr.put d v) (h1 : R w w') (h2 : V.p v w') : StepPost R V fr d w a' w' := ⟨h1, v, h, h2⟩

abbrev Stp1 (P : Program) (ops : Array Oper) (Q : Exit → Act → World → Prop) (R : World → World → Prop) (ds : List (Nat × Option Tmp)) (V : Nat → StV R) (a : Act) (w : World) (i : Nat) (o : Oper) : Prop :=
  ∀ (vals : Nat → Value) (w' : World), R w w' → (∀ j, (depsIn ops (ds.map (·.1)) i).contains j = true → (V j).p (vals j) w') →
    wpList P ops (Exit.then (StepPost R (V i) (putL ds a vals) o.dst w') Q) [o] (putL ds a vals) w'
theorem steps_nil {W : Nat → Oper → Prop} : ∀ j ∈ ([] : List Nat), ∀ o, ops[j]? = some o → W j o := fun j hj => by cases hj
theorem steps_cons {W : Nat → Oper → Prop} {i : Nat} {t : List Nat} {o0 : Oper} (h : ops[i]? = some o0) (h1 : W i o0) (h2 : ∀ j ∈ t, ∀ o, ops[j]? = some o → W j o) : ∀ j ∈ i :: t, ∀ o, ops[j]? = some o → W j o := by
  intro j hj o ho
  rcases List.mem_cons.1 hj with rfl | hj
  · rw [h] at ho; cases ho; exact h1
  · exact h2 j hj o ho

theorem Eg.parV (hR : Pre R) {l : List Nat} {n m : Nat} {a : Act} {w : World} (T : List Nat) (ds : List (Nat × Option Tmp)) (V : Nat → StV R) (hds : (T.map fun i => (i, dstOf ops i)) = ds) (hT : parOk ops l T = true) (hm : n + T.length = m)
    (hstep : ∀ i ∈ T, ∀ (o : Oper), ops[i]? = some o → Stp1 P ops Q R ds V a w i o)
    (hexit : ∀ (vals : Nat → Value) (w' : World), R w w' → (∀ i, T.contains i = true → (V i).p (vals i) w') → Eg P ops Q R n (l ++ T) (putL ds a vals) w') : Eg P ops Q R m l a w := by
  subst hds hm
  refine Eg.par hR (fun i => (V i).p) (fun i => (V i).st) hT ?_ ?_
  · intro i hi o ho vals w' hRw hd
    have h := hstep i hi o ho vals w' hRw (fun j hj => hd j (by rw [List.contains_iff_mem] at hj; simpa [List.map_map, Function.comp_def] using hj))
    rw [putL_eq] at h
    exact h
  · intro vals w' hRw hV
    have h := hexit vals w' hRw (fun i hi => hV i (by rwa [List.contains_iff_mem] at hi))
    rw [putL_eq] at h
    exact h
end

end Go.Proofs.Ytgbfeagoadlhmaa
