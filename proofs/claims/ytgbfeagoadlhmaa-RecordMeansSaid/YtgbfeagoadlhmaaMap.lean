
/-
  A map that the call makes, as a function: of a key, as read, its element; and how many entries it has. Over any program.
-/
import Derived.Test.YtgbfeagoadlhmaaBase
import Derived.Maps.OwnSet
import Derived.Maps.OwnIn
import Derived.Test.YtgbfeagoadlhmaaEager
set_option linter.unusedVariables false
set_option linter.unusedSimpArgs false
namespace Go.Proofs.Ytgbfeagoadlhmaa
open Go.RowKit Go.Maps Pl

/-- an element reads as itself -/
def heldR (v : Value) : Option (DataW Value × List MemPlace) := some (.held v, [])

/-- block b is a map of at most n entries; it holds F, and has c entries -/
def Mp (P : Program) (k : TypeId) (w : World) (b n : Nat) (F : Lit → Option Value) (c : Nat) : Prop :=
  ∃ D : DataW Value, w.ownsMap P k heldR b n D ∧ (∀ l v, F l = some v → ∀ z, D.atKey l z = .held v) ∧ (∀ l, F l = none → Maps.has D l = false) ∧ Maps.size D = c

/-- a map as a function, turned at one key -/
noncomputable def updF (F : Lit → Option Value) (kl : Lit) (o : Option Value) (l : Lit) : Option Value := @ite _ (l = kl) (Classical.propDecidable _) o (F l)
theorem updF_same (F : Lit → Option Value) (kl : Lit) (o : Option Value) : updF F kl o kl = o := by unfold updF; rw [if_pos rfl]
theorem updF_other (F : Lit → Option Value) {kl l : Lit} (o : Option Value) (h : l ≠ kl) : updF F kl o l = F l := by unfold updF; rw [if_neg h]

section
variable {P : Program} {k : TypeId} {w w' : World} {b n c : Nat} {F : Lit → Option Value}

theorem Mp.made (w : World) (P : Program) (k : TypeId) : Mp P k (w.alloc (.map #[] 0)) w.heap.size 0 (fun _ => none) 0 :=
  ⟨.map [], World.ownsMap_made w P k heldR, fun l v h => (by cases h), fun l _ => rfl, rfl⟩
theorem Mp.kept {row : Option Nat} (h : Mp P k w b n F c) (hg : w.grownBy w' row) (hne : some b ≠ row) : Mp P k w' b n F c := by
  obtain ⟨D, h1, h2⟩ := h
  exact ⟨D, h1.kept hg hne, h2⟩
theorem Mp.lt (h : Mp P k w b n F c) : b < w.heap.size := by obtain ⟨D, h1, _⟩ := h; exact h1.lt
theorem Mp.ext (h : Mp P k w b n F c) (hE : Ext w w') : Mp P k w' b n F c :=
  h.kept (row := none) ⟨Below.os hE, Below.tape hE, Below.output hE, hE.size, fun i hi _ => hE.block hi⟩ (by simp)
theorem Mp.mono (h : Mp P k w b n F c) {n' : Nat} (hn : n ≤ n') : Mp P k w b n' F c := by
  obtain ⟨D, h1, h2⟩ := h
  exact ⟨D, h1.mono hn, h2⟩
theorem Mp.drew (h : Mp P k w b n F c) : Mp P k w.drew b n F c := h
theorem Mp.count_le (h : Mp P k w b n F c) : c ≤ n := by obtain ⟨D, h1, _, _, h4⟩ := h; rw [← h4]; exact h1.size_le

variable {t e : TypeId} {z key val : Value} {kl : Lit}

theorem Mp.look (h : Mp P k w b n F c) (K : Keyed P k) (ht : P.underlying t = some (.map k e)) (hz : (zeroValue e).run P w = .ok z w) (hkey : keyOf P k key = some kl) :
    (Instr.lookup t (.map (some b)) key true).run P w = .ok (.tuple #[(F kl).getD z, .bool (F kl).isSome]) w := by
  obtain ⟨D, h1, h2, h3, _⟩ := h
  obtain ⟨v, ps, hr, hv⟩ := h1.look_ok K ht hz (zd := .held z) (zp := []) rfl hkey
  simp only [heldR, Option.some.injEq, Prod.mk.injEq] at hv
  cases hF : F kl with
  | none =>
    have hh := h3 kl hF
    rw [hh] at hr
    rw [Maps.atKey_of_not_has hh] at hv
    have : v = z := by injection hv.1
    rw [hr, this]; rfl
  | some v0 =>
    have hh := h2 kl v0 hF
    rw [Maps.has_true_of_atKey hh] at hr
    rw [hh] at hv
    have : v = v0 := by injection hv.1
    rw [hr, this]; rfl
theorem Mp.len (h : Mp P k w b n F c) (ht : P.underlying t = some (.map k e)) (ty : TypeId) : (Builtin.len_ #[t] ty #[.map (some b)]).run P w = .ok (.int .i64 (c : Int)) w := by
  obtain ⟨D, h1, _, _, h4⟩ := h
  rw [h1.len ht ty, h4]
theorem Mp.store (h : Mp P k w b n F c) (K : Keyed P k) (ht : P.underlying t = some (.map k e)) (hn : n < maxLen) (hkey : keyOf P k key = some kl) (val : Value) :
    ∃ w', (Instr.mapUpdate t (.map (some b)) key val).run P w = .ok () w' ∧ Mp P k w' b (n + 1) (updF F kl (some val)) (if (F kl).isSome then c else c + 1) ∧ w.mapTurned w' b := by
  obtain ⟨D, h1, h2, h3, h4⟩ := h
  have htd := h1.tidy K
  obtain ⟨w', r1, r2, r3⟩ := h1.store K ht hn hkey (d := .held val) (ps := []) rfl
  refine ⟨w', r1, ⟨_, r2, fun l v hl z => ?_, fun l hl => ?_, ?_⟩, r3⟩
  · by_cases hlk : l = kl
    · subst hlk
      rw [updF_same] at hl
      cases hl
      exact Maps.atKey_put_same h1.isMap (K.key hkey) _ _
    · rw [updF_other _ _ hlk] at hl
      rw [Maps.atKey_put_other hlk]
      exact h2 l v hl z
  · by_cases hlk : l = kl
    · rw [hlk, updF_same] at hl; cases hl
    · rw [updF_other _ _ hlk] at hl
      rw [Maps.has_put_other hlk]
      exact h3 l hl
  · rw [Maps.size_put htd, h4]
    cases hF : F kl with
    | none => rw [h3 kl hF]; rfl
    | some v => rw [Maps.has_true_of_atKey (h2 kl v hF)]; rfl
theorem Mp.drop (h : Mp P k w b n F c) (K : Keyed P k) (ht : P.underlying t = some (.map k e)) (hkey : keyOf P k key = some kl) (ty : TypeId) :
    ∃ w' c', (Builtin.delete_ #[t, k] ty #[.map (some b), key]).run P w = .ok (.tuple #[]) w' ∧ Mp P k w' b n (updF F kl none) c' ∧ c' + (if (F kl).isSome then 1 else 0) = c ∧ w.mapTurned w' b := by
  obtain ⟨D, h1, h2, h3, h4⟩ := h
  have htd := h1.tidy K
  obtain ⟨w', r1, r2, r3⟩ := h1.drop K ht hkey ty
  refine ⟨w', _, r1, ⟨_, r2, fun l v hl z => ?_, fun l hl => ?_, rfl⟩, ?_, r3⟩
  · by_cases hlk : l = kl
    · rw [hlk, updF_same] at hl; cases hl
    · rw [updF_other _ _ hlk] at hl
      rw [Maps.atKey_del_other hlk]
      exact h2 l v hl z
  · by_cases hlk : l = kl
    · subst hlk; exact Maps.has_del_same
    · rw [updF_other _ _ hlk] at hl
      rw [Maps.has_del_other hlk]
      exact h3 l hl
  · have := Maps.size_del htd (k := kl)
    rw [h4] at this
    cases hF : F kl with
    | none => rw [h3 kl hF] at this; simpa using this
    | some v => rw [Maps.has_true_of_atKey (h2 kl v hF)] at this; simpa using this
end

end Go.Proofs.Ytgbfeagoadlhmaa

/-
  A map that the call makes: its laws at the walk's operations. Over any program.
-/
namespace Go.Proofs.Ytgbfeagoadlhmaa
open Go.RowKit Go.Maps Pl

section
variable {P : Program} {k t e : TypeId} {w : World} {b n c : Nat} {F : Lit → Option Value} {z key : Value} {kl : Lit}

theorem lookup_run (h : Mp P k w b n F c) (K : Keyed P k) (ht : P.underlying t = some (.map k e)) (hz : (zeroValue e).run P w = .ok z w) {o : Oper} {m x : Operand} (ho : o.op = .lookup t m x true) {ρ : Operand → Value} (hm : ρ m = .map (some b)) (hx : ρ x = key) (hkey : keyOf P k key = some kl) :
    (execOp ρ o).run P w = .ok (.value (.tuple #[(F kl).getD z, .bool (F kl).isSome])) w := by
  have h1 := h.look K ht hz hkey
  simp [execOp, ho, hm, hx, h1, Result.andThen]
theorem lookup_none (h : Mp P k w b n F c) (K : Keyed P k) (ht : P.underlying t = some (.map k e)) (hz : (zeroValue e).run P w = .ok z w) (hkey : keyOf P k key = some kl) (hF : F kl = none) {o : Oper} {m x : Operand} (ho : o.op = .lookup t m x true) {ρ : Operand → Value} (hm : ρ m = .map (some b)) (hx : ρ x = key) :
    (execOp ρ o).run P w = .ok (.value (.tuple #[z, .bool false])) w := by
  have h1 := lookup_run h K ht hz ho hm hx hkey
  rw [hF] at h1
  exact h1
theorem lookup_some (h : Mp P k w b n F c) (K : Keyed P k) (ht : P.underlying t = some (.map k e)) (hz : (zeroValue e).run P w = .ok z w) (hkey : keyOf P k key = some kl) {v : Value} (hF : F kl = some v) {o : Oper} {m x : Operand} (ho : o.op = .lookup t m x true) {ρ : Operand → Value} (hm : ρ m = .map (some b)) (hx : ρ x = key) :
    (execOp ρ o).run P w = .ok (.value (.tuple #[v, .bool true])) w := by
  have h1 := lookup_run h K ht hz ho hm hx hkey
  rw [hF] at h1
  exact h1
theorem cell_grown {w w' : World} {row : Option Nat} {p : Addr} {v : Value} (h : w.cell? p = some v) (hg : w.grownBy w' row) (hne : some p.block ≠ row) : w'.cell? p = some v := by
  rw [World.cell?_of_block (w := w) (hg.block p.block (block_lt_of_cell h) hne)]
  exact h
theorem len_run (h : Mp P k w b n F c) (ht : P.underlying t = some (.map k e)) {o : Oper} {m : Operand} (ho : o.op = .call { callee := .builtin .len, args := #[m], argTypes := #[t] }) {ρ : Operand → Value} (hm : ρ m = .map (some b)) :
    (execOp ρ o).run P w = .ok (.value (.int .i64 (c : Int))) w := by
  have h1 := h.len ht o.type
  simp [execOp, ho, resolve, invoke, builtin, hm, h1, Result.andThen]

variable {ops : Array Oper} {rest : List Oper} {o : Oper} {a : Act} {Q : Exit → Act → World → Prop}
theorem wpList_store_mp (h : Mp P k w b n F c) (K : Keyed P k) (ht : P.underlying t = some (.map k e)) (hn : n < maxLen) (hg : o.guard = none) (m x v : Operand) (hop : o.op = Op.mapUpdate t m x v) (hm : a.eval m = .map (some b)) (hx : a.eval x = key) (hkey : keyOf P k key = some kl) (val : Value) (hv : a.eval v = val)
    (hK : ∀ w', Mp P k w' b (n + 1) (updF F kl (some val)) (if (F kl).isSome then c else c + 1) → w.grownBy w' (some b) → wpList P ops Q rest (a.put o.dst undef) w') : wpList P ops Q (o :: rest) a w := by
  refine wpList_plain hg fun K' hK' => ?_
  obtain ⟨w', hrun, r1, r2⟩ := h.store K ht hn hkey val
  unfold Oper.wp
  simp [execOp, hop, hm, hx, hv, hrun, Result.andThen]
  exact hK' _ _ (hK w' r1 r2.grown)
theorem wpList_delete_mp (h : Mp P k w b n F c) (K : Keyed P k) (ht : P.underlying t = some (.map k e)) (hg : o.guard = none) (m x : Operand) (hop : o.op = Op.call { callee := Callee.builtin Builtin.delete, args := #[m, x], argTypes := #[t, k] }) (hm : a.eval m = .map (some b)) (hx : a.eval x = key) (hkey : keyOf P k key = some kl)
    (hK : ∀ w' c', Mp P k w' b n (updF F kl none) c' → c' + (if (F kl).isSome then 1 else 0) = c → w.grownBy w' (some b) → wpList P ops Q rest (a.put o.dst (.tuple #[])) w') : wpList P ops Q (o :: rest) a w := by
  refine wpList_plain hg fun K' hK' => ?_
  obtain ⟨w', c', hrun, r1, r2, r3⟩ := h.drop K ht hkey o.type
  unfold Oper.wp
  simp [execOp, hop, resolve, invoke, builtin, hm, hx, hrun, Result.andThen]
  exact hK' _ _ (hK w' c' r1 r2 r3.grown)
end

end Go.Proofs.Ytgbfeagoadlhmaa
