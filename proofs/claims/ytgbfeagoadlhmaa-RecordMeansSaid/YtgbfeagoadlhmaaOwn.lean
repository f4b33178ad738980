
/-
  Bytes that the call itself owns: append onto them. Over any program.
-/
import Derived.Test.YtgbfeagoadlhmaaBase
set_option linter.unusedVariables false
set_option linter.unusedSimpArgs false
namespace Go.Proofs.Ytgbfeagoadlhmaa
open Go.RowKit Pl

/-- v is a slice of the call's own (its block from B on), and reads as the bytes l; e: the element type's number -/
def Own (e : TypeId) (w : World) (B : Nat) (v : Value) (l : List UInt8) : Prop := w.ownsRow B e 1 v l.length (l.map u8)

section
variable {P : Program} {e : TypeId} {w w' : World} {B : Nat} {v : Value} {l : List UInt8}

theorem Own.nil (e : TypeId) (w : World) (B : Nat) : Own e w B (.slice none 0 0) [] := World.ownsRow_nil w B e 1
theorem Own.alloc (h : Own e w B v l) (o : Obj) : Own e (w.alloc o) B v l := World.ownsRow.alloc h o
theorem Own.drew (h : Own e w B v l) : Own e w.drew B v l := h
theorem Own.kept {row : Option Nat} (h : Own e w B v l) (hg : w.grownBy w' row) (hne : v.ownBlock = none ∨ v.ownBlock ≠ row) : Own e w' B v l := World.ownsRow.kept h hg hne
theorem Own.lt (h : Own e w B v l) : ∀ k, v.ownBlock = some k → B ≤ k ∧ k < w.heap.size := World.ownsRow.lt h
theorem Own.ext (h : Own e w B v l) (hb : Ext w w') : Own e w' B v l :=
  World.ownsRow.kept h (row := none) ⟨Below.os hb, Below.tape hb, Below.output hb, Below.size hb, fun k hk _ => hb.block hk⟩ (by cases v.ownBlock <;> simp)

theorem Own.form (h : Own e w B v l) : ∃ A c, v = .slice A l.length c ∧ By w A l ∧ l.length ≤ c ∧ c ≤ maxLen := by
  obtain ⟨_, h2⟩ := h
  rcases h2 with ⟨rfl, hn⟩ | ⟨g, cap, cur, rfl, hb, hh, hnc, hcm, hcs, ht⟩
  · have : l = [] := List.eq_nil_of_length_eq_zero hn
    subst this
    exact ⟨none, 0, rfl, .inl rfl, Nat.le_refl _, Nat.zero_le _⟩
  · refine ⟨some ⟨g, 0, none⟩, cap, rfl, .inr ⟨g, 0, rfl, fun i hi => ?_⟩, hnc, hcm⟩
    rw [Nat.zero_add, cell_of_row w g i cur e (0, 0) hh]
    have hsz : i < cur.size := by omega
    have h1 : (cur.toList.take (l.length * 1))[i]? = (l.map u8)[i]? := by rw [ht]
    rw [List.getElem?_take_of_lt (by omega)] at h1
    rw [← Array.getElem?_toList, h1]
    simp [u8, at8, List.getElem?_eq_getElem hi, List.getD_eq_getElem?_getD]

theorem Own.down (h : Own e w B v l) {B' : Nat} (hB : B' ≤ B) : Own e w B' v l := by
  obtain ⟨h1, h2⟩ := h
  refine ⟨h1, ?_⟩
  rcases h2 with h2 | ⟨g, cap, cur, hv, hb, r⟩
  · exact .inl h2
  · exact .inr ⟨g, cap, cur, hv, Nat.le_trans hB hb, r⟩

theorem oneCell_u8 (l : List UInt8) : ∀ u ∈ l.map u8, u.oneCell' = true := by
  intro u hu
  simp at hu
  obtain ⟨c, _, rfl⟩ := hu
  rfl

theorem By.news {ad : Addr} (h : By w (some ad) l) : ∀ j u, (l.map u8)[j]? = some u → w.cell? (ad.add j) = some u := by
  intro j u hu
  have hj : j < l.length := by
    rcases Nat.lt_or_ge j l.length with h | h
    · exact h
    · rw [List.getElem?_eq_none (by simpa using h)] at hu; cases hu
  rcases h with rfl | ⟨b, o, e, hc⟩
  · simp at hj
  · cases e
    have h1 : (⟨b, o, none⟩ : Addr).add j = ⟨b, o + j, none⟩ := by unfold Addr.add; split <;> simp_all
    rw [h1, hc j hj, ← hu]
    simp [u8, at8, List.getElem?_eq_getElem hj, List.getD_eq_getElem?_getD]

/-- what append needs to know of []byte -/
structure Byt (P : Program) (t e : TypeId) : Prop where
  und : P.underlying t = some (.slice e)
  info : (P.info? e).map (fun i => (i.zero, i.size, i.bytes)) = some (some (.int .u8 0), 1, 1)

theorem run_append8 {t : TypeId} (hb : Byt P t e) (ty : TypeId) (hown : Own e w B v l) (A : Option Addr) (m c : Nat) (l2 : List UInt8) (h : By w A l2) (hm : m = l2.length)
    (hsz : l.length + l2.length ≤ 70368744177664) (hB : B ≤ w.heap.size) :
    ∃ v' w', (Builtin.append_ #[t, t] ty #[v, .slice A m c]).run P w = .ok v' w' ∧ Own e w' B v' (l ++ l2) ∧ w.grownBy w' v.ownBlock ∧ (v'.ownBlock = v.ownBlock ∨ v'.ownBlock = some w.heap.size) := by
  obtain ⟨i, hi, hz, hs, hby⟩ := info_parts hb.info
  subst hm
  cases A with
  | none =>
    have hn : l2 = [] := by
      rcases h with h | ⟨b, o, e, _⟩
      · exact h
      · cases e
    subst hn
    refine ⟨v, w, ?_, by simpa using hown, World.grownBy.refl w _, .inl rfl⟩
    rcases hown.2 with ⟨rfl, _⟩ | ⟨g, cap, cur, rfl, _, _, hnc, _⟩
    · simp [Builtin.append_, run_underlying hb.und, sizeOf, typeInfo, hi, Builtin.lenOf, Builtin.firstCells]
    · simp [Builtin.append_, run_underlying hb.und, sizeOf, typeInfo, hi, Builtin.lenOf, Builtin.firstCells, hnc, storeCells]
  | some ad =>
    obtain ⟨v', w', h1, h2, h3, _, h5⟩ := run_append_own_at (P := P) w B t ty e i (.int .u8 0) 1 1 hb.und hi hz hs hby rfl (by decide) v l.length (l.map u8) hown ad l2.length c (l2.map u8)
      (by simp) h.news (oneCell_u8 _) (by unfold maxLen; omega) (by omega) hB
    exact ⟨v', w', h1, by unfold Own; rw [List.length_append, List.map_append]; exact h2, h3, h5⟩

theorem wpList_append8 {t : TypeId} (hb : Byt P t e) {ops : Array Oper} {rest : List Oper} {o : Oper} {a : Act} {Q : Exit → Act → World → Prop} (hgd : o.guard = none) (s x : Operand)
    (ho : o.op = .call { callee := .builtin .append, args := #[s, x], argTypes := #[t, t] })
    (hs : a.eval s = v) (hown : Own e w B v l) (A : Option Addr) (m c : Nat) (hx : a.eval x = .slice A m c) (l2 : List UInt8) (h : By w A l2) (hm : m = l2.length)
    (hsz : l.length + l2.length ≤ 70368744177664) (hB : B ≤ w.heap.size)
    (hk : ∀ v' w', Own e w' B v' (l ++ l2) → w.grownBy w' v.ownBlock → (v'.ownBlock = v.ownBlock ∨ v'.ownBlock = some w.heap.size) → wpList P ops Q rest (a.put o.dst v') w') : wpList P ops Q (o :: rest) a w := by
  refine wpList_plain hgd fun _ hK => ?_
  obtain ⟨v', w', hr, h2, h3, h4⟩ := run_append8 hb o.type hown A m c l2 h hm hsz hB
  unfold Oper.wp execOp
  simp only [ho, resolve, invoke, builtin, Sem.run_bind, Sem.run_pure, Result.andThen_ok, List.map_toArray, List.map_cons, List.map_nil, hs, hx, hr]
  exact hK _ _ (hk v' w' h2 h3 h4)

theorem By.one (w : World) (c : UInt8) (t : TypeId) : By (w.alloc (.cells #[u8 c] t)) (some ⟨w.heap.size, 0, none⟩) [c] :=
  By.of_blk (l := [c]) (Blk.new w t #[u8 c])

/-- what the call owns, and nobody else writes, is kept from what came before -/
theorem Ext.append {w0 : World} (h : Ext w0 w) (hg : w.grownBy w' v.ownBlock) (hown : Own e w w0.heap.size v l) : Ext w0 w' :=
  h.grown hg (fun k hk => (hown.lt k hk).1)
end

end Go.Proofs.Ytgbfeagoadlhmaa
