
/-
  Flights that are the caller's: their bytes turned.
-/
import Derived.Test.YtahooohokdbnpaaTwinB
set_option linter.unusedVariables false
set_option linter.unusedSimpArgs false
namespace Go.Proofs.Ytahooohokdbnpaa
open Go.RowKit Go.Shelf Go.Maps Pl

attribute [local go_sem] Oper.semAt_some

theorem load_byte {w : World} {p : Addr} {x : Int} (h : w.cell? p = some (.int .u8 x)) : (Instr.loadAt 5 (.pointer (some p))).run Try.prog w = .ok (.int .u8 x) w := by
  simp [go_sem, h]
/-- n flights whose bytes lie in blocks from B on -/
def MU (B : Nat) (W : World) (A : Option Addr) (len : Nat → Nat) (n : Nat) : Prop :=
  n = 0 ∨ ∃ gr, A = some ⟨gr, 0, none⟩ ∧ ∀ i, i < n → ∃ Ab cb, W.cell? ⟨gr, i * 3 + 2, none⟩ = some (.slice Ab (len i) cb) ∧ BRow W Ab (len i) ∧ (len i = 0 ∨ ∃ g, Ab = some ⟨g, 0, none⟩ ∧ B ≤ g ∧ g ≠ gr)
theorem MU.set {B : Nat} {W : World} {A : Option Addr} {len : Nat → Nat} {n : Nat} (h : MU B W A len n) {gr : Nat} (hA : A = some ⟨gr, 0, none⟩) {g k : Nat} (hg : g ≠ gr) (y : Int) : MU B (W.setCell ⟨g, k, none⟩ (.int .u8 y)) A len n := by
  rcases h with h | ⟨gr', e, h⟩
  · exact .inl h
  · rw [hA] at e
    cases e
    refine .inr ⟨gr, hA, fun i hi => ?_⟩
    obtain ⟨Ab, cb, h1, h2, h3⟩ := h i hi
    refine ⟨Ab, cb, ?_, ?_, h3⟩
    · rw [World.cell?_setCell_other _ _ _ _ (fun e => hg (congrArg Addr.block e))]
      exact h1
    · rcases h2 with h2 | ⟨go, cur, rfl, hb, hx⟩
      · exact .inl h2
      · by_cases e : go = g
        · subst e
          exact BRow.set hb hx y
        · exact .inr ⟨go, cur, rfl, hb.far (p := ⟨g, k, none⟩) e _, hx⟩
theorem MU.ext {B : Nat} {W W' : World} {A : Option Addr} {len : Nat → Nat} {n : Nat} (h : MU B W A len n) (hE : Ext W W') : MU B W' A len n := by
  rcases h with h | ⟨gr, e, h⟩
  · exact .inl h
  · refine .inr ⟨gr, e, fun i hi => ?_⟩
    obtain ⟨Ab, cb, h1, h2, h3⟩ := h i hi
    refine ⟨Ab, cb, hE.cell h1, ?_, h3⟩
    rcases h2 with h2 | ⟨go, cur, e', hb, hx⟩
    · exact .inl h2
    · exact .inr ⟨go, cur, e', hb.ext hE, hx⟩
theorem mu_of {W : World} {B : Nat} {A : Option Addr} {n c : Nat} {cs : List Value} {G : List Fl} (hn : G.length = n) (hr : W.ownsRow B 45 3 (.slice A n c) n cs) (ho : FlOwn W B cs G) : MU B W A (fun i => (G.getD i fl0).b.length) n := by
  obtain ⟨h1, h2⟩ := hr
  rcases h2 with ⟨e, h0⟩ | ⟨g, cap, cur, e, hb, hh, hnc, hm, hs, ht⟩
  · exact .inl h0
  · cases e
    refine .inr ⟨g, rfl, fun i hi => ?_⟩
    obtain ⟨vb, k0, k1, k2, k3⟩ := ho.2 i (by rw [hn]; exact hi)
    obtain ⟨Ab, cb, e', _, _, _⟩ := k3.form
    subst e'
    refine ⟨Ab, cb, ?_, Own.brow k3, ?_⟩
    · rw [Blk.cell (t := 45) hh, ← Array.getElem?_toList]
      have k2' := k2
      rw [← ht, List.getElem?_take_of_lt (by omega)] at k2'
      rw [Nat.mul_comm i 3]
      exact k2'
    · obtain ⟨_, q2⟩ := k3
      rcases q2 with ⟨_, hz⟩ | ⟨g', cap', cur', e2, hb', hh', _⟩
      · exact .inl hz
      · cases e2
        exact .inr ⟨g', rfl, hb', fun e => by subst e; exact absurd (Blk.type (t := 45) hh hh').1 (by decide)⟩
theorem FlX.take {w : World} {A : Option Addr} {fs : List Fl} (h : FlX w A fs) (k : Nat) : FlX w A (fs.take k) := by
  rcases h with rfl | ⟨gr, o, e, hi⟩
  · exact .inl (by simp)
  · refine .inr ⟨gr, o, e, fun i hl => ?_⟩
    rw [List.length_take] at hl
    have e2 : (fs.take k).getD i fl0 = fs.getD i fl0 := by rw [List.getD_eq_getElem?_getD, List.getElem?_take_of_lt (by omega), List.getD_eq_getElem?_getD]
    rw [e2]
    exact hi i (by omega)
theorem upTo_x {w : World} {A : Option Addr} {F : List Fl} (h : FlX w A F) (z : Int) : FlX w A (upTo F z) := by
  unfold upTo
  split
  · exact h.take _
  · exact h

end Go.Proofs.Ytahooohokdbnpaa
