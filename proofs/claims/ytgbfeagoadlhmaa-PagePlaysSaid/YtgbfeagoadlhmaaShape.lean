
/-
  A relation for drawn regions that make blocks and write them: old blocks are as they were, all keep their sizes. Over any program.
-/
import Derived.Test.YtgbfeagoadlhmaaPar
import Derived.Test.YtgbfeagoadlhmaaTwo
import Derived.Test.YtgbfeagoadlhmaaCrcA
set_option linter.unusedVariables false
set_option linter.unusedSimpArgs false
namespace Go.Proofs.Ytgbfeagoadlhmaa
open Go.RowKit Pl

/-- blocks below B are as they were, and so are all but those of type T; these keep their sizes -/
def Rs (T : TypeId) (B : Nat) (w w' : World) : Prop := Below B w w' ∧ ∀ g t cs, Blk w g t cs → ∃ cs', Blk w' g t cs' ∧ cs'.size = cs.size ∧ (t ≠ T → cs' = cs)
theorem rs_pre (T : TypeId) (B : Nat) : Pre (Rs T B) :=
  ⟨fun w => ⟨Below.refl _ _, fun g t cs h => ⟨cs, h, rfl, fun _ => rfl⟩⟩, fun {a b c} h k => ⟨Below.trans h.1 k.1, fun g t cs hb => by
    obtain ⟨c1, h1, e1, n1⟩ := h.2 g t cs hb
    obtain ⟨c2, h2, e2, n2⟩ := k.2 g t c1 h1
    exact ⟨c2, h2, by rw [e2, e1], fun hn => by rw [n2 hn, n1 hn]⟩⟩⟩
theorem Rs.of_ext {T : TypeId} {B : Nat} {w w' : World} (h : Ext w w') (hB : B ≤ w.heap.size) : Rs T B w w' := ⟨Below.mono h hB, fun g t cs hb => ⟨cs, hb.ext h, rfl, fun _ => rfl⟩⟩
theorem Rs.setRow {T : TypeId} {B : Nat} {w : World} {g : Nat} {cs : Array Value} (hB : B ≤ g) (hb : Blk w g T cs) (cs' : Array Value) (hs : cs'.size = cs.size) : Rs T B w (w.setRow g cs') := by
  refine ⟨⟨rfl, rfl, rfl, by rw [size_setRow]; exact Nat.le_refl _, fun k hk => setRow_other w g k cs' (by omega)⟩, fun g' t' c h => ?_⟩
  by_cases hg : g' = g
  · subst hg
    unfold Blk at h hb
    rw [h] at hb
    cases hb
    exact ⟨cs', Blk.row h cs', hs, fun hn => absurd rfl hn⟩
  · exact ⟨c, Blk.rowFar h cs' hg, rfl, fun _ => rfl⟩
/-- a pointer to a block of so many cells, behind a number of blocks -/
def StV.blk (B : Nat) (T : TypeId) (n : Nat) : StV (Rs T B) := ⟨fun v W => ∃ g cs, v = .pointer (some ⟨g, 0, none⟩) ∧ B ≤ g ∧ Blk W g T cs ∧ cs.size = n, fun v w w' hR h => by
  obtain ⟨g, cs, h1, h2, h3, h4⟩ := h
  obtain ⟨c', h5, h6, _⟩ := hR.2 g T cs h3
  exact ⟨g, c', h1, h2, h5, by rw [h6, h4]⟩⟩
/-- a slice of bytes, a block of its own -/
def StV.own8 (T e : TypeId) (he : e ≠ T) (B : Nat) (l : List UInt8) : StV (Rs T B) := ⟨fun v W => ∃ g, v = .slice (some ⟨g, 0, none⟩) l.length l.length ∧ Blk W g e (cells8 l), fun v w w' hR h => by
  obtain ⟨g, h1, h2⟩ := h
  obtain ⟨c', h5, h6, h7⟩ := hR.2 g e _ h2
  rw [h7 he] at h5
  exact ⟨g, h1, h5⟩⟩
theorem ext_drew2 {a b : World} (h : Ext a b) : Ext a.drew b.drew := by
  obtain ⟨h1, h2, h3, h4, h5⟩ := h
  exact ⟨h1, by first | exact h2 | exact congrArg _ h2, h3, h4, h5⟩
theorem alloc_facts {w wn : World} {t : TypeId} {cs : Array Value} (h : w.alloc (.cells cs t) = wn) : Blk wn w.heap.size t cs ∧ Ext w wn := by subst h; exact ⟨Blk.new _ _ _, (Ext.refl w).alloc _⟩

end Go.Proofs.Ytgbfeagoadlhmaa
