
/-
  Words for memory: a block that is known whole; a slice that reads as bytes; what a call leaves alone. No function of the program in sight.
-/
import Derived.Test.YtgbfeagoadlhmaaPlain
import Derived.WalkKit
import Derived.WalkSpells
import Derived.WalkLawsBesides
import Derived.Lib.Hide
import Derived.Maps.AppendAt
import Derived.Laws.BytesArg
import Derived.Deep.Draws
namespace Go.Proofs.Ytgbfeagoadlhmaa
open Go.RowKit Pl

/-- what was there when the call began is as it was -/
def Ext (w w' : World) : Prop := Below w.heap.size w w'

theorem Ext.refl (w : World) : Ext w w := Below.refl _ _
theorem Ext.trans {a b c : World} (h : Ext a b) (k : Ext b c) : Ext a c := Below.trans h (Below.mono k h.size)
theorem Ext.size {a b : World} (h : Ext a b) : a.heap.size ≤ b.heap.size := Below.size h
theorem Ext.block {a b : World} (h : Ext a b) {k : Nat} (hk : k < a.heap.size) : b.heap[k]? = a.heap[k]? := Below.block h k hk
theorem Ext.cell {a b : World} (h : Ext a b) {p : Addr} {v : Value} (hc : a.cell? p = some v) : b.cell? p = some v := (Below.cell h (block_lt_of_cell hc)).trans hc
theorem Ext.cell_eq {a b : World} (h : Ext a b) {p : Addr} (hp : p.block < a.heap.size) : b.cell? p = a.cell? p := Below.cell h hp
theorem Ext.frozen_eq {a b : World} (h : Ext a b) {p : Addr} (hp : p.block < a.heap.size) : b.frozen? p = a.frozen? p := Below.frozen h hp
theorem Ext.drew {a w : World} (h : Ext a w) : Ext a w.drew := Below.drew h
theorem Ext.drewN {a w : World} (h : Ext a w) (n : Nat) : Ext a (w.drewN n) := by
  obtain ⟨h1, h2, h3, h4, h5⟩ := h
  exact ⟨h1, h2, h3, h4, h5⟩
theorem Ext.alloc {a w : World} (h : Ext a w) (o : Obj) : Ext a (w.alloc o) := Below.alloc h h.size o
theorem Ext.setCell {a w : World} (h : Ext a w) {p : Addr} (hp : a.heap.size ≤ p.block) (u : Value) : Ext a (w.setCell p u) := Below.setCell h hp u
theorem Ext.grown {a w w' : World} {row : Option Nat} (h : Ext a w) (hg : w.grownBy w' row) (hr : ∀ k, row = some k → a.heap.size ≤ k) : Ext a w' := Below.grown h hg h.size hr
theorem Ext.own {a w w' : World} (h : w.grownBy w' none) (k : Ext a w) : Ext a w' := k.grown h (fun _ e => by cases e)

/-- block g is just the cells cs of element type t, none of them frozen -/
def Blk (w : World) (g : Nat) (t : TypeId) (cs : Array Value) : Prop := w.heap[g]? = some (.cells cs t (0, 0))

section
variable {w w' : World} {g : Nat} {t : TypeId} {cs : Array Value}
theorem Blk.lt (h : Blk w g t cs) : g < w.heap.size := by
  rcases Nat.lt_or_ge g w.heap.size with hlt | hge
  · exact hlt
  · unfold Blk at h; rw [Array.getElem?_eq_none hge] at h; cases h
theorem Blk.cell (h : Blk w g t cs) (i : Nat) : w.cell? ⟨g, i, none⟩ = cs[i]? := cell_of_row w g i cs t (0, 0) h
theorem Blk.frozen (h : Blk w g t cs) (i : Nat) : w.frozen? ⟨g, i, none⟩ = false := frozen_of_row w g i cs t h
theorem Blk.new (w : World) (t : TypeId) (cs : Array Value) : Blk (w.alloc (.cells cs t)) w.heap.size t cs := heap_alloc_new w _
theorem Blk.alloc (h : Blk w g t cs) (o : Obj) : Blk (w.alloc o) g t cs := (heap_alloc_old w o h.lt).trans h
theorem Blk.drew (h : Blk w g t cs) : Blk w.drew g t cs := h
theorem Blk.set (h : Blk w g t cs) (i : Nat) (u : Value) : Blk (w.setCell ⟨g, i, none⟩ u) g t (cs.setIfInBounds i u) := heap_setCell_same w g i cs t u h
theorem Blk.far (h : Blk w g t cs) {p : Addr} (hp : g ≠ p.block) (u : Value) : Blk (w.setCell p u) g t cs := (heap_setCell_other w p g u hp).trans h
theorem Blk.ext (h : Blk w g t cs) (hb : Ext w w') : Blk w' g t cs := (hb.block h.lt).trans h
theorem Blk.grown {row : Option Nat} (h : Blk w g t cs) (hb : w.grownBy w' row) (hg : some g ≠ row) : Blk w' g t cs := (hb.block g h.lt hg).trans h
end

/-- a byte as a value -/
def u8 (c : UInt8) : Value := .int .u8 (c.toNat : Int)
/-- bytes as cells -/
def cells8 (l : List UInt8) : Array Value := (l.map u8).toArray
theorem cells8_size (l : List UInt8) : (cells8 l).size = l.length := by simp [cells8]
theorem cells8_get (l : List UInt8) (i : Nat) (h : i < l.length) : (cells8 l)[i]? = some (.int .u8 (at8 l i)) := by
  simp [cells8, u8, at8, List.getElem?_eq_getElem h, List.getD_eq_getElem?_getD]

/-- the slice at A reads as the bytes l -/
def By (w : World) (A : Option Addr) (l : List UInt8) : Prop :=
  l = [] ∨ ∃ b o, A = some ⟨b, o, none⟩ ∧ ∀ i, i < l.length → w.cell? ⟨b, o + i, none⟩ = some (.int .u8 (at8 l i))

section
variable {w w' : World} {A : Option Addr} {l : List UInt8}
theorem By.nil {w : World} {A : Option Addr} : By w A [] := .inl rfl
theorem By.at_ (h : By w A l) (hl : 0 < l.length) : ∃ b o, A = some ⟨b, o, none⟩ ∧ ∀ i, i < l.length → w.cell? ⟨b, o + i, none⟩ = some (.int .u8 (at8 l i)) := by
  rcases h with rfl | h
  · simp at hl
  · exact h
theorem By.ext (h : By w A l) (hb : Ext w w') : By w' A l := by
  rcases h with rfl | ⟨b, o, rfl, hc⟩
  · exact .inl rfl
  · exact .inr ⟨b, o, rfl, fun i hi => hb.cell (hc i hi)⟩
theorem By.keep (h : By w A l) (hk : ∀ p v, w.cell? p = some v → w'.cell? p = some v) : By w' A l := by
  rcases h with rfl | ⟨b, o, rfl, hc⟩
  · exact .inl rfl
  · exact .inr ⟨b, o, rfl, fun i hi => hk _ _ (hc i hi)⟩
theorem By.drew (h : By w A l) : By w.drew A l := h
theorem By.of_blk {g : Nat} {t : TypeId} (h : Blk w g t (cells8 l)) : By w (some ⟨g, 0, none⟩) l :=
  .inr ⟨g, 0, rfl, fun i hi => by rw [Nat.zero_add, h.cell]; exact cells8_get l i hi⟩
end

theorem strOfNums_at8 (l : List UInt8) : strOfNums ((List.range l.length).map (at8 l)) = ⟨l.toArray⟩ := by
  unfold strOfNums
  congr 2
  apply List.ext_getElem
  · simp
  · intro i h1 h2
    simp at h1
    simp [at8, List.getD_eq_getElem?_getD, h1]

/-- 'string(b)' of a slice that reads as bytes -/
theorem run_string {P : Program} {w : World} {A : Option Addr} {l : List UInt8} (h : By w A l) (src e dst : TypeId) (hs : P.underlying src = some (.slice e)) (he : P.underlying e = some (.int .u8)) (hd : P.underlying dst = some .string) (c : Nat) :
    (convert src dst (.slice A l.length c)).run P w = .ok (.string ⟨l.toArray⟩) w := by
  rcases h with rfl | ⟨b, o, rfl, hc⟩
  · cases A with
    | none => exact run_convert_bytes_nil w src e hs he 0 c dst hd
    | some a =>
      rw [run_convert_bytes_string w src dst e _ _ _ hs he hd]
      simp [Conv.bytesToString, loadCells, loadCellsFrom]
      rfl
  · have h1 := run_convert_bytes_arg (P := P) w src e hs he b o l.length c ((List.range l.length).map (at8 l)) (by simp) (fun i hi => by rw [hc i hi]; simp [hi]) dst hd
    rw [h1, strOfNums_at8]

end Go.Proofs.Ytgbfeagoadlhmaa
