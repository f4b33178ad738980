/-
  Fields in memory; what a reader makes of them. Contract of law01.keeps.
-/
import Derived.Test.YtojgjmkkcadabaaKnownA
import Derived.Test.YtojgjmkkcadabaaEager
set_option linter.unusedVariables false
set_option linter.unusedSimpArgs false
namespace Go.Proofs.Ytojgjmkkcadabaa
open Go.RowKit Pl

/-- a field: a number, in so many bytes, or, where that is 0, a blob -/
structure Fld where
  n : Nat
  size : Int
  b : List UInt8

def fld0 : Fld := ⟨0, 0, []⟩

/-- the slice at A reads as fields -/
def Flds (w : World) (A : Option Addr) (fs : List Fld) : Prop :=
  fs = [] ∨ ∃ b o, A = some ⟨b, o, none⟩ ∧ ∀ i, i < fs.length → w.cell? ⟨b, o + i * 3, none⟩ = some (.int .u64 ((fs.getD i fld0).n : Int)) ∧ w.cell? ⟨b, o + i * 3 + 1, none⟩ = some (.int .i64 (fs.getD i fld0).size) ∧
    ∃ Ai ci, w.cell? ⟨b, o + i * 3 + 2, none⟩ = some (.slice Ai (fs.getD i fld0).b.length ci) ∧ By w Ai (fs.getD i fld0).b ∧ (fs.getD i fld0).b.length ≤ ci ∧ ci ≤ 9223372036854775807

theorem Flds.keep {w w' : World} {A : Option Addr} {fs : List Fld} (h : Flds w A fs) (hk : ∀ b o, A = some ⟨b, o, none⟩ → ∀ j v, w.cell? ⟨b, j, none⟩ = some v → w'.cell? ⟨b, j, none⟩ = some v) (hb : ∀ B l, By w B l → By w' B l) : Flds w' A fs := by
  rcases h with rfl | ⟨b, o, rfl, hc⟩
  · exact .inl rfl
  · refine .inr ⟨b, o, rfl, fun i hi => ?_⟩
    obtain ⟨h1, h2, Ai, ci, h3, h4, h5⟩ := hc i hi
    exact ⟨hk b o rfl _ _ h1, hk b o rfl _ _ h2, Ai, ci, hk b o rfl _ _ h3, hb _ _ h4, h5⟩
theorem Flds.at_' {w : World} {A : Option Addr} {fs : List Fld} (h : Flds w A fs) (h0 : 0 < fs.length) : ∃ b o, A = some ⟨b, o, none⟩ ∧ w.cell? ⟨b, o + 0 * 3, none⟩ = some (.int .u64 ((fs.getD 0 fld0).n : Int)) ∧ True := by
  rcases h with rfl | ⟨b, o, rfl, hc⟩
  · simp at h0
  · exact ⟨b, o, rfl, (hc 0 h0).1, trivial⟩
theorem Flds.ext {w w' : World} {A : Option Addr} {fs : List Fld} (h : Flds w A fs) (hb : Ext w w') : Flds w' A fs :=
  h.keep (fun _ _ _ _ _ hc => hb.cell hc) (fun _ _ h => h.ext hb)
theorem Rd.cells {w : World} {r : Nat} {s : Option (List UInt8)} (h : Rd w r s) : ∃ (A : Option Addr) (m c : Nat) (x : Bool), Blk w r 81 #[.slice A m c, .bool x] := by
  cases s with
  | none => exact ⟨none, 0, 0, false, h⟩
  | some l => obtain ⟨A, c, h1, _⟩ := h; exact ⟨A, l.length, c, true, h1⟩
theorem Flds.upd {w w' : World} {A : Option Addr} {fs : List Fld} {r : Nat} {s : Option (List UInt8)} (h : Flds w A fs) (hr : Rd w r s) (hu : Upd w w' r) : Flds w' A fs := by
  rcases h with rfl | ⟨b, o, rfl, hc⟩
  · exact .inl rfl
  · by_cases h0 : fs.length = 0
    · exact .inl (List.eq_nil_of_length_eq_zero h0)
    · have hne : b ≠ r := by
        rintro rfl
        obtain ⟨_, _, _, x, hb⟩ := hr.cells
        have h1 := (hc 0 (by omega)).1
        rw [hb.cell] at h1
        match hj : o + 0 * 3, h1 with
        | 0, h1 => simp at h1
        | 1, h1 => simp at h1
        | j + 2, h1 => simp at h1
      refine Flds.keep (.inr ⟨b, o, rfl, hc⟩) (fun b' o' e j v hv => ?_) (fun B l hb => hb.rd hr hu)
      cases e
      rw [World.cell?_of_block (w := w) (hu.grown.block b (block_lt_of_cell hv) (by simpa using hne))]
      exact hv
theorem Flds.ne {w : World} {b o : Nat} {fs : List Fld} {r : Nat} {s : Option (List UInt8)} (h : Flds w (some ⟨b, o, none⟩) fs) (h0 : 0 < fs.length) (hr : Rd w r s) : b ≠ r := by
  obtain ⟨b', o', e, h1, _⟩ := h.at_' h0
  cases e
  rintro rfl
  obtain ⟨_, _, _, x, hb⟩ := hr.cells
  rw [hb.cell] at h1
  match hj : o + 0 * 3, h1 with
  | 0, h1 => simp at h1
  | 1, h1 => simp at h1
  | j + 2, h1 => simp at h1
theorem cell_upd {w w' : World} {b k r : Nat} {v : Value} (h : w.cell? ⟨b, k, none⟩ = some v) (hne : b ≠ r) (hu : Upd w w' r) : w'.cell? ⟨b, k, none⟩ = some v := by
  rw [World.cell?_of_block (w := w) (hu.grown.block b (block_lt_of_cell h) (by simpa using hne))]
  exact h
theorem Flds.drew {w : World} {A : Option Addr} {fs : List Fld} (h : Flds w A fs) : Flds w.drew A fs := h
theorem Flds.at_ {w : World} {A : Option Addr} {fs : List Fld} (h : Flds w A fs) {i : Nat} (hi : i < fs.length) : ∃ b o, A = some ⟨b, o, none⟩ ∧ w.cell? ⟨b, o + i * 3, none⟩ = some (.int .u64 ((fs.getD i fld0).n : Int)) ∧ w.cell? ⟨b, o + i * 3 + 1, none⟩ = some (.int .i64 (fs.getD i fld0).size) ∧
    ∃ Ai ci, w.cell? ⟨b, o + i * 3 + 2, none⟩ = some (.slice Ai (fs.getD i fld0).b.length ci) ∧ By w Ai (fs.getD i fld0).b ∧ (fs.getD i fld0).b.length ≤ ci ∧ ci ≤ 9223372036854775807 := by
  rcases h with rfl | ⟨b, o, rfl, hc⟩
  · simp at hi
  · exact ⟨b, o, rfl, hc i hi⟩

/-- a step of keeps: is all as it was till now, and what is ahead of the reader -/
def keep1 (p : Bool × Option (List UInt8)) (f : Fld) : Bool × Option (List UInt8) :=
  if f.size = 0 then (p.1 && ((blobs p.2).1 == f.b) && !(brokenB (blobs p.2).2), (blobs p.2).2)
  else (p.1 && ((nums p.2 f.size).1 == f.n) && !(brokenB (nums p.2 f.size).2), (nums p.2 f.size).2)
def keepN (fs : List Fld) (s : Option (List UInt8)) : Bool × Option (List UInt8) := fs.foldl keep1 (true, s)
theorem keepN_take (fs : List Fld) (s : Option (List UInt8)) (j : Nat) (h : j < fs.length) : keepN (fs.take (j + 1)) s = keep1 (keepN (fs.take j) s) (fs.getD j fld0) := by
  unfold keepN
  rw [List.take_succ_eq_append_getElem h, List.foldl_append]
  simp [List.getD_eq_getElem?_getD, h]

theorem Upd.drew {w w' : World} {r : Nat} (h : Upd w w' r) : Upd w w'.drew r := ⟨⟨h.grown.os, h.grown.tape, h.grown.output, h.grown.size, h.grown.block⟩, h.size⟩
theorem Rd.drew {w : World} {r : Nat} {s : Option (List UInt8)} (h : Rd w r s) : Rd w.drew r s := by
  cases s with
  | none => exact h
  | some l => exact h

end Go.Proofs.Ytojgjmkkcadabaa
