
/-
  Readers in memory; contracts of Failed, Left, End, step.
-/
import Derived.Test.YtgbfeagoadlhmaaJoin
set_option linter.unusedVariables false
set_option linter.unusedSimpArgs false
namespace Go.Proofs.Ytgbfeagoadlhmaa
open Go.RowKit Pl

/-- only block r has turned -/
structure Upd (w w' : World) (r : Nat) : Prop where
  grown : w.grownBy w' (some r)
  size : w'.heap.size = w.heap.size

theorem Upd.refl (w : World) (r : Nat) : Upd w w r := ⟨World.grownBy.refl _ _, rfl⟩
theorem Upd.trans {a b c : World} {r : Nat} (h : Upd a b r) (k : Upd b c r) : Upd a c r := ⟨h.grown.trans k.grown, k.size.trans h.size⟩
theorem Upd.set (w : World) (r i : Nat) (u : Value) : Upd w (w.setCell ⟨r, i, none⟩ u) r :=
  ⟨⟨rfl, rfl, rfl, by simp [World.setCell], fun k hk hne => heap_setCell_other w _ k u (fun e => hne (by rw [e]))⟩, by simp [World.setCell]⟩
theorem Upd.ext {w0 w w' : World} {r : Nat} (h : Upd w w' r) (k : Ext w0 w) (hr : w0.heap.size ≤ r) : Ext w0 w' := k.grown h.grown (fun j e => by cases e; exact hr)
theorem Blk.upd {w w' : World} {g r : Nat} {t : TypeId} {cs : Array Value} (h : Blk w g t cs) (hu : Upd w w' r) (hne : g ≠ r) : Blk w' g t cs := h.grown hu.grown (by simpa using hne)

/-- none of these is a byte -/
def NoByte (cs : Array Value) : Prop := ∀ (i : Nat) (n : Int), cs[i]? ≠ some (.int .u8 n)
theorem noByte2 {a b : Value} (ha : ∀ n, a ≠ .int .u8 n) (hb : ∀ n, b ≠ .int .u8 n) : NoByte #[a, b] := by
  intro i n h
  match i with
  | 0 => simp at h; exact ha n h
  | 1 => simp at h; exact hb n h
  | i + 2 => simp at h
theorem By.upd {w w' : World} {A : Option Addr} {l : List UInt8} {r : Nat} {t : TypeId} {cs : Array Value} (h : By w A l) (hr : Blk w r t cs) (hn : NoByte cs) (hu : Upd w w' r) : By w' A l := by
  rcases h with rfl | ⟨b, o, rfl, hc⟩
  · exact .inl rfl
  · refine .inr ⟨b, o, rfl, fun i hi => ?_⟩
    have h1 := hc i hi
    have hne : b ≠ r := by
      rintro rfl
      rw [hr.cell] at h1
      exact hn _ _ h1
    rw [World.cell?_of_block (w := w) (hu.grown.block b (block_lt_of_cell h1) (by simpa using hne))]
    exact h1

/-- where a slice lies that is cut at k -/
def cutA (A : Option Addr) (c k : Nat) : Option Addr := if c = k then A else A.map (·.add k)
theorem By.drop {w : World} {A : Option Addr} {l : List UInt8} (h : By w A l) {c k : Nat} (hk : k ≤ l.length) (hc : l.length ≤ c) : By w (cutA A c k) (l.drop k) := by
  rcases h with rfl | ⟨b, o, rfl, hcell⟩
  · exact .inl (by simp)
  · by_cases hk' : l.length ≤ k
    · exact .inl (List.drop_of_length_le hk')
    · refine .inr ⟨b, o + k, ?_, fun i hi => ?_⟩
      · unfold cutA
        rw [if_neg (by omega)]
        simp only [Option.map_some]
        congr 1
        unfold Addr.add
        split <;> simp_all
      · rw [List.length_drop] at hi
        rw [show o + k + i = o + (k + i) by omega, hcell (k + i) (by omega)]
        simp [at8, List.getD_eq_getElem?_getD]
theorem By.take {w : World} {A : Option Addr} {l : List UInt8} (h : By w A l) (k : Nat) : By w A (l.take k) := by
  rcases h with rfl | ⟨b, o, rfl, hcell⟩
  · exact .inl (by simp)
  · refine .inr ⟨b, o, rfl, fun i hi => ?_⟩
    rw [List.length_take] at hi
    rw [hcell i (by omega)]
    have : i < k := by omega
    simp [at8, List.getD_eq_getElem?_getD, this]

/-- a reader at block r: what is ahead of it; nothing: it is broken -/
def Rd (w : World) (r : Nat) : Option (List UInt8) → Prop
  | some l => ∃ A c, Blk w r 139 #[.slice A l.length c, .bool true] ∧ By w A l ∧ l.length ≤ c ∧ c ≤ 9223372036854775807
  | none => Blk w r 139 #[.slice none 0 0, .bool false]

theorem Rd.ext {w w' : World} {r : Nat} {s : Option (List UInt8)} (h : Rd w r s) (hb : Ext w w') : Rd w' r s := by
  cases s with
  | none => exact Blk.ext h hb
  | some l => obtain ⟨A, c, h1, h2, h3, h4⟩ := h; exact ⟨A, c, h1.ext hb, h2.ext hb, h3, h4⟩
theorem Rd.lt {w : World} {r : Nat} {s : Option (List UInt8)} (h : Rd w r s) : r < w.heap.size := by
  cases s with
  | none => exact Blk.lt h
  | some l => obtain ⟨A, c, h1, h2, h3, h4⟩ := h; exact h1.lt

def brokenB : Option (List UInt8) → Bool | some _ => false | none => true
def leftN : Option (List UInt8) → Nat | some l => l.length | none => 0

theorem failed_any (w : World) (r : Nat) (s : Option (List UInt8)) (h : Rd w r s) :
    Calls Try.prog 96 #[.pointer (some ⟨r, 0, none⟩)] w fun e w' => e = .returned (.bool (brokenB s)) ∧ w = w' := by
  have hc : ∃ f, w.cell? ⟨r, 1, none⟩ = some (.bool f) ∧ f = !(brokenB s) := by
    cases s with
    | none => exact ⟨false, by rw [Blk.cell h]; rfl, rfl⟩
    | some l => obtain ⟨A, c, h1, _⟩ := h; exact ⟨true, by rw [h1.cell]; rfl, rfl⟩
  obtain ⟨f, hc, hf⟩ := hc
  have HF := Lib.hid hf
  clear hf h
  go_enter Try.func96, Try.ntmps96
  go_wp2
  go_ret
  exact ⟨by rw [show brokenB s = !f by rw [HF.out]; simp]; rfl, rfl⟩

theorem left_any (w : World) (r : Nat) (s : Option (List UInt8)) (h : Rd w r s) :
    Calls Try.prog 97 #[.pointer (some ⟨r, 0, none⟩)] w fun e w' => e = .returned (.int .i64 (leftN s)) ∧ w = w' := by
  have hf := failed_any w r s h
  have HF := Lib.hid hf
  clear hf
  cases s with
  | none =>
    go_enter Try.func97, Try.ntmps97
    go_wp2_with (go_at_call 96; refine HF.out.mono ?_; rintro e w' ⟨rfl, rfl⟩; simp only [brokenB])
    go_ret
    exact ⟨rfl, rfl⟩
  | some l =>
    obtain ⟨A, c, h1, h2, h3⟩ := h
    have hc : w.cell? ⟨r, 0, none⟩ = some (.slice A l.length c) := by rw [h1.cell]; rfl
    clear h1 h2 h3
    go_enter Try.func97, Try.ntmps97
    go_wp2_with (go_at_call 96; refine HF.out.mono ?_; rintro e w' ⟨rfl, rfl⟩; simp only [brokenB])
    go_ret
    exact ⟨rfl, rfl⟩

end Go.Proofs.Ytgbfeagoadlhmaa
