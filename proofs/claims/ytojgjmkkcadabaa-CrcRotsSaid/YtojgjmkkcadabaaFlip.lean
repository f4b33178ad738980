/-
  Contract of law02.flip.
-/
import Derived.Test.YtojgjmkkcadabaaKnownB
import Derived.Test.YtojgjmkkcadabaaRotP
import Derived.Test.YtojgjmkkcadabaaOwnB
import Derived.Laws.BitsAllLaws
set_option linter.unusedVariables false
set_option linter.unusedSimpArgs false
namespace Go.Proofs.Ytojgjmkkcadabaa
open Go.RowKit Pl

/-- block g begins with the bytes l -/
def Row8 (w : World) (g : Nat) (l : List UInt8) : Prop := ∃ cur, Blk w g 5 cur ∧ l.length ≤ cur.size ∧ ∀ i, i < l.length → cur[i]? = some (.int .u8 (at8 l i))
theorem Row8.by_ {w : World} {g : Nat} {l : List UInt8} (h : Row8 w g l) : By w (some ⟨g, 0, none⟩) l := by
  obtain ⟨cur, h1, h2, h3⟩ := h
  exact .inr ⟨g, 0, rfl, fun i hi => by rw [Nat.zero_add, h1.cell]; exact h3 i hi⟩
theorem Row8.lt {w : World} {g : Nat} {l : List UInt8} (h : Row8 w g l) : g < w.heap.size := by obtain ⟨cur, h1, _⟩ := h; exact h1.lt
theorem Row8.ext {w w' : World} {g : Nat} {l : List UInt8} (h : Row8 w g l) (hE : Ext w w') : Row8 w' g l := by obtain ⟨cur, h1, h2⟩ := h; exact ⟨cur, h1.ext hE, h2⟩
theorem Row8.grown {w w' : World} {g k : Nat} {l : List UInt8} (h : Row8 w g l) (hg : w.grownBy w' (some k)) (hne : g ≠ k) : Row8 w' g l := by obtain ⟨cur, h1, h2⟩ := h; exact ⟨cur, h1.grown hg (by simpa using hne), h2⟩
theorem Row8.of_own {w : World} {B : Nat} {v : Value} {l : List UInt8} (h : Own 5 w B v l) (hl : 0 < l.length) : ∃ g c, v = .slice (some ⟨g, 0, none⟩) l.length c ∧ Row8 w g l ∧ B ≤ g ∧ l.length ≤ c ∧ c ≤ 9223372036854775807 := by
  obtain ⟨A, c, rfl, hb, hc, hc', hlie⟩ := h.lies
  rcases hlie with h0 | ⟨g, cur, rfl, h2, h3, h4, h5⟩
  · omega
  · refine ⟨g, c, rfl, ⟨cur, h4, h5, fun i hi => ?_⟩, h2, hc, hc'⟩
    obtain ⟨b, o, e, hh⟩ := hb.at_ hl
    cases e
    have := hh i hi
    rwa [Nat.zero_add, h4.cell] at this
theorem Row8.set {w : World} {g : Nat} {l : List UInt8} (h : Row8 w g l) (i : Nat) (x : UInt8) (hi : i < l.length) : Row8 (w.setCell ⟨g, i, none⟩ (u8 x)) g (l.set i x) := by
  obtain ⟨cur, h1, h2, h3⟩ := h
  refine ⟨_, h1.set i (u8 x), by simpa using h2, fun j hj => ?_⟩
  rw [List.length_set] at hj
  rw [Array.getElem?_setIfInBounds]
  by_cases hij : i = j
  · subst hij
    rw [if_pos rfl, if_pos (by omega)]
    simp [u8, at8, List.getD_eq_getElem?_getD, hi]
  · rw [if_neg hij, h3 j hj]
    simp [at8, List.getD_eq_getElem?_getD, hij]

/-- the bit that a number names -/
def bitOf (n : Nat) (at' : Int) : Nat := (at' % ((8 * n : Nat) : Int)).toNat
theorem bitOf_lt (n : Nat) (h : 0 < n) (a : Int) : bitOf n a < 8 * n := by
  unfold bitOf
  have h1 := Int.emod_lt_of_pos a (b := ((8 * n : Nat) : Int)) (by omega)
  have h2 := Int.emod_nonneg a (b := ((8 * n : Nat) : Int)) (by omega)
  omega
theorem bitOf_tmod (n : Nat) (h : 0 < n) (a : Int) : a.tmod (8 * (n : Int)) = (bitOf n a : Int) ∨ (a.tmod (8 * (n : Int)) < 0 ∧ a.tmod (8 * (n : Int)) + 8 * (n : Int) = (bitOf n a : Int)) := by
  have h2 := Int.emod_nonneg a (b := ((8 * n : Nat) : Int)) (by omega)
  have e : (bitOf n a : Int) = a % (8 * (n : Int)) := by
    have e8 : ((8 * n : Nat) : Int) = 8 * (n : Int) := by omega
    rw [← e8]
    unfold bitOf
    rw [Int.toNat_of_nonneg h2]
  rw [e]
  rw [Int.tmod_eq_emod]
  have h3 : 0 ≤ a % (8 * (n : Int)) := Int.emod_nonneg a (by omega)
  have h4 : a % (8 * (n : Int)) < 8 * (n : Int) := Int.emod_lt_of_pos a (by omega)
  split
  · left; omega
  · right
    have : ((8 * (n : Int)).natAbs : Int) = 8 * (n : Int) := by omega
    omega

theorem flip_val (x : UInt8) (j : Nat) (h : j < 8) : Value.int .u8 (bits .xor .u8 (x.toNat : Int) (2 ^ j % 256)) = u8 (flipB x j) := by
  have hx := x.toNat_lt
  have hp : 2 ^ j < 2 ^ 8 := Nat.pow_lt_pow_right (by decide) h
  have e : ((2 : Int) ^ j % 256) = ((2 ^ j : Nat) : Int) := by
    have hh : (2 : Int) ^ j = ((2 ^ j : Nat) : Int) := by simp
    rw [hh]
    exact Int.emod_eq_of_lt (Int.natCast_nonneg _) (Int.ofNat_lt.2 hp)
  rw [e, u8_xor_nat _ _ (by omega) (by omega), u8, flipB_nat x j h]

set_option maxHeartbeats 1600000 in
theorem flip_any (g : Nat) (l : List UInt8) (c : Nat) (a : Int) (hl0 : 0 < l.length) (hl : l.length ≤ 9000) (hc : l.length ≤ c) (w : World) (h : Row8 w g l) :
    Calls Try.prog 49 #[.slice (some ⟨g, 0, none⟩) l.length c, .int .i64 a] w fun e w' => (∃ v, e = .returned v) ∧ Row8 w' g (flipL l (bitOf l.length a)) ∧ Upd w w' g := by
  have hk := bitOf_lt l.length hl0 a
  have ht := bitOf_tmod l.length hl0 a
  generalize hbk : bitOf l.length a = k at *
  have HRS := Lib.hid (h.set (k / 8) (flipB (l.getD (k / 8) 0) (k % 8)) (by omega))
  obtain ⟨cur, h1, h2, h3⟩ := h
  have hv : w.cell? ⟨g, k / 8, none⟩ = some (.int .u8 ((l.getD (k / 8) 0).toNat : Int)) := by rw [h1.cell]; exact h3 _ (by omega)
  have hf := h1.frozen (k / 8)
  have hx := (l.getD (k / 8) 0).toNat_lt
  have HFL := Lib.hid (show flipL l k = l.set (k / 8) (flipB (l.getD (k / 8) 0) (k % 8)) from rfl)
  have HFV := Lib.hid (flip_val (l.getD (k / 8) 0) (k % 8) (by omega))
  clear h1 h3 hbk
  generalize l.getD (k / 8) 0 = x at *
  generalize hn : l.length = n at *
  have HN := Lib.hid hn
  clear hn h2
  have hq : k / 8 < n := by omega
  rcases ht with ht | ⟨hneg, ht⟩
  · go_enter Try.func49, Try.ntmps49
    go_wp2_with fail
    rw [HFV.out]
    go_end0
    exact ⟨⟨_, rfl⟩, by rw [HFL.out]; exact HRS.out, Upd.set _ _ _ _⟩
  · go_enter Try.func49, Try.ntmps49
    go_wp2_with fail
    rw [HFV.out]
    go_end0
    exact ⟨⟨_, rfl⟩, by rw [HFL.out]; exact HRS.out, Upd.set _ _ _ _⟩

end Go.Proofs.Ytojgjmkkcadabaa
