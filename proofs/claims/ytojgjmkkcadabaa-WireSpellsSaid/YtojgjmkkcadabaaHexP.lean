/-
  Hex, plain: letters, what spells bytes. No program in sight.
-/
import Derived.Test.YtojgjmkkcadabaaPlain
namespace Go.Proofs.Ytojgjmkkcadabaa.Pl

/-- a letter of hex -/
def letter (n : Nat) : UInt8 := if n < 10 then UInt8.ofNat (48 + n) else UInt8.ofNat (87 + n)
def hex2 (c : UInt8) : List UInt8 := [letter (c.toNat / 16), letter (c.toNat % 16)]
def hex (l : List UInt8) : List UInt8 := l.flatMap hex2
theorem hex_nil : hex [] = [] := rfl
theorem hex_app (l m : List UInt8) : hex (l ++ m) = hex l ++ hex m := by simp [hex]
theorem hex_snoc (l : List UInt8) (c : UInt8) : hex (l ++ [c]) = hex l ++ hex2 c := by simp [hex]
theorem hex_length (l : List UInt8) : (hex l).length = 2 * l.length := by
  induction l with
  | nil => rfl
  | cons c l ih =>
    rw [show hex (c :: l) = hex2 c ++ hex l by simp [hex], List.length_append, ih, List.length_cons]
    simp [hex2]; omega
/-- what a letter spells -/
def spell (c : UInt8) : Option Nat := if 48 ≤ c.toNat ∧ c.toNat ≤ 57 then some (c.toNat - 48) else if 97 ≤ c.toNat ∧ c.toNat ≤ 102 then some (c.toNat - 87) else none
theorem spell_letter (n : Nat) (h : n < 16) : spell (letter n) = some n := by
  unfold letter
  split
  · unfold spell
    rw [UInt8.toNat_ofNat', Nat.mod_eq_of_lt (by omega), if_pos (by omega)]
    congr 1; omega
  · unfold spell
    rw [UInt8.toNat_ofNat', Nat.mod_eq_of_lt (by omega), if_neg (by omega), if_pos (by omega)]
    congr 1; omega
theorem spell_lt {c : UInt8} {n : Nat} (h : spell c = some n) : n < 16 := by
  unfold spell at h
  split at h
  · cases h; omega
  · split at h
    · cases h; omega
    · cases h
theorem letter_spell {c : UInt8} {n : Nat} (h : spell c = some n) : letter n = c := by
  have hc := c.toNat_lt
  unfold spell at h
  apply UInt8.toNat.inj
  split at h
  · cases h
    unfold letter
    rw [if_pos (by omega), UInt8.toNat_ofNat', Nat.mod_eq_of_lt (by omega)]; omega
  · split at h
    · cases h
      unfold letter
      rw [if_neg (by omega), UInt8.toNat_ofNat', Nat.mod_eq_of_lt (by omega)]; omega
    · cases h
/-- what a text spells -/
def unhex : List UInt8 → Option (List UInt8)
  | [] => some []
  | [_] => none
  | a :: b :: t => match spell a, spell b, unhex t with
    | some x, some y, some l => some (UInt8.ofNat (16 * x + y) :: l)
    | _, _, _ => none
theorem unhex_hex (l : List UInt8) : unhex (hex l) = some l := by
  induction l with
  | nil => rfl
  | cons c l ih =>
    have hc := c.toNat_lt
    rw [show hex (c :: l) = letter (c.toNat / 16) :: letter (c.toNat % 16) :: hex l by simp [hex, hex2]]
    unfold unhex
    rw [spell_letter _ (by omega), spell_letter _ (by omega), ih]
    simp only [Option.some.injEq, List.cons.injEq, and_true]
    apply UInt8.toNat.inj
    rw [UInt8.toNat_ofNat']; omega
theorem hex_unhex : ∀ (t l : List UInt8), unhex t = some l → hex l = t
  | [], l, h => by simp [unhex] at h; subst h; rfl
  | [_], l, h => by simp [unhex] at h
  | a :: b :: t, l, h => by
    unfold unhex at h
    cases ha : spell a with
    | none => rw [ha] at h; simp at h
    | some x =>
      cases hb : spell b with
      | none => rw [ha, hb] at h; simp at h
      | some y =>
        cases ht : unhex t with
        | none => rw [ha, hb, ht] at h; simp at h
        | some m =>
          rw [ha, hb, ht] at h
          simp only [Option.some.injEq] at h
          have hx := spell_lt ha
          have hy := spell_lt hb
          have e : hex (UInt8.ofNat (16 * x + y) :: m) = letter x :: letter y :: hex m := by
            simp only [hex, List.flatMap_cons, hex2]
            rw [UInt8.toNat_ofNat', Nat.mod_eq_of_lt (by omega), show (16 * x + y) / 16 = x by omega, show (16 * x + y) % 16 = y by omega]
            rfl
          have e2 := hex_unhex t m ht
          rw [← h, e, letter_spell ha, letter_spell hb, e2]

theorem unhex_step : ∀ (t l : List UInt8) (x y : UInt8) (a b : Nat), unhex t = some l → spell x = some a → spell y = some b → unhex (t ++ [x, y]) = some (l ++ [UInt8.ofNat (16 * a + b)])
  | [], l, x, y, a, b, h, hx, hy => by
    simp only [unhex, Option.some.injEq] at h
    subst h
    simp only [List.nil_append, unhex, hx, hy]
  | [_], l, x, y, a, b, h, hx, hy => by simp [unhex] at h
  | c :: d :: t, l, x, y, a, b, h, hx, hy => by
    unfold unhex at h
    cases hc : spell c with
    | none => rw [hc] at h; simp at h
    | some p =>
      cases hd : spell d with
      | none => rw [hc, hd] at h; simp at h
      | some q =>
        cases ht : unhex t with
        | none => rw [hc, hd, ht] at h; simp at h
        | some m =>
          rw [hc, hd, ht] at h
          simp only [Option.some.injEq] at h
          subst h
          have ih := unhex_step t m x y a b ht hx hy
          simp only [List.cons_append, unhex, hc, hd]
          rw [ih]
theorem unhex_bad : ∀ (t : List UInt8) (i : Nat), i < t.length → spell (t.getD i 0) = none → unhex t = none
  | [], i, h, _ => by simp at h
  | [_], _, _, _ => rfl
  | c :: d :: t, i, h, hs => by
    unfold unhex
    match i with
    | 0 => simp at hs; rw [hs]
    | 1 => simp at hs; rw [hs]; cases spell c <;> rfl
    | i + 2 =>
      have := unhex_bad t i (by simpa using h) (by simpa using hs)
      rw [this]
      cases spell c <;> cases spell d <;> rfl
theorem unhex_odd : ∀ (t : List UInt8), t.length % 2 = 1 → unhex t = none
  | [], h => by simp at h
  | [_], _ => rfl
  | c :: d :: t, h => by
    unfold unhex
    have := unhex_odd t (by simp at h; omega)
    rw [this]
    cases spell c <;> cases spell d <;> rfl
/-- what the first letters of two spell together -/
def Spl (x y : UInt8) (m q : Nat) : Prop := (m = 0 ∧ q = 0) ∨ (m = 1 ∧ spell x = some q) ∨ (m = 2 ∧ ∃ a b, spell x = some a ∧ spell y = some b ∧ q = 16 * a + b)
theorem spell_digit (c : UInt8) (h1 : 48 ≤ c.toNat) (h2 : c.toNat ≤ 57) : spell c = some (c.toNat - 48) := by unfold spell; rw [if_pos ⟨h1, h2⟩]
theorem spell_low (c : UInt8) (h1 : 97 ≤ c.toNat) (h2 : c.toNat ≤ 102) : spell c = some (c.toNat - 87) := by unfold spell; rw [if_neg (by omega), if_pos ⟨h1, h2⟩]
theorem spell_none (c : UInt8) (h1 : ¬ (48 ≤ c.toNat ∧ c.toNat ≤ 57)) (h2 : ¬ (97 ≤ c.toNat ∧ c.toNat ≤ 102)) : spell c = none := by unfold spell; rw [if_neg h1, if_neg h2]

/-- what a letter spells; nothing: 0 -/
def sp (c : UInt8) : Nat := (spell c).getD 0
theorem sp_some {c : UInt8} {n : Nat} (h : spell c = some n) : sp c = n := by unfold sp; rw [h]; rfl
theorem sp_lt (c : UInt8) : sp c < 16 := by
  unfold sp
  cases h : spell c with
  | none => decide
  | some n => exact spell_lt h
/-- the byte j after i letters -/
def outC (t : List UInt8) (i j : Nat) : Nat := if 2 * j + 1 < i then 16 * sp (t.getD (2 * j) 0) + sp (t.getD (2 * j + 1) 0) else if 2 * j < i then sp (t.getD (2 * j) 0) else 0
theorem outC_lt (t : List UInt8) (i j : Nat) : outC t i j < 256 := by
  unfold outC
  have h1 := sp_lt (t.getD (2 * j) 0)
  have h2 := sp_lt (t.getD (2 * j + 1) 0)
  split
  · omega
  · split <;> omega
theorem outC_other (t : List UInt8) (i j : Nat) (h : j ≠ i / 2) : outC t (i + 1) j = outC t i j := by
  unfold outC
  by_cases h1 : 2 * j + 1 < i
  · rw [if_pos h1, if_pos (by omega)]
  · rw [if_neg h1, if_neg (by omega)]
    by_cases h2 : 2 * j < i
    · rw [if_pos h2, if_pos (by omega)]
    · rw [if_neg h2, if_neg (by omega)]
theorem outC_here (t : List UInt8) (i : Nat) : outC t i (i / 2) * 16 + sp (t.getD i 0) = outC t (i + 1) (i / 2) := by
  unfold outC
  by_cases h : i % 2 = 0
  · have e : 2 * (i / 2) = i := by omega
    rw [e, if_neg (by omega), if_neg (by omega), if_neg (by omega), if_pos (by omega)]
    omega
  · have e : 2 * (i / 2) + 1 = i := by omega
    rw [if_neg (by omega), if_pos (by omega), if_pos (by omega), e]
    omega
theorem unhex_all : ∀ (t : List UInt8), t.length % 2 = 0 → (∀ i, i < t.length → spell (t.getD i 0) ≠ none) → unhex t = some ((List.range (t.length / 2)).map fun j => UInt8.ofNat (outC t t.length j))
  | [], _, _ => rfl
  | [_], h, _ => by simp at h
  | c :: d :: t, h, hs => by
    have ih := unhex_all t (by simp at h; omega) (fun i hi => by have := hs (i + 2) (by simp; omega); simpa using this)
    have hc : spell c ≠ none := by simpa using hs 0 (by simp)
    have hd : spell d ≠ none := by simpa using hs 1 (by simp)
    unfold unhex
    rw [ih]
    cases h1 : spell c with
    | none => exact absurd h1 hc
    | some x =>
      cases h2 : spell d with
      | none => exact absurd h2 hd
      | some y =>
        simp only [Option.some.injEq]
        rw [show (c :: d :: t).length / 2 = t.length / 2 + 1 by simp only [List.length_cons]; omega, List.range_succ_eq_map, List.map_cons, List.map_map]
        congr 1
        · unfold outC
          rw [if_pos (by simp)]
          simp [sp_some h1, sp_some h2]
        · apply List.map_congr_left
          intro j hj
          simp at hj
          simp only [Function.comp]
          congr 1
          unfold outC
          rw [if_pos (by omega), if_pos (by simp only [List.length_cons, Nat.succ_eq_add_one]; omega)]
          rw [Nat.succ_eq_add_one, show 2 * (j + 1) + 1 = (2 * j + 1) + 2 by omega, show 2 * (j + 1) = 2 * j + 2 by omega]
          simp

end Go.Proofs.Ytojgjmkkcadabaa.Pl
