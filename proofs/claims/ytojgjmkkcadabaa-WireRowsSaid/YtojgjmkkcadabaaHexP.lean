/-
  Hex, plain: letters, what spells bytes. No program in sight.
-/
import Derived.Test.YtojgjmkkcadabaaPlain
namespace Go.Proofs.Ytojgjmkkcadabaa.Pl

/-- a letter of hex -/
def letter (n : Nat) : UInt8 := if n < 10 then UInt8.ofNat (48 + n) else UInt8.ofNat (87 + n)
def hex2 (c : UInt8) : List UInt8 := [letter (c.toNat / 16), letter (c.toNat % 16)]
def hex (l : List UInt8) : List UInt8 := l.flatMap hex2
theorem hex_nil : hex [] = [] := rfl
theorem hex_app (l m : List UInt8) : hex (l ++ m) = hex l ++ hex m := by simp [hex]
theorem hex_snoc (l : List UInt8) (c : UInt8) : hex (l ++ [c]) = hex l ++ hex2 c := by simp [hex]
theorem hex_length (l : List UInt8) : (hex l).length = 2 * l.length := by
  induction l with
  | nil => rfl
  | cons c l ih =>
    rw [show hex (c :: l) = hex2 c ++ hex l by simp [hex], List.length_append, ih, List.length_cons]
    simp [hex2]; omega
/-- what a letter spells -/
def spell (c : UInt8) : Option Nat := if 48 ≤ c.toNat ∧ c.toNat ≤ 57 then some (c.toNat - 48) else if 97 ≤ c.toNat ∧ c.toNat ≤ 102 then some (c.toNat - 87) else none
theorem spell_letter (n : Nat) (h : n < 16) : spell (letter n) = some n := by
  unfold letter
  split
  · unfold spell
    rw [UInt8.toNat_ofNat', Nat.mod_eq_of_lt (by omega), if_pos (by omega)]
    congr 1; omega
  · unfold spell
    rw [UInt8.toNat_ofNat', Nat.mod_eq_of_lt (by omega), if_neg (by omega), if_pos (by omega)]
    congr 1; omega
theorem spell_lt {c : UInt8} {n : Nat} (h : spell c = some n) : n < 16 := by
  unfold spell at h
  split at h
  · cases h; omega
  · split at h
    · cases h; omega
    · cases h
theorem letter_spell {c : UInt8} {n : Nat} (h : spell c = some n) : letter n = c := by
  have hc := c.toNat_lt
  unfold spell at h
  apply UInt8.toNat.inj
  split at h
  · cases h
    unfold letter
    rw [if_pos (by omega), UInt8.toNat_ofNat', Nat.mod_eq_of_lt (by omega)]; omega
  · split at h
    · cases h
      unfold letter
      rw [if_neg (by omega), UInt8.toNat_ofNat', Nat.mod_eq_of_lt (by omega)]; omega
    · cases h
/-- what a text spells -/
def unhex : List UInt8 → Option (List UInt8)
  | [] => some []
  | [_] => none
  | a :: b :: t => match spell a, spell b, unhex t with
    | some x, some y, some l => some (UInt8.ofNat (16 * x + y) :: l)
    | _, _, _ => none
theorem unhex_hex (l : List UInt8) : unhex (hex l) = some l := by
  induction l with
  | nil => rfl
  | cons c l ih =>
    have hc := c.toNat_lt
    rw [show hex (c :: l) = letter (c.toNat / 16) :: letter (c.toNat % 16) :: hex l by simp [hex, hex2]]
    unfold unhex
    rw [spell_letter _ (by omega), spell_letter _ (by omega), ih]
    simp only [Option.some.injEq, List.cons.injEq, and_true]
    apply UInt8.toNat.inj
    rw [UInt8.toNat_ofNat']; omega
theorem hex_unhex : ∀ (t l : List UInt8), unhex t = some l → hex l = t
  | [], l, h => by simp [unhex] at h; subst h; rfl
  | [_], l, h => by simp [unhex] at h
  | a :: b :: t, l, h => by
    unfold unhex at h
    cases ha : spell a with
    | none => rw [ha] at h; simp at h
    | some x =>
      cases hb : spell b with
      | none => rw [ha, hb] at h; simp at h
      | some y =>
        cases ht : unhex t with
        | none => rw [ha, hb, ht] at h; simp at h
        | some m =>
          rw [ha, hb, ht] at h
          simp only [Option.some.injEq] at h
          have hx := spell_lt ha
          have hy := spell_lt hb
          have e : hex (UInt8.ofNat (16 * x + y) :: m) = letter x :: letter y :: hex m := by
            simp only [hex, List.flatMap_cons, hex2]
            rw [UInt8.toNat_ofNat', Nat.mod_eq_of_lt (by omega), show (16 * x + y) / 16 = x by omega, show (16 * x + y) % 16 = y by omega]
            rfl
          have e2 := hex_unhex t m ht
          rw [← h, e, letter_spell ha, letter_spell hb, e2]

end Go.Proofs.Ytojgjmkkcadabaa.Pl
