
/-
  The register of the sum: shifts, bytes, noughts; all of it is linear. No program in sight.
-/
import Derived.Test.YtgbfeagoadlhmaaPlain
namespace Go.Proofs.Ytgbfeagoadlhmaa.Pl

def poly : BitVec 32 := 0x82f63b78#32
/-- a register takes one bit 0 -/
def sh (r : BitVec 32) : BitVec 32 := (r >>> 1) ^^^ (if r.getLsbD 0 then poly else 0#32)
def its : Nat → BitVec 32 → BitVec 32
  | 0, r => r
  | n + 1, r => its n (sh r)

theorem xor_zero (a : BitVec 32) : a ^^^ 0#32 = a := by simp
theorem sh_xor (a b : BitVec 32) : sh (a ^^^ b) = sh a ^^^ sh b := by
  unfold sh
  have h : (a ^^^ b) >>> 1 = (a >>> 1) ^^^ (b >>> 1) := by ext i hi; simp
  rw [BitVec.getLsbD_xor, h]
  ext i hi
  cases a.getLsbD 0 <;> cases b.getLsbD 0 <;> simp only [Bool.false_xor, Bool.true_xor, Bool.not_false, Bool.not_true, if_true, BitVec.getElem_xor] <;>
    generalize (a >>> 1)[i] = x <;> generalize (b >>> 1)[i] = y <;> generalize poly[i] = z <;> cases x <;> cases y <;> cases z <;> simp
theorem sh_zero : sh 0#32 = 0#32 := by decide
theorem its_xor (n : Nat) : ∀ a b : BitVec 32, its n (a ^^^ b) = its n a ^^^ its n b := by
  induction n with
  | zero => intro a b; rfl
  | succ n ih => intro a b; simp only [its]; rw [sh_xor, ih]
theorem its_zero (n : Nat) : its n 0#32 = 0#32 := by
  induction n with
  | zero => rfl
  | succ n ih => simp only [its]; rw [sh_zero, ih]
theorem its_add (m n : Nat) : ∀ r : BitVec 32, its (m + n) r = its n (its m r) := by
  induction m with
  | zero => intro r; simp [its]
  | succ m ih => intro r; rw [show m + 1 + n = (m + n) + 1 by omega]; simp only [its]; exact ih _
theorem its_succ (n : Nat) (r : BitVec 32) : its (n + 1) r = sh (its n r) := by rw [its_add n 1]; rfl

theorem sh_even (r : BitVec 32) (h : r.getLsbD 0 = false) : sh r = r >>> 1 := by unfold sh; rw [h]; simp
/-- four bits that are nought go out -/
theorem its_even (k : Nat) : ∀ r : BitVec 32, (∀ i, i < k → r.getLsbD i = false) → its k r = r >>> k := by
  induction k with
  | zero => intro r _; simp [its]
  | succ k ih =>
    intro r h
    simp only [its]
    rw [sh_even r (h 0 (by omega)), ih]
    · rw [Nat.add_comm k 1, BitVec.shiftRight_add]
    · intro i hi
      rw [BitVec.getLsbD_ushiftRight]
      exact h _ (by omega)
theorem its_low (r : BitVec 32) : its 4 r = (r >>> 4) ^^^ its 4 (r &&& 15#32) := by
  have e : r = (r &&& ~~~15#32) ^^^ (r &&& 15#32) := by
    ext i hi
    simp only [BitVec.getElem_xor, BitVec.getElem_and, BitVec.getElem_not]
    cases r[i] <;> simp
  have h1 : its 4 (r &&& ~~~15#32) = r >>> 4 := by
    rw [its_even 4]
    · ext i hi
      simp only [BitVec.getElem_ushiftRight, BitVec.getLsbD_and]
      have : (~~~15#32).getLsbD (4 + i) = decide (4 + i < 32) := by
        rw [BitVec.getLsbD_not]
        have : (15#32).getLsbD (4 + i) = false := by
          rw [BitVec.getLsbD_ofNat]
          simp only [Bool.and_eq_false_imp, decide_eq_true_eq]
          intro _
          apply Nat.testBit_lt_two_pow
          calc 15 < 2 ^ 4 := by decide
            _ ≤ 2 ^ (4 + i) := Nat.pow_le_pow_right (by decide) (by omega)
        rw [this]; simp
      rw [this]
      by_cases h : 4 + i < 32
      · simp [h]
      · simp [h, BitVec.getLsbD_of_ge r (4 + i) (by omega)]
    · intro i hi
      rw [BitVec.getLsbD_and]
      match i, hi with
      | 0, _ => simp
      | 1, _ => simp
      | 2, _ => simp
      | 3, _ => simp
  calc its 4 r = its 4 ((r &&& ~~~15#32) ^^^ (r &&& 15#32)) := by rw [← e]
    _ = _ := by rw [its_xor, h1]

/-- a byte as a register -/
def b32 (c : UInt8) : BitVec 32 := BitVec.ofNat 32 c.toNat
/-- a register takes a byte -/
def tk (r : BitVec 32) (c : UInt8) : BitVec 32 := its 8 (r ^^^ b32 c)
/-- a register takes bytes -/
def reg (r : BitVec 32) (l : List UInt8) : BitVec 32 := l.foldl tk r
theorem reg_nil (r : BitVec 32) : reg r [] = r := rfl
theorem reg_cons (r : BitVec 32) (c : UInt8) (l : List UInt8) : reg r (c :: l) = reg (tk r c) l := rfl
theorem reg_app (r : BitVec 32) (l m : List UInt8) : reg r (l ++ m) = reg (reg r l) m := by simp [reg]
theorem reg_snoc (r : BitVec 32) (l : List UInt8) (c : UInt8) : reg r (l ++ [c]) = tk (reg r l) c := by simp [reg]
/-- the sum -/
def crc (l : List UInt8) : BitVec 32 := ~~~ reg (~~~ 0#32) l
def crcMore (s : BitVec 32) (l : List UInt8) : BitVec 32 := ~~~ reg (~~~ s) l
/-- a register takes n bytes 0 -/
def zer (r : BitVec 32) (n : Nat) : BitVec 32 := its (8 * n) r
theorem zer_zero (r : BitVec 32) : zer r 0 = r := rfl
theorem zer_add (r : BitVec 32) (m n : Nat) : zer r (m + n) = zer (zer r m) n := by unfold zer; rw [Nat.mul_add, its_add]
theorem zer_xor (a b : BitVec 32) (n : Nat) : zer (a ^^^ b) n = zer a n ^^^ zer b n := its_xor _ a b
theorem zer_one (r : BitVec 32) : zer r 1 = tk r 0 := by
  unfold zer tk
  have : b32 0 = 0#32 := by decide
  rw [this, xor_zero]
theorem zer_nil (n : Nat) : zer 0#32 n = 0#32 := its_zero _
theorem reg_noughts (n : Nat) : ∀ r : BitVec 32, reg r (List.replicate n 0) = zer r n := by
  induction n with
  | zero => intro r; rfl
  | succ n ih => intro r; rw [List.replicate_succ, reg_cons, ih, ← zer_one, ← zer_add, Nat.add_comm]
theorem tk_xor (a b : BitVec 32) (c : UInt8) : tk (a ^^^ b) c = zer a 1 ^^^ tk b c := by
  unfold tk zer
  rw [BitVec.xor_assoc, its_xor]
/-- what a register was, and what the bytes are, add up -/
theorem reg_split (l : List UInt8) : ∀ a b : BitVec 32, reg (a ^^^ b) l = zer a l.length ^^^ reg b l := by
  induction l with
  | nil => intro a b; rfl
  | cons c l ih =>
    intro a b
    rw [reg_cons, reg_cons, tk_xor, ih, List.length_cons, Nat.add_comm, zer_add]
theorem reg_of (r : BitVec 32) (l : List UInt8) : reg r l = zer r l.length ^^^ reg 0#32 l := by
  have := reg_split l r 0#32
  rwa [xor_zero] at this
/-- the joined sum -/
def crcJoin (a b : BitVec 32) (n : Nat) : BitVec 32 := zer a n ^^^ b
theorem not_eq (a : BitVec 32) : ~~~ a = a ^^^ (~~~ 0#32) := by
  have : ~~~0#32 = BitVec.allOnes 32 := by decide
  rw [this, BitVec.xor_allOnes]
theorem crc_app (l m : List UInt8) : crc (l ++ m) = crcJoin (crc l) (crc m) m.length := by
  unfold crc crcJoin
  rw [reg_app, reg_of (reg _ l) m, reg_of (~~~ 0#32) m, not_eq (reg _ l), zer_xor, not_eq (zer _ _ ^^^ _), not_eq (zer _ _ ^^^ _)]
  ext i hi
  simp only [BitVec.getElem_xor]
  generalize (zer (reg (~~~0#32) l) m.length)[i] = x
  generalize (zer (~~~0#32) m.length)[i] = y
  generalize (reg 0#32 m)[i] = z
  generalize (~~~0#32)[i] = u
  cases x <;> cases y <;> cases z <;> cases u <;> rfl
theorem crcMore_app (s : BitVec 32) (l m : List UInt8) : crcMore s (l ++ m) = crcMore (crcMore s l) m := by
  unfold crcMore; rw [reg_app]; simp
theorem crc_more (l : List UInt8) : crc l = crcMore 0#32 l := rfl
theorem crc_nil : crc [] = 0#32 := by decide
def crcZeros (s : BitVec 32) (n : Nat) : BitVec 32 := ~~~ zer (~~~ s) n
theorem crcZeros_add (s : BitVec 32) (m n : Nat) : crcZeros s (m + n) = crcZeros (crcZeros s m) n := by
  unfold crcZeros; rw [zer_add]; simp
theorem crcZeros_more (s : BitVec 32) (n : Nat) : crcZeros s n = crcMore s (List.replicate n 0) := by
  unfold crcZeros crcMore; rw [reg_noughts]

/-- the first k bits of a register -/
def low (x : BitVec 32) : Nat → BitVec 32
  | 0 => 0#32
  | k + 1 => if x.getLsbD k then low x k ^^^ (1#32 <<< k) else low x k
theorem low_bit (x : BitVec 32) (i : Nat) (hi : i < 32) : ∀ k, (low x k).getLsbD i = (decide (i < k) && x.getLsbD i)
  | 0 => by simp [low]
  | k + 1 => by
    have ih := low_bit x i hi k
    unfold low
    have e : (1#32 <<< k).getLsbD i = decide (i = k) := by
      rw [BitVec.getLsbD_shiftLeft, BitVec.getLsbD_one]
      by_cases h1 : i = k
      · subst h1; simp [hi]
      · by_cases h2 : i < k
        · simp [h1, h2]
        · simp [h1]; omega
    by_cases hx : x.getLsbD k = true
    · rw [if_pos hx, BitVec.getLsbD_xor, ih, e]
      by_cases h1 : i = k
      · subst h1; simp [hx]
      · have : (i < k + 1) ↔ i < k := by omega
        simp [h1, this]
    · rw [if_neg hx, ih]
      by_cases h1 : i = k
      · subst h1; simp at hx; simp [hx]
      · have : (i < k + 1) ↔ i < k := by omega
        simp [this]
theorem low_all (x : BitVec 32) (k : Nat) (h : x >>> k = 0#32) : low x k = x := by
  apply BitVec.eq_of_getLsbD_eq
  intro i hi
  rw [low_bit x i hi]
  by_cases hk : i < k
  · simp [hk]
  · have : (x >>> k).getLsbD (i - k) = false := by rw [h]; simp
    rw [BitVec.getLsbD_ushiftRight, show k + (i - k) = i by omega] at this
    simp [this]
theorem shr_out (x : BitVec 32) (k : Nat) (h : 32 ≤ k) : x >>> k = 0#32 := by
  apply BitVec.eq_of_getLsbD_eq
  intro i hi
  rw [BitVec.getLsbD_ushiftRight, BitVec.getLsbD_of_ge x (k + i) (by omega)]
  simp
/-- one bit's image -/
def img (n i : Nat) : BitVec 32 := its n (1#32 <<< i)
theorem its_low_step (n : Nat) (x : BitVec 32) (k : Nat) : its n (low x (k + 1)) = if x.getLsbD k then its n (low x k) ^^^ img n k else its n (low x k) := by
  rw [show low x (k + 1) = if x.getLsbD k then low x k ^^^ (1#32 <<< k) else low x k from rfl]
  split
  · rw [its_xor]; rfl
  · rfl
theorem img_twice (n i : Nat) : its n (img n i) = img (2 * n) i := by
  unfold img
  rw [← its_add, show n + n = 2 * n by omega]

end Go.Proofs.Ytgbfeagoadlhmaa.Pl
