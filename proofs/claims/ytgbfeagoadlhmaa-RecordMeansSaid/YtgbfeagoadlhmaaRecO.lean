
/-
  A record's bytes with one to three bits turned, plain (after XHasP).
-/
import Derived.Test.YtgbfeagoadlhmaaRotP
import Derived.Test.YtgbfeagoadlhmaaRecJ
set_option linter.unusedVariables false
set_option linter.unusedSimpArgs false
namespace Go.Proofs.Ytgbfeagoadlhmaa
open Go.RowKit Pl

theorem num_cons (c : UInt8) (l : List UInt8) : num (c :: l) = 2 ^ (8 * l.length) * c.toNat + num l := by
  induction l using snoc_ind with
  | h0 => simp [num]
  | h1 l a ih =>
    rw [← List.cons_append, num_snoc, ih, num_snoc, List.length_append, show 8 * (l.length + [a].length) = 8 * l.length + 8 by simp; omega, Nat.pow_add, show (2 : Nat) ^ 8 = 256 from rfl]
    rw [Nat.add_mul, Nat.mul_right_comm, Nat.add_assoc]
theorem xor_parts (m a b x y : Nat) (hb : b < 2 ^ m) (hy : y < 2 ^ m) : (2 ^ m * a + b) ^^^ (2 ^ m * x + y) = 2 ^ m * (a ^^^ x) + (b ^^^ y) := by
  apply Nat.eq_of_testBit_eq
  intro i
  rw [Nat.testBit_xor, Nat.testBit_two_pow_mul_add _ hb, Nat.testBit_two_pow_mul_add _ hy, Nat.testBit_two_pow_mul_add _ (Nat.xor_lt_two_pow hb hy)]
  split <;> rw [Nat.testBit_xor]
theorem num_lt2 (l : List UInt8) : num l < 2 ^ (8 * l.length) := by
  have := num_lt l
  rwa [show (256 : Nat) = 2 ^ 8 from rfl, ← Nat.pow_mul] at this
theorem num_flip : ∀ (l : List UInt8) (k : Nat), k < 8 * l.length → num (flipL l k) = num l ^^^ 2 ^ (8 * (l.length - 1 - k / 8) + k % 8)
  | [], k, h => by simp at h
  | c :: t, k, h => by
    have hlt := num_lt2 t
    by_cases hk : k < 8
    · have e1 : flipL (c :: t) k = flipB c k :: t := by
        unfold flipL
        rw [Nat.div_eq_of_lt hk, Nat.mod_eq_of_lt hk]
        simp
      rw [e1, num_cons, num_cons, flipB_nat c k hk, Nat.div_eq_of_lt hk, Nat.mod_eq_of_lt hk]
      rw [show (c :: t).length - 1 - 0 = t.length by simp, Nat.pow_add]
      have := xor_parts (8 * t.length) c.toNat (num t) (2 ^ k) 0 hlt (Nat.two_pow_pos _)
      rw [Nat.add_zero, Nat.xor_zero] at this
      exact this.symm
    · have e1 : flipL (c :: t) k = c :: flipL t (k - 8) := by
        unfold flipL
        rw [show k / 8 = (k - 8) / 8 + 1 by omega, show k % 8 = (k - 8) % 8 by omega]
        simp
      have hk2 : k - 8 < 8 * t.length := by simp at h; omega
      rw [e1, num_cons, num_cons, num_flip t (k - 8) hk2, flipL_length]
      have e2 : 8 * ((c :: t).length - 1 - k / 8) + k % 8 = 8 * (t.length - 1 - (k - 8) / 8) + (k - 8) % 8 := by simp; omega
      rw [e2]
      have := xor_parts (8 * t.length) c.toNat (num t) 0 (2 ^ (8 * (t.length - 1 - (k - 8) / 8) + (k - 8) % 8)) hlt (Nat.pow_lt_pow_right (by decide) (by omega))
      rw [Nat.mul_zero, Nat.zero_add, Nat.xor_zero] at this
      exact this.symm

theorem flip_app_l (A B : List UInt8) (z : Nat) (h : z < 8 * A.length) : flipL (A ++ B) z = flipL A z ++ B := by
  unfold flipL
  have h1 : z / 8 < A.length := by omega
  rw [List.set_append, if_pos h1]
  simp [List.getD_eq_getElem?_getD, List.getElem?_append, h1]
theorem flip_app_r (A B : List UInt8) (z : Nat) (h : 8 * A.length ≤ z) : flipL (A ++ B) z = A ++ flipL B (z - 8 * A.length) := by
  unfold flipL
  have h1 : ¬ z / 8 < A.length := by omega
  rw [List.set_append, if_neg h1, show (z - 8 * A.length) / 8 = z / 8 - A.length by omega, show (z - 8 * A.length) % 8 = z % 8 by omega]
  simp [List.getD_eq_getElem?_getD, List.getElem?_append, h1]
theorem xor_swap (a b c : BitVec 32) : a ^^^ b ^^^ c = a ^^^ c ^^^ b := by rw [BitVec.xor_assoc, BitVec.xor_comm b c, ← BitVec.xor_assoc]
/-- what a record's sum lacks of being right -/
def synR (P : List UInt8) : BitVec 32 := crc (P.take 12 ++ P.drop 16) ^^^ BitVec.ofNat 32 (num ((P.drop 12).take 4))
def bitR (n z : Nat) : BitVec 32 := if z < 96 then eb (8 * n - 32 - z) else if z < 128 then 1#32 <<< (8 * (3 - (z - 96) / 8) + (z - 96) % 8) else eb (8 * n - z)
theorem rec_parts {P : List UInt8} {n : Nat} (hP : P.length = n) (hn : 17 ≤ n) : ∃ A B C, P = A ++ (B ++ C) ∧ A.length = 12 ∧ B.length = 4 ∧ C.length = n - 16 :=
  ⟨P.take 12, (P.drop 12).take 4, (P.drop 12).drop 4, by rw [List.take_append_drop, List.take_append_drop], by rw [List.length_take, hP]; omega, by rw [List.length_take, List.length_drop, hP]; omega, by rw [List.length_drop, List.length_drop, hP]; omega⟩
theorem synR_parts {A B C : List UInt8} (hA : A.length = 12) (hB : B.length = 4) : synR (A ++ (B ++ C)) = crc (A ++ C) ^^^ BitVec.ofNat 32 (num B) := by
  unfold synR
  rw [List.take_left' hA, List.drop_left' hA, List.take_left' hB]
  rw [show (A ++ (B ++ C)).drop 16 = C by rw [← List.append_assoc]; exact List.drop_left' (by rw [List.length_append]; omega)]
theorem synR_flip {P : List UInt8} {n : Nat} (hP : P.length = n) (hn : 17 ≤ n) {z : Nat} (hz : z < 8 * n) : synR (flipL P z) = synR P ^^^ bitR n z := by
  obtain ⟨A, B, C, rfl, hA, hB, hC⟩ := rec_parts hP hn
  unfold bitR
  by_cases h1 : z < 96
  · rw [if_pos h1, flip_app_l _ _ _ (by omega), synR_parts (by rw [flipL_length, hA]) hB, synR_parts hA hB, ← flip_app_l _ _ _ (by omega), crc_flip _ _ (by rw [List.length_append]; omega), List.length_append, hA, hC]
    rw [show 8 * (12 + (n - 16)) - z = 8 * n - 32 - z by omega]
    exact xor_swap _ _ _
  · rw [if_neg h1]
    by_cases h2 : z < 128
    · rw [if_pos h2, flip_app_r _ _ _ (by omega), flip_app_l _ _ _ (by omega), synR_parts hA (by rw [flipL_length, hB]), synR_parts hA hB, num_flip _ _ (by omega), hA, hB, BitVec.xor_assoc]
      congr 1
      have ht : 8 * (4 - 1 - (z - 8 * 12) / 8) + (z - 8 * 12) % 8 = 8 * (3 - (z - 96) / 8) + (z - 96) % 8 := by omega
      rw [ht]
      have ht2 : 8 * (3 - (z - 96) / 8) + (z - 96) % 8 < 32 := by omega
      generalize 8 * (3 - (z - 96) / 8) + (z - 96) % 8 = t at ht2 ⊢
      apply BitVec.eq_of_toNat_eq
      have h3 : 2 ^ t < 2 ^ 32 := Nat.pow_lt_pow_right (by decide) ht2
      have hn := num_lt2 B
      rw [hB] at hn
      rw [BitVec.toNat_xor, BitVec.toNat_ofNat, BitVec.toNat_ofNat, BitVec.toNat_shiftLeft, Nat.shiftLeft_eq, Nat.mod_eq_of_lt (Nat.xor_lt_two_pow hn h3), Nat.mod_eq_of_lt hn]
      congr 1
      rw [Nat.mod_eq_of_lt] <;> simp
      exact h3
    · rw [if_neg h2, flip_app_r _ _ _ (by omega), flip_app_r _ _ _ (by omega), synR_parts hA hB, synR_parts hA hB]
      have e : A ++ flipL C (z - 8 * A.length - 8 * B.length) = flipL (A ++ C) (z - 32) := by
        rw [flip_app_r _ _ _ (by omega)]
        congr 2
        omega
      rw [e, crc_flip _ _ (by rw [List.length_append]; omega), List.length_append, hA, hC]
      rw [show 8 * (12 + (n - 16)) - (z - 32) = 8 * n - z by omega]
      exact xor_swap _ _ _
def bitI (n z : Nat) : Nat := if z < 96 then 8 * n - 1 - z else if z < 128 then 31 - (8 * (3 - (z - 96) / 8) + (z - 96) % 8) else 8 * n + 31 - z
theorem bitR_its {n z : Nat} (hn : 17 ≤ n) (hz : z < 8 * n) : its 31 (bitR n z) = eb (bitI n z) := by
  unfold bitR bitI
  split
  · unfold eb; rw [← its_add]; congr 1; omega
  split
  · rw [its_bit _ _ (by omega) (by omega)]
  · unfold eb; rw [← its_add]; congr 1; omega
theorem bitR_inj {n a b : Nat} (hn : 17 ≤ n) (hn2 : n ≤ 5000) (ha : a < 8 * n) (hb : b < 8 * n) (h : bitR n a = bitR n b) : a = b := by
  have h1 := congrArg (its 31) h
  rw [bitR_its hn ha, bitR_its hn hb] at h1
  have h2 : bitI n a ≤ 72300 := by unfold bitI; split <;> (try split) <;> omega
  have h3 : bitI n b ≤ 72300 := by unfold bitI; split <;> (try split) <;> omega
  have h4 := eb_two h1 h2 h3
  unfold bitI at h4
  split at h4 <;> split at h4 <;> (try split at h4) <;> (try split at h4) <;> omega
theorem bitR_par {n z : Nat} (hn : 17 ≤ n) (hz : z < 8 * n) : par (bitR n z) = true := by
  have := par_its 31 (bitR n z)
  rw [bitR_its hn hz, eb_par] at this
  exact this.symm
/-- a bit turned, if there is one at the place -/
def turnB (n : Nat) (P : List UInt8) (z : Int) : List UInt8 := if 32 ≤ z ∧ z < 8 * (n : Int) then flipL P z.toNat else P
theorem turnB_length (n : Nat) (P : List UInt8) (z : Int) : (turnB n P z).length = P.length := by unfold turnB; split <;> simp [flipL_length]
theorem turnB_head (n : Nat) (P : List UInt8) (z : Int) : (turnB n P z).take 4 = P.take 4 := by
  unfold turnB
  split
  · unfold flipL
    rw [List.take_set_of_le]
    omega
  · rfl
theorem rbad1 {P : List UInt8} {n : Nat} (hP : P.length = n) (hn : 17 ≤ n) (hg : synR P = 0#32) {a : Nat} (ha : a < 8 * n) : synR (flipL P a) ≠ 0#32 := by
  rw [synR_flip hP hn ha, hg]
  intro h
  have := congrArg par h
  rw [par_xor, bitR_par hn ha] at this
  exact absurd this (by decide)
theorem rbad2 {P : List UInt8} {n : Nat} (hP : P.length = n) (hn : 17 ≤ n) (hn2 : n ≤ 5000) (hg : synR P = 0#32) {a b : Nat} (ha : a < 8 * n) (hb : b < 8 * n) : flipL (flipL P a) b = P ∨ synR (flipL (flipL P a) b) ≠ 0#32 := by
  by_cases hab : a = b
  · subst hab
    exact .inl (flipL_twice P a (by omega))
  · refine .inr ?_
    have h1 : (flipL P a).length = n := by rw [flipL_length, hP]
    rw [synR_flip h1 hn hb, synR_flip hP hn ha, hg]
    intro h
    have := xor_nought h
    rw [BitVec.zero_xor] at this
    exact hab (bitR_inj hn hn2 ha hb this)
theorem rbad3 {P : List UInt8} {n : Nat} (hP : P.length = n) (hn : 17 ≤ n) (hg : synR P = 0#32) {a b c : Nat} (ha : a < 8 * n) (hb : b < 8 * n) (hc : c < 8 * n) : synR (flipL (flipL (flipL P a) b) c) ≠ 0#32 := by
  have h1 : (flipL P a).length = n := by rw [flipL_length, hP]
  have h2 : (flipL (flipL P a) b).length = n := by rw [flipL_length, h1]
  rw [synR_flip h2 hn hc, synR_flip h1 hn hb, synR_flip hP hn ha, hg]
  intro h
  have := congrArg par h
  rw [par_xor, par_xor, par_xor, bitR_par hn ha, bitR_par hn hb, bitR_par hn hc] at this
  exact absurd this (by decide)
theorem rturned {P : List UInt8} {n : Nat} (hP : P.length = n) (hn : 17 ≤ n) (hn2 : n ≤ 5000) (hg : synR P = 0#32) (x y z : Int) : turnB n (turnB n (turnB n P x) y) z = P ∨ synR (turnB n (turnB n (turnB n P x) y) z) ≠ 0#32 := by
  unfold turnB
  by_cases hx : 32 ≤ x ∧ x < 8 * (n : Int)
  · rw [if_pos hx]
    by_cases hy : 32 ≤ y ∧ y < 8 * (n : Int)
    · rw [if_pos hy]
      by_cases hz : 32 ≤ z ∧ z < 8 * (n : Int)
      · rw [if_pos hz]; exact .inr (rbad3 hP hn hg (by omega) (by omega) (by omega))
      · rw [if_neg hz]; exact rbad2 hP hn hn2 hg (by omega) (by omega)
    · rw [if_neg hy]
      by_cases hz : 32 ≤ z ∧ z < 8 * (n : Int)
      · rw [if_pos hz]; exact rbad2 hP hn hn2 hg (by omega) (by omega)
      · rw [if_neg hz]; exact .inr (rbad1 hP hn hg (by omega))
  · rw [if_neg hx]
    by_cases hy : 32 ≤ y ∧ y < 8 * (n : Int)
    · rw [if_pos hy]
      by_cases hz : 32 ≤ z ∧ z < 8 * (n : Int)
      · rw [if_pos hz]; exact rbad2 hP hn hn2 hg (by omega) (by omega)
      · rw [if_neg hz]; exact .inr (rbad1 hP hn hg (by omega))
    · rw [if_neg hy]
      by_cases hz : 32 ≤ z ∧ z < 8 * (n : Int)
      · rw [if_pos hz]; exact .inr (rbad1 hP hn hg (by omega))
      · rw [if_neg hz]; exact .inl rfl
/-- .. the first k of the places -/
def turnK (n : Nat) (S : List UInt8) (zs : List Int) : Nat → List UInt8
  | 0 => S
  | k + 1 => turnB n (turnK n S zs k) (zs.getD k 0)
theorem turnK_length (n : Nat) (S : List UInt8) (zs : List Int) : ∀ k, (turnK n S zs k).length = S.length
  | 0 => rfl
  | k + 1 => by show (turnB n (turnK n S zs k) _).length = _; rw [turnB_length, turnK_length n S zs k]
theorem turnK_head (n : Nat) (S : List UInt8) (zs : List Int) : ∀ k, (turnK n S zs k).take 4 = S.take 4
  | 0 => rfl
  | k + 1 => by show (turnB n (turnK n S zs k) _).take 4 = _; rw [turnB_head, turnK_head n S zs k]
theorem turn_val (x : UInt8) (j : Nat) (h : j < 8) : bits .xor .u8 (x.toNat : Int) (2 ^ j % 256) = ((flipB x j).toNat : Int) := by
  have hx := x.toNat_lt
  have hp : 2 ^ j < 2 ^ 8 := Nat.pow_lt_pow_right (by decide) h
  have e : ((2 : Int) ^ j % 256) = ((2 ^ j : Nat) : Int) := by
    have hh : (2 : Int) ^ j = ((2 ^ j : Nat) : Int) := by simp
    rw [hh]
    exact Int.emod_eq_of_lt (Int.natCast_nonneg _) (Int.ofNat_lt.2 hp)
  rw [e, u8_xor_nat _ _ (by omega) (by omega), flipB_nat x j h]
theorem three_cell (x y z : Int) {k : Nat} (hk : k < 3) : (#[Value.int .i64 x, Value.int .i64 y, Value.int .i64 z] : Array Value)[k]? = some (.int .i64 ([x, y, z].getD k 0)) := by
  rcases k with _ | _ | _ | k
  · rfl
  · rfl
  · rfl
  · omega

/-- a record's sum is right -/
theorem syn_good (r : Rec) (pl : Nat) : synR (bytesR r pl) = 0#32 := by
  have hp := parts4 (a := put (17 + (bodyR r).length) 4) (b := put pl 8) (c := put (sumR (17 + (bodyR r).length) pl (UInt8.ofNat r.kind.toNat) (bodyR r)) 4) (d := UInt8.ofNat r.kind.toNat :: bodyR r) (put_length _ _) (put_length _ _) (put_length _ _)
  rw [← bytesR_is] at hp
  unfold synR
  rw [hp.2.2.1, hp.2.2.2.1, hp.2.2.2.2, num_put _ 4 (by unfold sumR; exact (crc _).isLt)]
  unfold sumR
  rw [List.append_assoc, BitVec.ofNat_toNat]
  simp
/-- turned in one to three bits behind its first four bytes it is no record's, or it is as it was -/
theorem cut_turned (r : Rec) (pl : Nat) (hb : (bodyR r).length ≤ 3000) (x y z : Int) :
    turnK (17 + (bodyR r).length) (bytesR r pl) [x, y, z] 3 = bytesR r pl ∨ ∀ q, cutB (turnK (17 + (bodyR r).length) (bytesR r pl) [x, y, z] 3) q = false := by
  have hl := bytesR_length r pl
  have h0 : turnK (17 + (bodyR r).length) (bytesR r pl) [x, y, z] 3 = turnB (17 + (bodyR r).length) (turnB (17 + (bodyR r).length) (turnB (17 + (bodyR r).length) (bytesR r pl) x) y) z := rfl
  rcases rturned hl (by omega) (by omega) (syn_good r pl) x y z with h | h
  · exact .inl (h0.trans h)
  · right
    intro q
    rw [← h0] at h
    have hT := turnK_length (17 + (bodyR r).length) (bytesR r pl) [x, y, z] 3
    have hH := turnK_head (17 + (bodyR r).length) (bytesR r pl) [x, y, z] 3
    generalize turnK (17 + (bodyR r).length) (bytesR r pl) [x, y, z] 3 = T at *
    have hp := parts4 (a := put (17 + (bodyR r).length) 4) (b := put pl 8) (c := put (sumR (17 + (bodyR r).length) pl (UInt8.ofNat r.kind.toNat) (bodyR r)) 4) (d := UInt8.ofNat r.kind.toNat :: bodyR r) (put_length _ _) (put_length _ _) (put_length _ _)
    rw [← bytesR_is] at hp
    have hz : num (T.take 4) = 17 + (bodyR r).length := by rw [hH, hp.1, num_put _ 4 (by omega)]
    unfold cutB
    rw [hz]
    split
    · rfl
    · split
      · rfl
      · have hTn : T.take (17 + (bodyR r).length) = T := List.take_of_length_le (by omega)
        rw [hTn, Bool.and_eq_false_iff]
        right
        rw [decide_eq_false_iff_not]
        intro e
        apply h
        unfold synR
        rw [e, BitVec.ofNat_toNat]
        simp

end Go.Proofs.Ytgbfeagoadlhmaa
