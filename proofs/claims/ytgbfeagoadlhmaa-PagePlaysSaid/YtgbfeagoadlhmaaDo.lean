
/-
  Contract of law05.do, but for the kind that spoils a byte.
-/
import Derived.Test.YtgbfeagoadlhmaaPacks
set_option linter.unusedVariables false
set_option linter.unusedSimpArgs false
namespace Go.Proofs.Ytgbfeagoadlhmaa
open Go.RowKit Pl

/-- a step's numbers; its bytes -/
structure Stp where
  kind : Int
  n : Int
  b : List UInt8
  by_ : UInt8
  lsn : Nat

/-- a step as cells: its bytes at A -/
def stepC (s : Stp) (A : Option Addr) (c : Nat) : Array Value := #[.int .i64 s.kind, .int .i64 s.n, .slice A s.b.length c, .int .u8 (s.by_.toNat : Int), .int .u64 (s.lsn : Int)]
/-- what a step makes of a page, its slot, its error: as the program's functions tell it -/
def rawQ (P : List UInt8) (s : Stp) : List UInt8 := if s.kind = 1 then insR P s.b else if s.kind = 2 then dropR P s.n else if s.kind = 3 then setR P s.n s.b else if s.kind = 4 then packR P else if s.kind = 6 then sealP P s.lsn else P
def rawN (P : List UInt8) (s : Stp) : Nat := if s.kind = 1 then insN P s.b.length else 0
def rawE (P : List UInt8) (s : Stp) : Nat := if s.kind = 1 then insE P s.b.length else if s.kind = 2 then itemE P s.n else if s.kind = 3 then setE P s.n s.b.length else if s.kind = 4 then packE P else 0
/-- what do tells -/
def doQ (P : List UInt8) (s : Stp) : List UInt8 := if rawE P s = 0 then rawQ P s else P

structure StpOk (s : Stp) : Prop where
  n1 : -9223372036854775808 ≤ s.n
  n2 : s.n ≤ 9223372036854775807
  b : s.b.length < 2 ^ 62
  lsn : s.lsn < 18446744073709551616

theorem raw_zero (P : List UInt8) (s : Stp) (h : rawE P s ≠ 0) : rawQ P s = zeroP ∧ rawN P s = 0 := by
  unfold rawE at h
  unfold rawQ rawN
  by_cases h1 : s.kind = 1
  · rw [if_pos h1] at h ⊢; rw [if_pos h1]
    unfold insR insN; rw [if_neg h, if_neg h]; exact ⟨rfl, rfl⟩
  rw [if_neg h1] at h ⊢; rw [if_neg h1]
  by_cases h2 : s.kind = 2
  · rw [if_pos h2] at h ⊢; unfold dropR; rw [if_neg h]; exact ⟨rfl, rfl⟩
  rw [if_neg h2] at h ⊢
  by_cases h3 : s.kind = 3
  · rw [if_pos h3] at h ⊢; unfold setR; rw [if_neg h]; exact ⟨rfl, rfl⟩
  rw [if_neg h3] at h ⊢
  by_cases h4 : s.kind = 4
  · rw [if_pos h4] at h ⊢
    unfold packE at h
    unfold packR
    cases hr : rightB P
    · exact ⟨rfl, rfl⟩
    · rw [hr] at h; simp at h
  rw [if_neg h4] at h
  exact absurd rfl h

theorem grown_row (w : World) (g : Nat) (cells : Array Value) : w.grownBy (w.setRow g cells) (some g) :=
  ⟨rfl, rfl, rfl, by rw [size_setRow]; exact Nat.le_refl _, fun k _ hk => setRow_other w g k cells (fun e => hk (by rw [e]))⟩
theorem insR_length {P : List UInt8} (h : P.length = 1024) (l : List UInt8) : (insR P l).length = 1024 := by
  unfold insR
  split
  · rename_i hE
    cases hr : rightB P with
    | true => exact (ins_view h ((right_iff P).1 hr) hE).1
    | false => unfold insE at hE; rw [hr] at hE; simp at hE
  · exact zeroP_length
theorem item_has {P : List UInt8} {z : Int} (hE : itemE P z = 0) : rightB P = true ∧ 0 ≤ z ∧ z.toNat < num2 P 14 ∧ slotS P z.toNat ≠ 0 := by
  unfold itemE at hE
  cases hr : rightB P with
  | false => rw [hr] at hE; simp at hE
  | true =>
    rw [hr, if_pos rfl] at hE
    split at hE
    · omega
    · split at hE
      · rename_i hh
        unfold hasB at hh
        simp only [Bool.and_eq_true, decide_eq_true_eq] at hh
        exact ⟨rfl, by omega, hh.1, hh.2⟩
      · omega
theorem dropR_length {P : List UInt8} (h : P.length = 1024) (z : Int) : (dropR P z).length = 1024 := by
  unfold dropR
  split
  · rename_i hE
    obtain ⟨hr, _, hz, _⟩ := item_has hE
    exact (drop_view h ((right_iff P).1 hr) hz).1
  · exact zeroP_length
theorem set_has {P : List UInt8} {z : Int} {n : Nat} (hE : setE P z n = 0) : rightB P = true ∧ 0 ≤ z ∧ z.toNat < num2 P 14 ∧ slotS P z.toNat ≠ 0 ∧ slotS P z.toNat = n := by
  unfold setE at hE
  cases hr : rightB P with
  | false => rw [hr] at hE; simp at hE
  | true =>
    rw [hr, if_pos rfl] at hE
    split at hE
    · omega
    · split at hE
      · split at hE
        · rename_i hh
          unfold hasB at hh
          simp only [Bool.and_eq_true, decide_eq_true_eq] at hh
          split at hE
          · exact ⟨rfl, by omega, hh.1, hh.2, by assumption⟩
          · omega
        · omega
      · omega
theorem setR_length {P : List UInt8} (h : P.length = 1024) (z : Int) (l : List UInt8) : (setR P z l).length = 1024 := by
  unfold setR
  split
  · rename_i hE
    obtain ⟨hr, _, hz, hs, hn⟩ := set_has hE
    exact (set_view h ((right_iff P).1 hr) hz hs hn.symm).1
  · exact zeroP_length

end Go.Proofs.Ytgbfeagoadlhmaa
