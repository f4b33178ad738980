
/-
  Plain facts on lists, bytes and numbers: no program in sight.
-/
import Derived.Below
namespace Go.Proofs.Ytgbfeagoadlhmaa.Pl

/-- induction from the end of a list -/
theorem snoc_ind {α : Type} {p : List α → Prop} (h0 : p []) (h1 : ∀ l a, p l → p (l ++ [a])) (l : List α) : p l := by
  have h : ∀ n (l : List α), l.length = n → p l := by
    intro n
    induction n with
    | zero => intro l hl; cases l with
      | nil => exact h0
      | cons a t => simp at hl
    | succ n ih =>
      intro l hl
      have hne : l ≠ [] := by intro e; simp [e] at hl
      rw [← List.dropLast_concat_getLast hne]
      exact h1 _ _ (ih _ (by simp [hl]))
  exact h _ l rfl

/-- the number that bytes write, the one that weighs most first -/
def num (l : List UInt8) : Nat := l.foldl (fun n c => n * 256 + c.toNat) 0
/-- a number in so many bytes -/
def put (n k : Nat) : List UInt8 := (List.range k).map fun i => UInt8.ofNat (n / 256 ^ (k - 1 - i))

theorem put_length (n k : Nat) : (put n k).length = k := by simp [put]
theorem num_snoc (l : List UInt8) (c : UInt8) : num (l ++ [c]) = num l * 256 + c.toNat := by simp [num]
theorem num_nil : num [] = 0 := rfl
theorem num_one (c : UInt8) : num [c] = c.toNat := by simp [num]

theorem num_lt (l : List UInt8) : num l < 256 ^ l.length := by
  induction l using snoc_ind with
  | h0 => simp [num]
  | h1 l c ih =>
    rw [num_snoc, List.length_append, List.length_singleton, Nat.pow_succ]
    have := c.toNat_lt
    omega

theorem put_succ (n k : Nat) : put n (k + 1) = put (n / 256) k ++ [UInt8.ofNat n] := by
  simp only [put, List.range_succ, List.map_append, List.map_cons, List.map_nil]
  congr 1
  · apply List.map_congr_left
    intro i hi
    have hi' : i < k := by simpa using hi
    congr 1
    rw [Nat.div_div_eq_div_mul, ← Nat.pow_succ']
    congr 2
    omega
  · simp

theorem put_zero (n : Nat) : put n 0 = [] := rfl

theorem num_put (n k : Nat) (h : n < 256 ^ k) : num (put n k) = n := by
  induction k generalizing n with
  | zero => simp at h; subst h; rfl
  | succ k ih =>
    rw [put_succ, num_snoc, ih (n / 256) (by rw [Nat.pow_succ] at h; omega), UInt8.toNat_ofNat']
    omega

theorem put_num (l : List UInt8) : put (num l) l.length = l := by
  induction l using snoc_ind with
  | h0 => rfl
  | h1 l c ih =>
    have hc := c.toNat_lt
    rw [List.length_append, List.length_singleton, put_succ, num_snoc]
    have e1 : (num l * 256 + c.toNat) / 256 = num l := by omega
    rw [e1, ih]
    congr 2
    apply UInt8.toNat.inj
    rw [UInt8.toNat_ofNat']
    omega

theorem put_wide (n k : Nat) (h : n < 256 ^ k) : put n (k + 1) = 0 :: put n k := by
  simp only [put, List.range_succ_eq_map, List.map_cons, List.map_map]
  congr 1
  · have : n / 256 ^ (k + 1 - 1 - 0) = 0 := Nat.div_eq_of_lt (by simpa using h)
    rw [this]; rfl
  · apply List.map_congr_left
    intro i hi
    simp only [Function.comp]
    congr 3
    omega

theorem num_inj {a b : List UInt8} (hl : a.length = b.length) (h : num a = num b) : a = b := by
  rw [← put_num a, ← put_num b, hl, h]

theorem put_get (n k i : Nat) (h : i < k) : (put n k).getD i 0 = UInt8.ofNat (n / 256 ^ (k - 1 - i)) := by
  simp [put, List.getD_eq_getElem?_getD, h]

/-- a blob's bytes -/
def blob (l : List UInt8) : List UInt8 := put l.length 2 ++ l
theorem blob_length (l : List UInt8) : (blob l).length = l.length + 2 := by simp [blob, put_length]; omega

/-- the byte at a place, as a number -/
def at8 (l : List UInt8) (i : Nat) : Int := ((l.getD i 0).toNat : Int)
theorem at8_lo (l : List UInt8) (i : Nat) : 0 ≤ at8 l i := by unfold at8; omega
theorem at8_hi (l : List UInt8) (i : Nat) : at8 l i ≤ 255 := by
  unfold at8
  have := (l.getD i 0).toNat_lt
  omega
theorem at8_take (l : List UInt8) (i : Nat) (h : i < l.length) : l.take (i + 1) = l.take i ++ [l.getD i 0] := by
  rw [List.take_succ_eq_append_getElem h]
  simp [List.getD_eq_getElem?_getD, h]

end Go.Proofs.Ytgbfeagoadlhmaa.Pl
