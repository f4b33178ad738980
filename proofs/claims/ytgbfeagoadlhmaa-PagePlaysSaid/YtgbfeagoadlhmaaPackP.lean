
/-
  Plain facts on a page that is packed.
-/
import Derived.Test.YtgbfeagoadlhmaaPageL
set_option linter.unusedVariables false
set_option linter.unusedSimpArgs false
namespace Go.Proofs.Ytgbfeagoadlhmaa
open Go.RowKit Pl

/-- how many bytes the first k slots' items have -/
def sumS (P : List UInt8) : Nat → Nat
  | 0 => 0
  | k + 1 => sumS P k + slotS P k
theorem sumS_succ (P : List UInt8) (k : Nat) : sumS P (k + 1) = sumS P k + slotS P k := rfl
theorem sumS_mono (P : List UInt8) {i k : Nat} (h : i ≤ k) : sumS P i ≤ sumS P k := by
  induction k with
  | zero => obtain rfl : i = 0 := by omega
            exact Nat.le_refl _
  | succ k ih =>
    by_cases hik : i = k + 1
    · subst hik; exact Nat.le_refl _
    · have := ih (by omega); rw [sumS_succ]; omega

/-- how many places below n a test allows -/
def cnt (f : Nat → Bool) : Nat → Nat
  | 0 => 0
  | n + 1 => cnt f n + (if f n then 1 else 0)
theorem cnt_le (f : Nat → Bool) (n : Nat) : cnt f n ≤ n := by
  induction n with
  | zero => exact Nat.le_refl _
  | succ n ih => unfold cnt; split <;> omega
theorem cnt_or (f g : Nat → Bool) (h : ∀ i, ¬ (f i = true ∧ g i = true)) (n : Nat) : cnt (fun i => f i || g i) n = cnt f n + cnt g n := by
  induction n with
  | zero => rfl
  | succ n ih =>
    unfold cnt
    rw [ih]
    have := h n
    cases hf : f n <;> cases hg : g n <;> simp_all <;> omega
theorem cnt_int (a s : Nat) (n : Nat) : cnt (fun i => decide (a ≤ i) && decide (i < a + s)) n = min n (a + s) - min n a := by
  induction n with
  | zero => simp [cnt]
  | succ n ih =>
    unfold cnt
    rw [ih]
    by_cases h1 : a ≤ n <;> by_cases h2 : n < a + s <;> simp [h1, h2] <;> omega
theorem cnt_low (f : Nat → Bool) (b : Nat) (h : ∀ i, i < b → f i = false) (n : Nat) : cnt f n ≤ n - b := by
  induction n with
  | zero => exact Nat.zero_le _
  | succ n ih =>
    unfold cnt
    by_cases hn : n < b
    · rw [h n hn]; simp; omega
    · split <;> omega

theorem right_ok {P : List UInt8} (h : rightB P = true) {n : Nat} (hn : n < num2 P 14) : slotOk P n = true := by
  unfold rightB at h
  simp only [Bool.and_eq_true, List.all_eq_true] at h
  exact h.1.2 n (by simpa using hn)
theorem right_free {P : List UInt8} (h : rightB P = true) {n : Nat} (hn : n < num2 P 14) (i : Nat) (hi : i < slotS P n) : takenB P n (slotA P n + i) = false := by
  have := right_ok h hn
  unfold slotOk emptyB freeB at this
  simp only [Bool.or_eq_true, Bool.and_eq_true, decide_eq_true_eq, List.all_eq_true] at this
  rcases this with h1 | ⟨_, h2⟩
  · omega
  · have := h2 i (by simpa using hi)
    simpa using this
theorem taken_low {P : List UInt8} (h : rightB P = true) {k : Nat} (hk : k ≤ num2 P 14) (i : Nat) (hi : i < num2 P 16) : takenB P k i = false := by
  unfold takenB
  rw [List.any_eq_false]
  intro j hj
  have hj' : j < k := by simpa using hj
  by_cases hz : slotS P j = 0
  · simp [hz]
  · have := right_slot h (n := j) (by omega) hz
    simp; omega
/-- items do not overlap, so there is room for all of them -/
theorem cnt_taken {P : List UInt8} (h : rightB P = true) : ∀ k, k ≤ num2 P 14 → cnt (takenB P k) 1024 = sumS P k
  | 0, _ => by
    have : takenB P 0 = fun _ => false := by funext i; exact takenB_zero P i
    rw [this]
    have : ∀ n, cnt (fun _ => false) n = 0 := by intro n; induction n with | zero => rfl | succ n ih => unfold cnt; rw [ih]; rfl
    rw [this]; rfl
  | k + 1, hk => by
    have ih := cnt_taken h k (by omega)
    have hst : takenB P (k + 1) = fun i => takenB P k i || (decide (slotA P k ≤ i) && decide (i < slotA P k + slotS P k)) := by funext i; exact takenB_step P k i
    rw [hst, cnt_or _ _ (fun i hc => ?_), ih, cnt_int]
    · rw [sumS_succ]
      by_cases hz : slotS P k = 0
      · rw [hz]; simp
      · have := right_slot h (n := k) (by omega) hz
        omega
    · simp only [Bool.and_eq_true, decide_eq_true_eq] at hc
      have := right_free h (n := k) (by omega) (i - slotA P k) (by omega)
      rw [show slotA P k + (i - slotA P k) = i by omega] at this
      rw [this] at hc
      exact absurd hc.1 (by simp)
theorem sumS_le {P : List UInt8} (h : rightB P = true) {k : Nat} (hk : k ≤ num2 P 14) : sumS P k + num2 P 16 ≤ 1024 := by
  have h1 := cnt_low (takenB P k) (num2 P 16) (fun i hi => taken_low h hk i hi) 1024
  have h2 := right_le h
  rw [cnt_taken h k hk] at h1
  omega

/-- the page behind k slots of Pack -/
def pkP (P : List UInt8) : Nat → List UInt8
  | 0 => over zeroP 0 (P.take (18 + 4 * num2 P 14))
  | k + 1 => if slotS P k = 0 then pkP P k else point2 (over (pkP P k) (1024 - sumS P (k + 1)) (itemL P k)) k (1024 - sumS P (k + 1)) (slotS P k)
def packP (P : List UInt8) : List UInt8 := set2 (pkP P (num2 P 14)) 16 (1024 - sumS P (num2 P 14))
def packE (P : List UInt8) : Nat := if rightB P then 0 else 4
def packR (P : List UInt8) : List UInt8 := if rightB P then packP P else zeroP

theorem itemL_length {P : List UInt8} (h : P.length = 1024) (hr : rightB P = true) {k : Nat} (hk : k < num2 P 14) : (itemL P k).length = slotS P k := by
  unfold itemL
  rw [List.length_take, List.length_drop, h]
  by_cases hz : slotS P k = 0
  · omega
  · have := right_slot hr hk hz; omega
theorem point2_length (P : List UInt8) (n a s : Nat) (h : P.length = 1024) (hn : 18 + 4 * n + 4 ≤ 1024) : (point2 P n a s).length = 1024 := by
  unfold point2; exact set2_length _ _ _ (set2_length _ _ _ h (by omega)) (by omega)
theorem pkP_length {P : List UInt8} (h : P.length = 1024) (hr : rightB P = true) : ∀ k, k ≤ num2 P 14 → (pkP P k).length = 1024
  | 0, _ => by
    have := right_le hr
    unfold pkP
    rw [over_length _ _ _ (by rw [zeroP_length, List.length_take, h]; omega), zeroP_length]
  | k + 1, hk => by
    have ih := pkP_length h hr k (by omega)
    have h1 := right_le hr
    have h2 := sumS_le hr hk
    unfold pkP
    split
    · exact ih
    · refine point2_length _ _ _ _ ?_ (by omega)
      rw [over_length _ _ _ (by rw [ih, itemL_length h hr (by omega), sumS_succ]; rw [sumS_succ] at h2; omega), ih]
theorem packP_length {P : List UInt8} (h : P.length = 1024) (hr : rightB P = true) : (packP P).length = 1024 := by
  unfold packP; exact set2_length _ _ _ (pkP_length h hr _ (Nat.le_refl _)) (by omega)
theorem packR_length {P : List UInt8} (h : P.length = 1024) : (packR P).length = 1024 := by
  unfold packR
  split
  · exact packP_length h (by assumption)
  · exact zeroP_length
theorem sumS_same (P : List UInt8) (s k : Nat) (h : s ≤ k) (hz : ∀ i, s ≤ i → i < k → slotS P i = 0) : sumS P k = sumS P s := by
  induction k with
  | zero => obtain rfl : s = 0 := by omega
            rfl
  | succ k ih =>
    by_cases hsk : s = k + 1
    · subst hsk; rfl
    · rw [sumS_succ]
      rw [ih (by omega) (fun i h1 h2 => hz i h1 (by omega)), hz k (by omega) (by omega)]
      omega
theorem pkP_same (P : List UInt8) (s k : Nat) (h : s ≤ k) (hz : ∀ i, s ≤ i → i < k → slotS P i = 0) : pkP P k = pkP P s := by
  induction k with
  | zero => obtain rfl : s = 0 := by omega
            rfl
  | succ k ih =>
    by_cases hsk : s = k + 1
    · subst hsk; rfl
    · rw [show pkP P (k + 1) = if slotS P k = 0 then pkP P k else _ from rfl, if_pos (hz k (by omega) (by omega)), ih (by omega) (fun i h1 h2 => hz i h1 (by omega))]

end Go.Proofs.Ytgbfeagoadlhmaa
