
/-
  Room on a page: plain facts for the law PageRooms.
-/
import Derived.Test.YtgbfeagoadlhmaaStp
import Derived.Test.YtgbfeagoadlhmaaPackV
set_option linter.unusedVariables false
set_option linter.unusedSimpArgs false
namespace Go.Proofs.Ytgbfeagoadlhmaa
open Go.RowKit Pl

/-- how many of the first k slots have an item -/
def cntS (P : List UInt8) : Nat → Nat
  | 0 => 0
  | k + 1 => cntS P k + (if slotS P k = 0 then 0 else 1)
theorem cntS_succ (P : List UInt8) (k : Nat) : cntS P (k + 1) = cntS P k + (if slotS P k = 0 then 0 else 1) := rfl
theorem cntS_le (P : List UInt8) : ∀ k, cntS P k ≤ k
  | 0 => Nat.le_refl _
  | k + 1 => by have := cntS_le P k; rw [cntS_succ]; split <;> omega
theorem cntS_mono (P : List UInt8) : ∀ {i k : Nat}, i ≤ k → cntS P k ≤ cntS P i + (k - i)
  | i, 0, h => by obtain rfl : i = 0 := by omega
                  omega
  | i, k + 1, h => by
    by_cases hik : i = k + 1
    · subst hik; omega
    · have := cntS_mono P (i := i) (k := k) (by omega); rw [cntS_succ]; split <;> omega
theorem cntS_same (P : List UInt8) (s k : Nat) (h : s ≤ k) (hz : ∀ i, s ≤ i → i < k → slotS P i = 0) : cntS P k = cntS P s := by
  induction k with
  | zero => obtain rfl : s = 0 := by omega
            rfl
  | succ k ih =>
    by_cases hsk : s = k + 1
    · subst hsk; rfl
    · rw [cntS_succ, ih (by omega) (fun i h1 h2 => hz i h1 (by omega)), if_pos (hz k (by omega) (by omega))]; omega
theorem cntS_full (P : List UInt8) (m : Nat) : cntS P m = m ↔ emptyN P m = m := by
  constructor
  · intro h
    have hle := emptyN_le P m
    refine Classical.byContradiction fun hc => ?_
    have hlt : emptyN P m < m := by omega
    have hz := emptyN_hole P m hlt
    generalize emptyN P m = n at *
    have h1 := cntS_mono P (i := n + 1) (k := m) (by omega)
    have h2 := cntS_succ P n
    rw [if_pos hz] at h2
    have h3 := cntS_le P n
    omega
  · intro h
    have hf : ∀ k, k ≤ m → cntS P k = k := by
      intro k
      induction k with
      | zero => intro _; rfl
      | succ k ih => intro hk; rw [cntS_succ, ih (by omega), if_neg (emptyN_full P m k (by omega))]
    exact hf m (Nat.le_refl _)

/-- the room behind Pack, as the law reckons it -/
def wantN (P : List UInt8) : Int :=
  let u : Int := 1024 - (18 + 4 * (num2 P 14 : Int) + (sumS P (num2 P 14) : Int))
  let v : Int := if cntS P (num2 P 14) < num2 P 14 then u else u - 4
  if v < 0 then 0 else v

theorem room_want {P : List UInt8} (hP : P.length = 1024) (h : RightV P) : (RoomN (packP P) : Int) = wantN P ∧ (RoomN P : Int) ≤ wantN P ∧ RoomN P ≤ 1024 := by
  have hr := (right_iff P).2 h
  have hI := packP_is hP h
  have hrq := (right_iff _).2 (hI.right hP h)
  have hlow := h.low
  have hhigh := h.high
  have hsum := sumS_le hr (Nat.le_refl _)
  have hm := hI.many hP
  have he : emptyN (packP P) (num2 P 14) = num2 P 14 ↔ emptyN P (num2 P 14) = num2 P 14 := by
    rw [← cntS_full, ← cntS_full]
    have : ∀ k, k ≤ num2 P 14 → cntS (packP P) k = cntS P k := by
      intro k
      induction k with
      | zero => intro _; rfl
      | succ k ih => intro hk; rw [cntS_succ, cntS_succ, ih (by omega), hI.size (by omega)]
    rw [this _ (Nat.le_refl _)]
  have hc := cntS_full P (num2 P 14)
  have hcl := cntS_le P (num2 P 14)
  unfold RoomN roomN wantN
  rw [hr, hrq, if_pos rfl, if_pos rfl, hm, hI.start]
  simp only
  by_cases hh : emptyN P (num2 P 14) = num2 P 14
  · have h1 := hc.2 hh
    rw [if_pos (he.2 hh), if_pos hh, if_neg (show ¬ (cntS P (num2 P 14) < num2 P 14) by omega)]
    split <;> omega
  · have h1 : cntS P (num2 P 14) < num2 P 14 := by
      have := fun e => hh (hc.1 e)
      omega
    rw [if_neg (fun e => hh (he.1 e)), if_neg hh, if_pos h1]
    split <;> omega

theorem room_ins {P : List UInt8} (hP : P.length = 1024) (h : RightV P) (l : List UInt8) (hl : l.length = RoomN P) (h1 : 1 ≤ l.length) (h2 : l.length ≤ 1000) : insE P l.length = 0 ∧ rightB (insR P l) = true ∧ RoomN (insR P l) = 0 := by
  have hr := (right_iff P).2 h
  have hn : RoomN P = roomN P := by unfold RoomN; rw [hr, if_pos rfl]
  have hE : insE P l.length = 0 := by
    unfold insE; rw [hr, if_pos rfl, if_pos ⟨h1, h2⟩, if_pos (by omega)]
  obtain ⟨v1, v2, v3, v4, v5, v6, v7, v8⟩ := ins_view hP h hE
  have hR := ins_right hP h hE
  have hrq := (right_iff _).2 hR
  have hlow := h.low
  have hle := emptyN_le P (num2 P 14)
  have hi : insR P l = insP P l := by unfold insR; rw [if_pos hE]
  refine ⟨hE, by rw [hi]; exact hrq, ?_⟩
  rw [hi]
  unfold RoomN
  rw [hrq, if_pos rfl]
  unfold roomN at hn ⊢
  rw [v2, v3]
  rw [hl, hn] at h1 ⊢
  split at h1
  · rename_i hh
    rw [if_pos hh]
    split <;> omega
  · rename_i hh
    rw [if_neg hh]
    split <;> omega
theorem room_more {P : List UInt8} (h : RightV P) (h2 : RoomN P < 1000) : insE P (RoomN P + 1) = 5 := by
  have hr := (right_iff P).2 h
  have hn : RoomN P = roomN P := by unfold RoomN; rw [hr, if_pos rfl]
  unfold insE
  rw [hr, if_pos rfl, if_pos ⟨by omega, by omega⟩, if_neg (by omega)]

end Go.Proofs.Ytgbfeagoadlhmaa
