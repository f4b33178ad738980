
/-
  Contracts of the reader's step, Number, Blob, Bytes, End, and of Read and Blob.
-/
import Derived.Test.YtgbfeagoadlhmaaReadA
set_option linter.unusedVariables false
set_option linter.unusedSimpArgs false
namespace Go.Proofs.Ytgbfeagoadlhmaa
open Go.RowKit Pl

/-- what a step of n bytes gets, and what is ahead of the reader then -/
def gets (s : Option (List UInt8)) (n : Int) : List UInt8 × Option (List UInt8) :=
  match s with
  | none => ([], none)
  | some l => if 0 ≤ n ∧ n ≤ l.length then (l.take n.toNat, some (l.drop n.toNat)) else ([], none)

theorem gets_none (n : Int) : gets none n = ([], none) := rfl
theorem gets_out (l : List UInt8) (n : Int) (h : n < 0 ∨ (l.length : Int) < n) : gets (some l) n = ([], none) := by
  unfold gets; simp only; rw [if_neg (by omega)]
theorem gets_in (l : List UInt8) (k : Nat) (h : k ≤ l.length) : gets (some l) (k : Int) = (l.take k, some (l.drop k)) := by
  unfold gets; simp only; rw [if_pos (by omega)]; simp

theorem end_any (w : World) (r : Nat) (s : Option (List UInt8)) (h : Rd w r s) :
    Calls Try.prog 75 #[.pointer (some ⟨r, 0, none⟩)] w fun e w' => e = .returned (.int .i64 (if s = some [] then 0 else 4)) ∧ w = w' := by
  have HF := Lib.hid (failed_any w r s h)
  have HL := Lib.hid (left_any w r s h)
  clear h
  cases s with
  | none =>
    rw [if_neg (by simp)]
    go_enter Try.func75, Try.ntmps75
    go_wp2_with (first | (go_at_call 96; refine HF.out.mono ?_; rintro e w' ⟨rfl, rfl⟩; simp only [brokenB]))
    go_ret
    exact ⟨rfl, rfl⟩
  | some l =>
    by_cases hl : l = []
    · subst hl
      rw [if_pos rfl]
      go_enter Try.func75, Try.ntmps75
      go_wp2_with (first | (go_at_call 96; refine HF.out.mono ?_; rintro e w' ⟨rfl, rfl⟩; simp only [brokenB]) | (go_at_call 97; refine HL.out.mono ?_; rintro e w' ⟨rfl, rfl⟩; simp only [leftN]))
      go_ret
      exact ⟨rfl, rfl⟩
    · rw [if_neg (by simpa using hl)]
      have h1 : 0 < l.length := by cases l with
        | nil => exact absurd rfl hl
        | cons a t => simp
      clear hl
      go_enter Try.func75, Try.ntmps75
      go_wp2_with (first | (go_at_call 96; refine HF.out.mono ?_; rintro e w' ⟨rfl, rfl⟩; simp only [brokenB]) | (go_at_call 97; refine HL.out.mono ?_; rintro e w' ⟨rfl, rfl⟩; simp only [leftN]))
      go_ret
      exact ⟨rfl, rfl⟩

/-- what a step leaves -/
def Got (w : World) (r : Nat) (p : List UInt8 × Option (List UInt8)) (e : Ending) (w' : World) : Prop :=
  ∃ A c, e = .returned (.slice A p.1.length c) ∧ By w' A p.1 ∧ p.1.length ≤ c ∧ Rd w' r p.2 ∧ Upd w w' r

theorem got_close {w : World} {r m c k : Nat} {A : Option Addr} {l : List UInt8} (h1 : Blk w r 139 #[.slice A m c, .bool true]) (h2 : By w A l) (hm : l.length = m) (h3 : m ≤ c) (h4 : c ≤ 9223372036854775807) (hk : k ≤ m)
    {A' : Option Addr} {c' : Nat} (ha : A' = cutA A c k) (hc : c' = c - k) :
    Got w r (l.take k, some (l.drop k)) (.returned (.slice A k k)) (w.setCell ⟨r, 0, none⟩ (.slice A' (m - k) c')) := by
  subst hm ha hc
  have hn : NoByte #[.slice A l.length c, .bool true] := noByte2 (by intro n h; cases h) (by intro n h; cases h)
  have hu := Upd.set w r 0 (.slice (cutA A c k) (l.length - k) (c - k))
  refine ⟨A, k, by simp only [List.length_take]; rw [Nat.min_eq_left hk], (h2.take k).upd h1 hn hu, by simp only [List.length_take]; omega, ⟨cutA A c k, c - k, ?_, (h2.drop hk h3).upd h1 hn hu, by rw [List.length_drop]; omega, by omega⟩, hu⟩
  rw [List.length_drop]
  exact h1.set 0 _

theorem got_broken {w : World} {r : Nat} {v0 v1 : Value} (h1 : Blk w r 139 #[v0, v1]) :
    Got w r ([], none) (.returned (.slice none 0 0)) ((w.setCell ⟨r, 0, none⟩ (.slice none 0 0)).setCell ⟨r, 1, none⟩ (.bool false)) :=
  ⟨none, 0, rfl, .inl rfl, Nat.le_refl _, (h1.set 0 (.slice none 0 0)).set 1 (.bool false), (Upd.set w r 0 _).trans (Upd.set _ r 1 _)⟩

set_option maxHeartbeats 800000 in
theorem step_any (w : World) (r : Nat) (s : Option (List UInt8)) (n : Int) (h : Rd w r s) :
    Calls Try.prog 117 #[.pointer (some ⟨r, 0, none⟩), .int .i64 n] w (Got w r (gets s n)) := by
  have HF := Lib.hid (failed_any w r s h)
  cases s with
  | none =>
    rw [gets_none]
    have H := Lib.hid h
    clear h
    go_enter Try.func117, Try.ntmps117
    go_wp2_with (first | (go_at_call 96; refine HF.out.mono ?_; rintro e w' ⟨rfl, rfl⟩; simp only [brokenB]))
    go_ret
    exact ⟨none, 0, rfl, .inl rfl, Nat.le_refl _, H.out, Upd.refl _ _⟩
  | some l =>
    obtain ⟨A, c, h1, h2, h3, h4⟩ := h
    have c0 : w.cell? ⟨r, 0, none⟩ = some (.slice A l.length c) := by rw [h1.cell]; rfl
    have c1 : w.cell? ⟨r, 1, none⟩ = some (.bool true) := by rw [h1.cell]; rfl
    have f0 := h1.frozen 0
    have f1 := h1.frozen 1
    have H1 := Lib.hid h1
    have H2 := Lib.hid h2
    clear h1 h2
    by_cases hin : 0 ≤ n ∧ n ≤ l.length
    · obtain ⟨hn0, hn1⟩ := hin
      obtain ⟨k, rfl⟩ := Int.eq_ofNat_of_zero_le hn0
      have hk : k ≤ l.length := by omega
      rw [gets_in l k hk]
      generalize hm : l.length = m at *
      have HM := Lib.hid hm
      clear hm hn0 hn1
      have hkc : k ≤ c := by omega
      go_enter Try.func117, Try.ntmps117
      go_wp2_with (first | (go_at_call 96; refine HF.out.mono ?_; rintro e w' ⟨rfl, rfl⟩; simp only [brokenB]))
      · have hck : c = k := by assumption
        go_ret
        exact got_close H1.out H2.out HM.out h3 h4 hk (by unfold cutA; rw [if_pos hck]) (by omega)
      · have hck : ¬ c = k := by assumption
        go_ret
        exact got_close H1.out H2.out HM.out h3 h4 hk (by unfold cutA; rw [if_neg hck]) rfl
    · rw [gets_out l n (by omega)]
      have hlen : l.length ≤ 9223372036854775807 := by omega
      by_cases hneg : n < 0
      · clear hin
        go_enter Try.func117, Try.ntmps117
        go_wp2_with (first | (go_at_call 96; refine HF.out.mono ?_; rintro e w' ⟨rfl, rfl⟩; simp only [brokenB]))
        go_ret
        exact got_broken H1.out
      · have hgt : (l.length : Int) < n := by omega
        clear hin
        go_enter Try.func117, Try.ntmps117
        go_wp2_with (first | (go_at_call 96; refine HF.out.mono ?_; rintro e w' ⟨rfl, rfl⟩; simp only [brokenB]))
        go_ret
        exact got_broken H1.out

theorem bytes_any (w : World) (r : Nat) (s : Option (List UInt8)) (n : Int) (h : Rd w r s) :
    Calls Try.prog 115 #[.pointer (some ⟨r, 0, none⟩), .int .i64 n] w (Got w r (gets s n)) := by
  have HS := Lib.hid (step_any w r s n h)
  clear h
  go_enter Try.func115, Try.ntmps115
  go_wp2_with (go_at_call 117; refine HS.out.mono ?_; rintro e w' ⟨A, c, rfl, h⟩)
  go_ret
  exact ⟨A, c, rfl, h⟩

/-- what a number of a size reads as -/
def numOf (l : List UInt8) : Nat := num l
def nums (s : Option (List UInt8)) (size : Int) : Nat × Option (List UInt8) :=
  let p := gets s (if size < 1 ∨ 8 < size then -1 else size)
  (num p.1, p.2)

def NumPost (w : World) (r : Nat) (p : Nat × Option (List UInt8)) (e : Ending) (w' : World) : Prop :=
  e = .returned (.int .u64 (p.1 : Int)) ∧ Rd w' r p.2 ∧ Upd w w' r

theorem gets_len (s : Option (List UInt8)) (n : Int) : (gets s n).1 = [] ∨ ((gets s n).1.length : Int) = n := by
  unfold gets
  cases s with
  | none => exact .inl rfl
  | some l =>
    simp only
    split
    · right; simp; omega
    · exact .inl rfl

theorem get_short (A : Option Addr) (l : List UInt8) (c : Nat) (h8 : l.length ≤ 8) (w : World) (hb : By w A l) :
    Calls Try.prog 50 #[.slice A l.length c] w fun e w' => ∃ x, e = .returned (.tuple #[.int .u64 (num l), x]) ∧ w = w' := by
  by_cases h : 1 ≤ l.length
  · exact (get_yes A l c h h8 w hb).mono fun e w' ⟨h1, h2⟩ => ⟨_, h1, h2⟩
  · have : l = [] := List.eq_nil_of_length_eq_zero (by omega)
    subst this
    exact (get_no A 0 c (by omega) (by omega) w).mono fun e w' ⟨h1, h2⟩ => ⟨_, h1, h2⟩

set_option maxHeartbeats 800000 in
theorem number_any (w : World) (r : Nat) (s : Option (List UInt8)) (n : Int) (h : Rd w r s) :
    Calls Try.prog 112 #[.pointer (some ⟨r, 0, none⟩), .int .i64 n] w (NumPost w r (nums s n)) := by
  have HS := fun n => step_any w r s n h
  have H := Lib.hid HS
  clear HS h
  unfold nums
  by_cases h1 : n < 1
  · rw [if_pos (.inl h1)]
    have hl := gets_len s (-1)
    generalize hp : gets s (-1) = p at *
    have HP := Lib.hid hp
    have hl8 : p.1.length ≤ 8 := by rcases hl with h | h; (rw [h]; simp); omega
    clear hl hp
    go_enter Try.func112, Try.ntmps112
    go_wp2_with fail
    refine (H.out (-1)).mono ?_
    rintro e w' ⟨A, c, rfl, hb, hc, hr, hu⟩
    rw [HP.out] at *
    go_wp2_with fail
    refine (get_short A p.1 c hl8 _ hb).mono ?_
    rintro e w2 ⟨x, rfl, rfl⟩
    go_wp2
    go_ret
    exact ⟨rfl, hr, hu⟩
  by_cases h2 : 8 < n
  · rw [if_pos (.inr h2)]
    have hl := gets_len s (-1)
    generalize hp : gets s (-1) = p at *
    have HP := Lib.hid hp
    have hl8 : p.1.length ≤ 8 := by rcases hl with h | h; (rw [h]; simp); omega
    clear hl hp
    go_enter Try.func112, Try.ntmps112
    go_wp2_with fail
    refine (H.out (-1)).mono ?_
    rintro e w' ⟨A, c, rfl, hb, hc, hr, hu⟩
    rw [HP.out] at *
    go_wp2_with fail
    refine (get_short A p.1 c hl8 _ hb).mono ?_
    rintro e w2 ⟨x, rfl, rfl⟩
    go_wp2
    go_ret
    exact ⟨rfl, hr, hu⟩
  · rw [if_neg (by omega)]
    have hl := gets_len s n
    generalize hp : gets s n = p at *
    have HP := Lib.hid hp
    have hl8 : p.1.length ≤ 8 := by rcases hl with h | h; (rw [h]; simp); omega
    clear hl hp
    go_enter Try.func112, Try.ntmps112
    go_wp2_with fail
    refine (H.out n).mono ?_
    rintro e w' ⟨A, c, rfl, hb, hc, hr, hu⟩
    rw [HP.out] at *
    go_wp2_with fail
    refine (get_short A p.1 c hl8 _ hb).mono ?_
    rintro e w2 ⟨x, rfl, rfl⟩
    go_wp2
    go_ret
    exact ⟨rfl, hr, hu⟩

/-- what the blob that comes next has -/
def blobs (s : Option (List UInt8)) : List UInt8 × Option (List UInt8) :=
  let p := nums s 2
  gets p.2 (p.1 : Int)

theorem nums_lt (s : Option (List UInt8)) (n : Nat) (hn : n ≤ 8) : (nums s n).1 < 256 ^ n := by
  unfold nums
  by_cases h : ((n : Int) < 1 ∨ 8 < (n : Int))
  · simp only [if_pos h]
    have hl := gets_len s (-1)
    rcases hl with h | h
    · rw [h, num_nil]; exact Nat.pow_pos (by decide)
    · omega
  · simp only [if_neg h]
    rcases gets_len s n with h | h
    · rw [h, num_nil]; exact Nat.pow_pos (by decide)
    · have := num_lt (gets s n).1
      rw [show (gets s n).1.length = n by omega] at this
      exact this

set_option maxHeartbeats 800000 in
theorem rblob_any (w : World) (r : Nat) (s : Option (List UInt8)) (h : Rd w r s) :
    Calls Try.prog 113 #[.pointer (some ⟨r, 0, none⟩)] w (Got w r (blobs s)) := by
  have HS := Lib.hid (number_any w r s 2 h)
  have hlt := nums_lt s 2 (by omega)
  clear h
  unfold blobs
  generalize nums s 2 = p at *
  go_enter Try.func113, Try.ntmps113
  go_wp2_with fail
  refine HS.out.mono ?_
  rintro e w' ⟨rfl, hr, hu⟩
  have hlt2 : p.1 < 65536 := hlt
  clear hlt
  go_wp2_with fail
  refine (step_any _ r p.2 (p.1 : Int) hr).mono ?_
  rintro e w' ⟨A, c, rfl, hb, hc, hr, hu2⟩
  go_wp2
  go_ret
  exact ⟨A, c, rfl, hb, hc, hr, hu.trans hu2⟩

end Go.Proofs.Ytgbfeagoadlhmaa
