/-
  Plain: fields that were put in a row are got again, in order; of the row cut short they are not.
-/
import Derived.Test.YtojgjmkkcadabaaFields
set_option linter.unusedVariables false
set_option linter.unusedSimpArgs false
namespace Go.Proofs.Ytojgjmkkcadabaa
open Go.RowKit Pl

/-- a field's bytes -/
def encF (f : Fld) : List UInt8 := if f.size = 0 then blob f.b else put f.n f.size.toNat
def okF (f : Fld) : Prop := f.b.length ≤ 3000 ∧ (f.size ≠ 0 → roomB f.n f.size = true)
def encs (fs : List Fld) : List UInt8 := (fs.map encF).flatten

theorem gets_append (l rest : List UInt8) : gets (some (l ++ rest)) (l.length : Int) = (l, some rest) := by
  rw [gets_in _ _ (by simp)]
  simp

theorem nums_append (l rest : List UInt8) (h1 : 1 ≤ l.length) (h8 : l.length ≤ 8) : nums (some (l ++ rest)) (l.length : Int) = (num l, some rest) := by
  unfold nums
  rw [if_neg (by omega), gets_append]

theorem blobs_append (b rest : List UInt8) (h : b.length ≤ 65535) : blobs (some (blob b ++ rest)) = (b, some rest) := by
  unfold blobs blob
  have h1 := nums_append (put b.length 2) (b ++ rest) (by rw [put_length]; omega) (by rw [put_length]; omega)
  rw [put_length, num_put b.length 2 (by show b.length < 65536; omega)] at h1
  rw [List.append_assoc]
  have e : nums (some (put b.length 2 ++ (b ++ rest))) 2 = (b.length, some (b ++ rest)) := h1
  rw [e]
  exact gets_append b rest

theorem keep1_enc (g : Bool) (f : Fld) (h : okF f) (rest : List UInt8) : keep1 (g, some (encF f ++ rest)) f = (g, some rest) := by
  unfold keep1 encF
  by_cases hz : f.size = 0
  · rw [if_pos hz, if_pos hz]
    rw [blobs_append f.b rest (by have := h.1; omega)]
    simp [brokenB]
  · rw [if_neg hz, if_neg hz]
    obtain ⟨k, hk, h1, h8, hn⟩ := room_true (h.2 hz)
    rw [hk]
    have e := nums_append (put f.n k) rest (by rw [put_length]; omega) (by rw [put_length]; omega)
    rw [put_length, num_put _ _ hn] at e
    rw [Int.toNat_natCast, e]
    simp [brokenB]

theorem encF_pos (f : Fld) (h : okF f) : 1 ≤ (encF f).length := by
  unfold encF
  by_cases hz : f.size = 0
  · rw [if_pos hz, blob_length]; omega
  · rw [if_neg hz, put_length]
    obtain ⟨k, hk, h1, _⟩ := room_true (h.2 hz)
    rw [hk]; simpa using h1

theorem nums_short (l : List UInt8) (k : Nat) (h : l.length < k) (h8 : k ≤ 8) : nums (some l) (k : Int) = (0, none) := by
  unfold nums
  rw [if_neg (by omega), gets_out _ _ (by omega)]
  rfl

theorem keep1_cut (g : Bool) (f : Fld) (h : okF f) (m : Nat) (hm : m < (encF f).length) : keep1 (g, some ((encF f).take m)) f = (false, none) := by
  unfold keep1
  unfold encF at hm ⊢
  by_cases hz : f.size = 0
  · rw [if_pos hz] at hm ⊢
    rw [if_pos hz]
    have hb : blobs (some ((blob f.b).take m)) = ([], none) := by
      unfold blobs
      by_cases h2 : m < 2
      · have e : nums (some ((blob f.b).take m)) 2 = (0, none) := nums_short _ 2 (by rw [List.length_take]; omega) (by omega)
        rw [e]; rfl
      · have hl : m = (put f.b.length 2).length + (m - 2) := by rw [put_length]; omega
        have e1 : (blob f.b).take m = put f.b.length 2 ++ f.b.take (m - 2) := by
          conv => lhs; rw [hl]
          unfold blob
          exact List.take_length_add_append _
        have e2 := nums_append (put f.b.length 2) (f.b.take (m - 2)) (by rw [put_length]; omega) (by rw [put_length]; omega)
        rw [put_length, num_put f.b.length 2 (by have := h.1; show f.b.length < 65536; omega)] at e2
        have e3 : nums (some ((blob f.b).take m)) 2 = (f.b.length, some (f.b.take (m - 2))) := by rw [e1]; exact e2
        rw [e3]
        rw [blob_length] at hm
        exact gets_out _ _ (by right; rw [List.length_take]; omega)
    rw [hb]
    simp [brokenB]
  · rw [if_neg hz] at hm ⊢
    rw [if_neg hz]
    obtain ⟨k, hk, h1, h8, hn⟩ := room_true (h.2 hz)
    have hs : f.size.toNat = k := by omega
    rw [hs] at hm ⊢
    rw [put_length] at hm
    rw [hk, nums_short _ k (by rw [List.length_take, put_length]; omega) h8]
    simp [brokenB]

theorem keep1_none (f : Fld) : keep1 (false, none) f = (false, none) := by
  unfold keep1
  by_cases hz : f.size = 0
  · rw [if_pos hz]; simp [blobs, nums, gets]
  · rw [if_neg hz]; simp [nums, gets]

theorem fold_none (fs : List Fld) : fs.foldl keep1 (false, none) = (false, none) := by
  induction fs with
  | nil => rfl
  | cons f t ih => rw [List.foldl_cons, keep1_none, ih]

theorem fold_enc (fs : List Fld) (h : ∀ f ∈ fs, okF f) (g : Bool) (rest : List UInt8) : fs.foldl keep1 (g, some (encs fs ++ rest)) = (g, some rest) := by
  induction fs with
  | nil => simp [encs]
  | cons f t ih =>
    rw [List.foldl_cons]
    have e : encs (f :: t) ++ rest = encF f ++ (encs t ++ rest) := by simp [encs]
    rw [e, keep1_enc g f (h f (by simp)), ih (fun x hx => h x (by simp [hx]))]

theorem fold_cut (fs : List Fld) (h : ∀ f ∈ fs, okF f) (g : Bool) (m : Nat) (hm : m < (encs fs).length) : fs.foldl keep1 (g, some ((encs fs).take m)) = (false, none) := by
  induction fs generalizing m with
  | nil => simp [encs] at hm
  | cons f t ih =>
    rw [List.foldl_cons]
    have e : encs (f :: t) = encF f ++ encs t := by simp [encs]
    rw [e] at hm ⊢
    by_cases h1 : m < (encF f).length
    · rw [List.take_append_of_le_length (by omega), keep1_cut g f (h f (by simp)) m h1, fold_none]
    · have e2 : (encF f ++ encs t).take m = encF f ++ (encs t).take (m - (encF f).length) := by
        have : m = (encF f).length + (m - (encF f).length) := by omega
        conv => lhs; rw [this]
        exact List.take_length_add_append _
      rw [e2, keep1_enc g f (h f (by simp))]
      rw [List.length_append] at hm
      exact ih (fun x hx => h x (by simp [hx])) _ (by omega)

theorem keepN_all (fs : List Fld) (h : ∀ f ∈ fs, okF f) : keepN fs (some (encs fs)) = (true, some []) := by
  have := fold_enc fs h true []
  rw [List.append_nil] at this
  exact this
theorem keepN_cut (fs : List Fld) (h : ∀ f ∈ fs, okF f) (m : Nat) (hm : m < (encs fs).length) : keepN fs (some ((encs fs).take m)) = (false, none) := fold_cut fs h true m hm

end Go.Proofs.Ytojgjmkkcadabaa
