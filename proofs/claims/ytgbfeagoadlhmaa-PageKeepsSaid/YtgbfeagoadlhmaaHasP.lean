
/-
  A page's items as a map: plain facts for the law PageKeeps.
-/
import Derived.Test.YtgbfeagoadlhmaaRoomsP
import Derived.Test.YtgbfeagoadlhmaaMap
import Derived.Test.YtgbfeagoadlhmaaRotP
import Derived.Laws.BitsAllLaws
set_option linter.unusedVariables false
set_option linter.unusedSimpArgs false
namespace Go.Proofs.Ytgbfeagoadlhmaa
open Go.RowKit Pl

/-- an item as an element of the map -/
def elt (l : List UInt8) : Value := .agg #[.string ⟨l.toArray⟩]
/-- F holds just the page's items -/
def IsHas (F : Lit → Option Value) (P : List UInt8) : Prop := ∀ z : Int, F (.int .i64 z) = if 0 ≤ z ∧ hasB P z.toNat = true then some (elt (itemL P z.toNat)) else none

theorem has_iff (P : List UInt8) (n : Nat) : hasB P n = true ↔ n < num2 P 14 ∧ slotS P n ≠ 0 := by
  unfold hasB
  simp only [Bool.and_eq_true, decide_eq_true_eq]
theorem IsHas.start {F : Lit → Option Value} {P : List UInt8} (hF : ∀ l, F l = none) (hm : num2 P 14 = 0) : IsHas F P := fun z => by
  rw [hF, if_neg]
  rintro ⟨_, h⟩
  have := ((has_iff P _).1 h).1
  omega
theorem IsHas.at_ {F : Lit → Option Value} {P : List UInt8} (h : IsHas F P) (n : Nat) : F (.int .i64 (n : Int)) = if hasB P n = true then some (elt (itemL P n)) else none := by
  rw [h]
  have : (0 : Int) ≤ (n : Int) := by omega
  simp [this]
/-- pages that agree on items -/
theorem IsHas.same {F : Lit → Option Value} {P R : List UInt8} (h : IsHas F P) (hh : ∀ n, hasB R n = hasB P n) (hi : ∀ n, hasB P n = true → itemL R n = itemL P n) : IsHas F R := fun z => by
  rw [h z, hh]
  split
  · rename_i hc; rw [hi _ hc.2]
  · rfl
/-- one item more, or another one -/
theorem IsHas.put {F : Lit → Option Value} {P R l : List UInt8} {n : Nat} (h : IsHas F P) (hn : hasB R n = true) (hl : itemL R n = l) (hh : ∀ k, k ≠ n → hasB R k = hasB P k) (hi : ∀ k, k ≠ n → hasB P k = true → itemL R k = itemL P k) :
    IsHas (updF F (.int .i64 (n : Int)) (some (elt l))) R := fun z => by
  by_cases hz : z = (n : Int)
  · subst hz
    rw [updF_same, if_pos ⟨by omega, by simpa using hn⟩]
    simp [hl]
  · rw [updF_other _ _ (by simpa using hz), h z]
    by_cases hz0 : 0 ≤ z
    · have hk : z.toNat ≠ n := by omega
      rw [hh _ hk]
      split
      · rename_i hc; rw [hi _ hk hc.2]
      · rfl
    · rw [if_neg (by omega), if_neg (by omega)]
/-- one item less -/
theorem IsHas.del {F : Lit → Option Value} {P R : List UInt8} {n : Nat} (h : IsHas F P) (hn : hasB R n = false) (hh : ∀ k, k ≠ n → hasB R k = hasB P k) (hi : ∀ k, k ≠ n → hasB P k = true → itemL R k = itemL P k) :
    IsHas (updF F (.int .i64 (n : Int)) none) R := fun z => by
  by_cases hz : z = (n : Int)
  · subst hz
    rw [updF_same, if_neg (by simp [hn])]
  · rw [updF_other _ _ (by simpa using hz), h z]
    by_cases hz0 : 0 ≤ z
    · have hk : z.toNat ≠ n := by omega
      rw [hh _ hk]
      split
      · rename_i hc; rw [hi _ hk hc.2]
      · rfl
    · rw [if_neg (by omega), if_neg (by omega)]

theorem cnt_congr {P R : List UInt8} : ∀ m, (∀ k, k < m → slotS R k = slotS P k) → cntS R m = cntS P m
  | 0, _ => rfl
  | m + 1, h => by rw [cntS_succ, cntS_succ, cnt_congr m (fun k hk => h k (by omega)), h m (by omega)]
theorem cnt_more {P R : List UInt8} {n : Nat} (h1 : slotS P n = 0) (h2 : slotS R n ≠ 0) : ∀ m, n < m → (∀ k, k < m → k ≠ n → slotS R k = slotS P k) → cntS R m = cntS P m + 1
  | 0, h, _ => by omega
  | m + 1, hn, h => by
    by_cases hnm : n = m
    · subst hnm
      rw [cntS_succ, cntS_succ, if_pos h1, if_neg h2, cnt_congr n (fun k hk => h k (by omega) (by omega))]
    · rw [cntS_succ, cntS_succ, cnt_more h1 h2 m (by omega) (fun k hk => h k (by omega)), h m (by omega) (by omega)]
      omega

/-- how many items a page has -/
def itemsN (P : List UInt8) : Nat := cntS P (num2 P 14)

theorem ins_has {P l : List UInt8} (hP : P.length = 1024) (h : RightV P) (hE : insE P l.length = 0) {F : Lit → Option Value} (hF : IsHas F P) :
    F (.int .i64 (insN P l.length : Int)) = none ∧ IsHas (updF F (.int .i64 (insN P l.length : Int)) (some (elt l))) (insR P l) ∧ itemsN (insR P l) = itemsN P + 1 := by
  obtain ⟨r1, r2, r3⟩ := ins_room h hE
  obtain ⟨v1, v2, v3, v4, v5, v6, v7, v8⟩ := ins_view hP h hE
  have hle := emptyN_le P (num2 P 14)
  have hhole := emptyN_hole P (num2 P 14)
  have hN : insN P l.length = emptyN P (num2 P 14) := by unfold insN; rw [if_pos hE]
  have hR : insR P l = insP P l := by unfold insR; rw [if_pos hE]
  rw [hN, hR]
  unfold itemsN
  generalize emptyN P (num2 P 14) = n at *
  generalize insP P l = R at *
  have hnot : hasB P n = false := by
    cases hb : hasB P n with
    | false => rfl
    | true => obtain ⟨a, b⟩ := (has_iff P n).1 hb; exact absurd (hhole a) b
  refine ⟨by rw [hF.at_, hnot]; simp, hF.put ?_ v6 (fun k hk => ?_) (fun k hk hb => ?_), ?_⟩
  · rw [has_iff, v2]
    refine ⟨?_, by omega⟩
    split <;> omega
  · by_cases hkm : k < num2 P 14
    · have := v7 k hkm hk
      unfold hasB
      rw [v2, this.2]
      congr 1
      simp only [decide_eq_decide]
      split <;> omega
    · unfold hasB
      rw [decide_eq_false (show ¬ (k < num2 P 14) by omega), decide_eq_false (show ¬ (k < num2 R 14) by rw [v2]; split <;> omega)]
      rfl
  · obtain ⟨a, b⟩ := (has_iff P k).1 hb
    exact v8 k a b
  · rw [v2]
    split
    · rename_i hn
      rw [cntS_succ, cnt_congr (num2 P 14) (fun k hk => (v7 k hk (by omega)).2), ← hn, if_neg (by omega)]
    · rename_i hn
      exact cnt_more (hhole (by omega)) (by omega) _ (by omega) (fun k hk hkn => (v7 k hk hkn).2)

theorem drop_has {P : List UInt8} (hP : P.length = 1024) (h : RightV P) {z : Int} (hE : itemE P z = 0) {F : Lit → Option Value} (hF : IsHas F P) :
    IsHas (updF F (.int .i64 z) none) (dropR P z) ∧ itemsN (dropR P z) + 1 = itemsN P ∧ (F (.int .i64 z)).isSome = true := by
  obtain ⟨_, hz0, hz, hs⟩ := item_has hE
  obtain ⟨v1, v2, v3, v4, v5, v6, v7⟩ := drop_view hP h hz
  have hle := lastN_le (point2 P z.toNat 0 0) (num2 P 14)
  have hR : dropR P z = dropP P z.toNat := by unfold dropR; rw [if_pos hE]
  rw [hR]
  obtain ⟨n, rfl⟩ := Int.eq_ofNat_of_zero_le hz0
  rw [Int.toNat_natCast] at *
  unfold itemsN
  generalize lastN (point2 P n 0 0) (num2 P 14) = m' at *
  generalize dropP P n = R at *
  have hhas : hasB P n = true := (has_iff P n).2 ⟨hz, hs⟩
  refine ⟨hF.del ?_ (fun k hk => ?_) (fun k hk hb => ?_), ?_, by rw [hF.at_, hhas]; rfl⟩
  · cases hb : hasB R n with
    | false => rfl
    | true =>
      obtain ⟨a, b⟩ := (has_iff R n).1 hb
      have := (v4 n hz).2
      rw [if_pos rfl] at this
      exact absurd this b
  · by_cases hkm : k < num2 P 14
    · have hsk := (v4 k hkm).2
      rw [if_neg hk] at hsk
      by_cases hkm' : k < m'
      · unfold hasB
        rw [v2, hsk, decide_eq_true hkm, decide_eq_true hkm']
      · have := v6 k (by omega) hkm hk
        unfold hasB
        rw [hsk, this]
        simp
    · unfold hasB
      rw [decide_eq_false hkm, decide_eq_false (show ¬ (k < num2 R 14) by omega)]
      rfl
  · obtain ⟨a, b⟩ := (has_iff P k).1 hb
    exact v5 k a hk b
  · have e1 : cntS R (num2 P 14) = cntS R m' := cntS_same R m' _ hle (fun i a b => by
      rw [(v4 i b).2]
      split
      · rfl
      · rename_i hin; exact v6 i a b hin)
    have e2 := cnt_more (P := R) (R := P) (n := n) (by rw [(v4 n hz).2, if_pos rfl]) hs _ hz (fun k hk hkn => by rw [(v4 k hk).2, if_neg hkn])
    rw [v2, ← e1, e2]

theorem set_hasM {P l : List UInt8} (hP : P.length = 1024) (h : RightV P) {z : Int} (hE : setE P z l.length = 0) {F : Lit → Option Value} (hF : IsHas F P) :
    IsHas (updF F (.int .i64 z) (some (elt l))) (setR P z l) ∧ itemsN (setR P z l) = itemsN P ∧ (F (.int .i64 z)).isSome = true := by
  obtain ⟨_, hz0, hz, hs, hn⟩ := set_has hE
  obtain ⟨v1, v2, v3, v4, v5⟩ := set_view hP h hz hs hn.symm
  have hR : setR P z l = over P (slotA P z.toNat) l := by unfold setR; rw [if_pos hE]
  rw [hR]
  obtain ⟨n, rfl⟩ := Int.eq_ofNat_of_zero_le hz0
  rw [Int.toNat_natCast] at *
  unfold itemsN
  generalize over P (slotA P n) l = R at *
  have hhas : hasB P n = true := (has_iff P n).2 ⟨hz, hs⟩
  have hm := v2 14 (by omega)
  have hh : ∀ k, hasB R k = hasB P k := fun k => by
    unfold hasB
    rw [hm]
    by_cases hk : k < num2 P 14
    · rw [(v3 k hk).2]
    · simp [hk]
  refine ⟨hF.put (by rw [hh]; exact hhas) v4 (fun k _ => hh k) (fun k hk hb => ?_), ?_, by rw [hF.at_, hhas]; rfl⟩
  · obtain ⟨a, b⟩ := (has_iff P k).1 hb
    exact v5 k a hk b
  · rw [hm]; exact cnt_congr _ (fun k hk => (v3 k hk).2)

theorem pack_has {P : List UInt8} (hP : P.length = 1024) (h : RightV P) {F : Lit → Option Value} (hF : IsHas F P) : IsHas F (packR P) ∧ itemsN (packR P) = itemsN P := by
  have hr := (right_iff P).2 h
  have hI := packP_is hP h
  have hm := hI.many hP
  have hR : packR P = packP P := by unfold packR; rw [hr, if_pos rfl]
  rw [hR]
  unfold itemsN
  refine ⟨hF.same (fun n => ?_) (fun n hb => hI.item ((has_iff P n).1 hb).1), by rw [hm]; exact cnt_congr _ (fun k hk => hI.size hk)⟩
  unfold hasB
  rw [hm]
  by_cases hn : n < num2 P 14
  · rw [hI.size hn]
  · simp [hn]
theorem seal_has {P : List UInt8} (hP : P.length = 1024) (h : RightV P) (lsn : Nat) {F : Lit → Option Value} (hF : IsHas F P) : IsHas F (sealP P lsn) ∧ itemsN (sealP P lsn) = itemsN P := by
  have hlow := h.low
  have hhigh := h.high
  have hm : num2 (sealP P lsn) 14 = num2 P 14 := seal_num hP lsn (by omega) (by omega)
  have hl := sealP_length P lsn hP
  have hs : ∀ k, k < num2 P 14 → slotA (sealP P lsn) k = slotA P k ∧ slotS (sealP P lsn) k = slotS P k := fun k hk => seal_slot hP lsn (by omega)
  unfold itemsN
  refine ⟨hF.same (fun n => ?_) (fun n hb => ?_), by rw [hm]; exact cnt_congr _ (fun k hk => (hs k hk).2)⟩
  · unfold hasB
    rw [hm]
    by_cases hn : n < num2 P 14
    · rw [(hs n hn).2]
    · simp [hn]
  · obtain ⟨a, b⟩ := (has_iff P n).1 hb
    obtain ⟨i1, i2, i3, i4⟩ := h.item a b
    rw [itemL_seg, itemL_seg, (hs n a).1, (hs n a).2]
    exact seg_eq hl hP (by omega) (by omega) (fun i hi => seal_get hP lsn (by omega))

end Go.Proofs.Ytgbfeagoadlhmaa

/-
  A sealed page, plain: it is good; with one to three bits turned it is not, or it is as it was.
-/
namespace Go.Proofs.Ytgbfeagoadlhmaa
open Go.RowKit Pl

theorem seal_take {P : List UInt8} (hP : P.length = 1024) (n : Nat) : (sealP P n).take 8 = put n 8 := by
  have hl := lsnP_length P n hP
  unfold sealP over
  rw [List.append_assoc, List.take_append_of_le_length (by rw [List.length_take, hl]; decide), List.take_take]
  unfold lsnP over
  simp only [List.take_zero, List.nil_append]
  rw [List.take_append_of_le_length (by rw [put_length]; decide), List.take_of_length_le (by rw [put_length]; decide)]
theorem seal_lsn {P : List UInt8} (hP : P.length = 1024) {n : Nat} (hn : n < 18446744073709551616) : num ((sealP P n).take 8) = n := by
  rw [seal_take hP, num_put _ _ (by show n < 18446744073709551616; exact hn)]
theorem seal_sum {P : List UInt8} (hP : P.length = 1024) (n : Nat) : ((sealP P n).drop 8).take 4 = put (crc (bodyP (lsnP P n))).toNat 4 := by
  have hl := lsnP_length P n hP
  unfold sealP over
  rw [List.append_assoc, List.drop_append_of_le_length (by rw [List.length_take, hl]; decide), List.drop_of_length_le (by rw [List.length_take, hl]; decide), List.nil_append,
    List.take_append_of_le_length (by rw [put_length]; decide), List.take_of_length_le (by rw [put_length]; decide)]
theorem seal_body {P : List UInt8} (hP : P.length = 1024) (n : Nat) : bodyP (sealP P n) = bodyP (lsnP P n) := by
  have hl := lsnP_length P n hP
  unfold bodyP
  refine congr (congrArg HAppend.hAppend ?_) ?_
  · unfold sealP over
    rw [List.append_assoc, List.take_append_of_le_length (by rw [List.length_take, hl]; decide), List.take_take]
    rfl
  · have hs := sealP_length P n hP
    apply List.ext_getElem
    · rw [List.length_drop, List.length_drop, hl, hs]
    · intro i h1 h2
      rw [List.length_drop] at h1
      have h3 : (sealP P n).getD (12 + i) 0 = (lsnP P n).getD (12 + i) 0 := by
        rw [seal_get hP n (by omega)]
        unfold lsnP
        rw [over_get _ _ _ (by rw [put_length, hP]; omega), put_length, if_neg (by omega)]
      rw [List.getElem_drop, List.getElem_drop]
      rw [List.getD_eq_getElem?_getD, List.getD_eq_getElem?_getD, List.getElem?_eq_getElem (by omega), List.getElem?_eq_getElem (by omega)] at h3
      simpa using h3
theorem seal_good {P : List UInt8} (hP : P.length = 1024) (n : Nat) : goodB (sealP P n) = true := by
  unfold goodB
  rw [decide_eq_true_eq, seal_sum hP, seal_body hP, num_put]
  show _ < 4294967296
  exact (crc (bodyP (lsnP P n))).isLt
theorem seal_diff {P : List UInt8} (hP : P.length = 1024) (n : Nat) {f t : Nat} (h : Df P (sealP P n) 12 f t) : f = 1024 ∧ t = 1024 := by
  rcases h.1 with h1 | ⟨h0, h1, h2, h3, _⟩
  · exact h1
  · exact absurd (by unfold at8; rw [seal_get hP n h0]) h3

/-! ## bits turned -/
theorem num_cons (c : UInt8) (l : List UInt8) : num (c :: l) = 2 ^ (8 * l.length) * c.toNat + num l := by
  induction l using snoc_ind with
  | h0 => simp [num]
  | h1 l a ih =>
    rw [← List.cons_append, num_snoc, ih, num_snoc, List.length_append, show 8 * (l.length + [a].length) = 8 * l.length + 8 by simp; omega, Nat.pow_add, show (2 : Nat) ^ 8 = 256 from rfl]
    rw [Nat.add_mul, Nat.mul_right_comm, Nat.add_assoc]
theorem xor_parts (m a b x y : Nat) (hb : b < 2 ^ m) (hy : y < 2 ^ m) : (2 ^ m * a + b) ^^^ (2 ^ m * x + y) = 2 ^ m * (a ^^^ x) + (b ^^^ y) := by
  apply Nat.eq_of_testBit_eq
  intro i
  rw [Nat.testBit_xor, Nat.testBit_two_pow_mul_add _ hb, Nat.testBit_two_pow_mul_add _ hy, Nat.testBit_two_pow_mul_add _ (Nat.xor_lt_two_pow hb hy)]
  split <;> rw [Nat.testBit_xor]
theorem num_lt2 (l : List UInt8) : num l < 2 ^ (8 * l.length) := by
  have := num_lt l
  rwa [show (256 : Nat) = 2 ^ 8 from rfl, ← Nat.pow_mul] at this
theorem num_flip : ∀ (l : List UInt8) (k : Nat), k < 8 * l.length → num (flipL l k) = num l ^^^ 2 ^ (8 * (l.length - 1 - k / 8) + k % 8)
  | [], k, h => by simp at h
  | c :: t, k, h => by
    have hlt := num_lt2 t
    by_cases hk : k < 8
    · have e1 : flipL (c :: t) k = flipB c k :: t := by
        unfold flipL
        rw [Nat.div_eq_of_lt hk, Nat.mod_eq_of_lt hk]
        simp
      rw [e1, num_cons, num_cons, flipB_nat c k hk, Nat.div_eq_of_lt hk, Nat.mod_eq_of_lt hk]
      rw [show (c :: t).length - 1 - 0 = t.length by simp, Nat.pow_add]
      have := xor_parts (8 * t.length) c.toNat (num t) (2 ^ k) 0 hlt (Nat.two_pow_pos _)
      rw [Nat.add_zero, Nat.xor_zero] at this
      exact this.symm
    · have e1 : flipL (c :: t) k = c :: flipL t (k - 8) := by
        unfold flipL
        rw [show k / 8 = (k - 8) / 8 + 1 by omega, show k % 8 = (k - 8) % 8 by omega]
        simp
      have hk2 : k - 8 < 8 * t.length := by simp at h; omega
      rw [e1, num_cons, num_cons, num_flip t (k - 8) hk2, flipL_length]
      have e2 : 8 * ((c :: t).length - 1 - k / 8) + k % 8 = 8 * (t.length - 1 - (k - 8) / 8) + (k - 8) % 8 := by simp; omega
      rw [e2]
      have := xor_parts (8 * t.length) c.toNat (num t) 0 (2 ^ (8 * (t.length - 1 - (k - 8) / 8) + (k - 8) % 8)) hlt (Nat.pow_lt_pow_right (by decide) (by omega))
      rw [Nat.mul_zero, Nat.zero_add, Nat.xor_zero] at this
      exact this.symm

/-- what a page's sum lacks of being right -/
def synd (P : List UInt8) : BitVec 32 := crc (bodyP P) ^^^ BitVec.ofNat 32 (num ((P.drop 8).take 4))
/-- what a turned bit changes there -/
def bitV (z : Nat) : BitVec 32 := if z < 64 then eb (8160 - z) else if z < 96 then 1#32 <<< (8 * (3 - (z - 64) / 8) + (z - 64) % 8) else eb (8160 - (z - 32))
theorem good_iff {P : List UInt8} (hP : P.length = 1024) : goodB P = true ↔ synd P = 0#32 := by
  unfold goodB synd
  have hn := num_lt ((P.drop 8).take 4)
  have hl : ((P.drop 8).take 4).length = 4 := by rw [List.length_take, List.length_drop, hP]; decide
  rw [hl] at hn
  rw [decide_eq_true_eq]
  constructor
  · intro h
    rw [h, BitVec.ofNat_toNat]
    simp
  · intro h
    have := xor_nought h
    rw [this, BitVec.toNat_ofNat]
    exact (Nat.mod_eq_of_lt (by omega)).symm
theorem flip_app_l (A B : List UInt8) (z : Nat) (h : z < 8 * A.length) : flipL (A ++ B) z = flipL A z ++ B := by
  unfold flipL
  have h1 : z / 8 < A.length := by omega
  rw [List.set_append, if_pos h1]
  simp [List.getD_eq_getElem?_getD, List.getElem?_append, h1]
theorem flip_app_r (A B : List UInt8) (z : Nat) (h : 8 * A.length ≤ z) : flipL (A ++ B) z = A ++ flipL B (z - 8 * A.length) := by
  unfold flipL
  have h1 : ¬ z / 8 < A.length := by omega
  rw [List.set_append, if_neg h1, show (z - 8 * A.length) / 8 = z / 8 - A.length by omega, show (z - 8 * A.length) % 8 = z % 8 by omega]
  simp [List.getD_eq_getElem?_getD, List.getElem?_append, h1]
theorem page_parts {P : List UInt8} (hP : P.length = 1024) : ∃ A B C, P = A ++ (B ++ C) ∧ A.length = 8 ∧ B.length = 4 ∧ C.length = 1012 :=
  ⟨P.take 8, (P.drop 8).take 4, (P.drop 8).drop 4, by rw [List.take_append_drop, List.take_append_drop], by rw [List.length_take, hP]; decide, by rw [List.length_take, List.length_drop, hP]; decide, by rw [List.length_drop, List.length_drop, hP]⟩
theorem body_parts {A B C : List UInt8} (hA : A.length = 8) (hB : B.length = 4) : bodyP (A ++ (B ++ C)) = A ++ C ∧ ((A ++ (B ++ C)).drop 8).take 4 = B := by
  constructor
  · unfold bodyP
    rw [List.take_append_of_le_length (by omega), List.take_of_length_le (by omega), List.drop_append, List.drop_of_length_le (by omega), List.nil_append, List.drop_append, hA, List.drop_of_length_le (by omega), List.nil_append, hB]
    simp
  · rw [List.drop_append_of_le_length (by omega), List.drop_of_length_le (by omega), List.nil_append, List.take_append_of_le_length (by omega), List.take_of_length_le (by omega)]
theorem synd_parts {A B C : List UInt8} (hA : A.length = 8) (hB : B.length = 4) : synd (A ++ (B ++ C)) = crc (A ++ C) ^^^ BitVec.ofNat 32 (num B) := by
  unfold synd
  rw [(body_parts hA hB).1, (body_parts hA hB).2]
theorem xor_swap (a b c : BitVec 32) : a ^^^ b ^^^ c = a ^^^ c ^^^ b := by rw [BitVec.xor_assoc, BitVec.xor_comm b c, ← BitVec.xor_assoc]
theorem synd_flip {P : List UInt8} (hP : P.length = 1024) {z : Nat} (hz : z < 8192) : synd (flipL P z) = synd P ^^^ bitV z := by
  obtain ⟨A, B, C, rfl, hA, hB, hC⟩ := page_parts hP
  unfold bitV
  by_cases h1 : z < 64
  · rw [if_pos h1, flip_app_l _ _ _ (by omega), synd_parts (by rw [flipL_length, hA]) hB, synd_parts hA hB, ← flip_app_l _ _ _ (by omega), crc_flip _ _ (by rw [List.length_append]; omega), List.length_append, hA, hC]
    exact xor_swap _ _ _
  · rw [if_neg h1]
    by_cases h2 : z < 96
    · rw [if_pos h2, flip_app_r _ _ _ (by omega), flip_app_l _ _ _ (by omega), synd_parts hA (by rw [flipL_length, hB]), synd_parts hA hB, num_flip _ _ (by omega), hA, hB, BitVec.xor_assoc]
      congr 1
      have ht : 8 * (4 - 1 - (z - 8 * 8) / 8) + (z - 8 * 8) % 8 = 8 * (3 - (z - 64) / 8) + (z - 64) % 8 := by omega
      rw [ht]
      have ht2 : 8 * (3 - (z - 64) / 8) + (z - 64) % 8 < 32 := by omega
      generalize 8 * (3 - (z - 64) / 8) + (z - 64) % 8 = t at ht2 ⊢
      apply BitVec.eq_of_toNat_eq
      have h3 : 2 ^ t < 2 ^ 32 := Nat.pow_lt_pow_right (by decide) ht2
      have hn := num_lt2 B
      rw [hB] at hn
      rw [BitVec.toNat_xor, BitVec.toNat_ofNat, BitVec.toNat_ofNat, BitVec.toNat_shiftLeft, Nat.shiftLeft_eq, Nat.mod_eq_of_lt (Nat.xor_lt_two_pow hn h3), Nat.mod_eq_of_lt hn]
      congr 1
      rw [Nat.mod_eq_of_lt] <;> simp
      exact h3
    · rw [if_neg h2, flip_app_r _ _ _ (by omega), flip_app_r _ _ _ (by omega), synd_parts hA hB, synd_parts hA hB]
      have e : A ++ flipL C (z - 8 * A.length - 8 * B.length) = flipL (A ++ C) (z - 32) := by
        rw [flip_app_r _ _ _ (by omega)]
        congr 2
        omega
      rw [e, crc_flip _ _ (by rw [List.length_append]; omega), List.length_append, hA, hC]
      exact xor_swap _ _ _
/-- its place among the register's states -/
def bitE (z : Nat) : Nat := if z < 64 then 8191 - z else if z < 96 then 31 - (8 * (3 - (z - 64) / 8) + (z - 64) % 8) else 8223 - z
theorem bit_its {z : Nat} (hz : z < 8192) : its 31 (bitV z) = eb (bitE z) := by
  unfold bitV bitE
  split
  · unfold eb; rw [← its_add]; congr 1; omega
  split
  · rw [its_bit _ _ (by omega) (by omega)]
  · unfold eb; rw [← its_add]; congr 1; omega
theorem bit_inj {a b : Nat} (ha : a < 8192) (hb : b < 8192) (h : bitV a = bitV b) : a = b := by
  have h1 := congrArg (its 31) h
  rw [bit_its ha, bit_its hb] at h1
  have h2 : bitE a ≤ 72300 := by unfold bitE; split <;> (try split) <;> omega
  have h3 : bitE b ≤ 72300 := by unfold bitE; split <;> (try split) <;> omega
  have h4 := eb_two h1 h2 h3
  unfold bitE at h4
  split at h4 <;> split at h4 <;> (try split at h4) <;> (try split at h4) <;> omega
theorem bit_par {z : Nat} (hz : z < 8192) : par (bitV z) = true := by
  have := par_its 31 (bitV z)
  rw [bit_its hz, eb_par] at this
  exact this.symm

/-- a bit turned, if there is one at the place -/
def turnP (P : List UInt8) (z : Int) : List UInt8 := if 0 ≤ z ∧ z < 8192 then flipL P z.toNat else P
theorem turnP_length (P : List UInt8) (z : Int) : (turnP P z).length = P.length := by unfold turnP; split <;> simp [flipL_length]
theorem bad1 {P : List UInt8} (hP : P.length = 1024) (hg : synd P = 0#32) {a : Nat} (ha : a < 8192) : goodB (flipL P a) = false := by
  rw [← Bool.not_eq_true, good_iff (by rw [flipL_length, hP]), synd_flip hP ha, hg]
  intro h
  have := congrArg par h
  rw [par_xor, bit_par ha] at this
  exact absurd this (by decide)
theorem bad2 {P : List UInt8} (hP : P.length = 1024) (hg : synd P = 0#32) {a b : Nat} (ha : a < 8192) (hb : b < 8192) : flipL (flipL P a) b = P ∨ goodB (flipL (flipL P a) b) = false := by
  by_cases hab : a = b
  · subst hab
    exact .inl (flipL_twice P a (by omega))
  · refine .inr ?_
    have h1 : (flipL P a).length = 1024 := by rw [flipL_length, hP]
    rw [← Bool.not_eq_true, good_iff (by rw [flipL_length, h1]), synd_flip h1 hb, synd_flip hP ha, hg]
    intro h
    have := xor_nought h
    rw [BitVec.zero_xor] at this
    exact hab (bit_inj ha hb this)
theorem bad3 {P : List UInt8} (hP : P.length = 1024) (hg : synd P = 0#32) {a b c : Nat} (ha : a < 8192) (hb : b < 8192) (hc : c < 8192) : goodB (flipL (flipL (flipL P a) b) c) = false := by
  have h1 : (flipL P a).length = 1024 := by rw [flipL_length, hP]
  have h2 : (flipL (flipL P a) b).length = 1024 := by rw [flipL_length, h1]
  rw [← Bool.not_eq_true, good_iff (by rw [flipL_length, h2]), synd_flip h2 hc, synd_flip h1 hb, synd_flip hP ha, hg]
  intro h
  have := congrArg par h
  rw [par_xor, par_xor, par_xor, bit_par ha, bit_par hb, bit_par hc] at this
  exact absurd this (by decide)
theorem turned_bad {P : List UInt8} (hP : P.length = 1024) (h : goodB P = true) (x y z : Int) : turnP (turnP (turnP P x) y) z = P ∨ goodB (turnP (turnP (turnP P x) y) z) = false := by
  have hg := (good_iff hP).1 h
  unfold turnP
  by_cases hx : 0 ≤ x ∧ x < 8192
  · rw [if_pos hx]
    by_cases hy : 0 ≤ y ∧ y < 8192
    · rw [if_pos hy]
      by_cases hz : 0 ≤ z ∧ z < 8192
      · rw [if_pos hz]; exact .inr (bad3 hP hg (by omega) (by omega) (by omega))
      · rw [if_neg hz]; exact bad2 hP hg (by omega) (by omega)
    · rw [if_neg hy]
      by_cases hz : 0 ≤ z ∧ z < 8192
      · rw [if_pos hz]; exact bad2 hP hg (by omega) (by omega)
      · rw [if_neg hz]; exact .inr (bad1 hP hg (by omega))
  · rw [if_neg hx]
    by_cases hy : 0 ≤ y ∧ y < 8192
    · rw [if_pos hy]
      by_cases hz : 0 ≤ z ∧ z < 8192
      · rw [if_pos hz]; exact bad2 hP hg (by omega) (by omega)
      · rw [if_neg hz]; exact .inr (bad1 hP hg (by omega))
    · rw [if_neg hy]
      by_cases hz : 0 ≤ z ∧ z < 8192
      · rw [if_pos hz]; exact .inr (bad1 hP hg (by omega))
      · rw [if_neg hz]; exact .inl rfl

/-- .. the first k of the places -/
def turnN (S : List UInt8) (zs : List Int) : Nat → List UInt8
  | 0 => S
  | k + 1 => turnP (turnN S zs k) (zs.getD k 0)
theorem turnN_length (S : List UInt8) (zs : List Int) : ∀ k, (turnN S zs k).length = S.length
  | 0 => rfl
  | k + 1 => by show (turnP (turnN S zs k) _).length = _; rw [turnP_length, turnN_length S zs k]
theorem turn_val (x : UInt8) (j : Nat) (h : j < 8) : bits .xor .u8 (x.toNat : Int) (2 ^ j % 256) = ((flipB x j).toNat : Int) := by
  have hx := x.toNat_lt
  have hp : 2 ^ j < 2 ^ 8 := Nat.pow_lt_pow_right (by decide) h
  have e : ((2 : Int) ^ j % 256) = ((2 ^ j : Nat) : Int) := by
    have hh : (2 : Int) ^ j = ((2 ^ j : Nat) : Int) := by simp
    rw [hh]
    exact Int.emod_eq_of_lt (Int.natCast_nonneg _) (Int.ofNat_lt.2 hp)
  rw [e, u8_xor_nat _ _ (by omega) (by omega), flipB_nat x j h]
theorem three_cell (x y z : Int) {k : Nat} (hk : k < 3) : (#[Value.int .i64 x, Value.int .i64 y, Value.int .i64 z] : Array Value)[k]? = some (.int .i64 ([x, y, z].getD k 0)) := by
  rcases k with _ | _ | _ | k
  · rfl
  · rfl
  · rfl
  · omega

end Go.Proofs.Ytgbfeagoadlhmaa
