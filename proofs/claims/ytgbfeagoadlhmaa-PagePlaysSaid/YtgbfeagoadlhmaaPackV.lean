
/-
  A packed page, said by its bytes: plain facts.
-/
import Derived.Test.YtgbfeagoadlhmaaPageV
set_option linter.unusedVariables false
set_option linter.unusedSimpArgs false
namespace Go.Proofs.Ytgbfeagoadlhmaa
open Go.RowKit Pl

/-- the page R is P, packed -/
structure IsPack (P R : List UInt8) : Prop where
  len : R.length = 1024
  front : ∀ i, i < 16 → R.getD i 0 = P.getD i 0
  start : num2 R 16 = 1024 - sumS P (num2 P 14)
  full : ∀ k, k < num2 P 14 → slotS P k ≠ 0 → slotA R k = 1024 - sumS P (k + 1) ∧ slotS R k = slotS P k ∧ itemL R k = itemL P k
  none : ∀ k, k < num2 P 14 → slotS P k = 0 → slotA R k = 0 ∧ slotS R k = 0
  free : ∀ i, 18 + 4 * num2 P 14 ≤ i → i < 1024 - sumS P (num2 P 14) → R.getD i 0 = 0

theorem num2_front {P R : List UInt8} (hP : P.length = 1024) (hR : R.length = 1024) {a n : Nat} (ha : a + 2 ≤ n) (hn : n ≤ 1024) (h : ∀ i, i < n → R.getD i 0 = P.getD i 0) : num2 R a = num2 P a := by
  rw [num2_get _ _ (by omega), num2_get _ _ (by omega), h _ (by omega), h _ (by omega)]
theorem num2_bytes {P R : List UInt8} (hP : P.length = 1024) (hR : R.length = 1024) {a : Nat} (ha : a + 2 ≤ 1024) (h : num2 R a = num2 P a) : R.getD a 0 = P.getD a 0 ∧ R.getD (a + 1) 0 = P.getD (a + 1) 0 := by
  rw [num2_get _ _ (by omega), num2_get _ _ (by omega)] at h
  have h1 := (R.getD a 0).toNat_lt
  have h2 := (P.getD a 0).toNat_lt
  have h3 := (R.getD (a + 1) 0).toNat_lt
  have h4 := (P.getD (a + 1) 0).toNat_lt
  exact ⟨UInt8.toNat.inj (by omega), UInt8.toNat.inj (by omega)⟩

theorem sumS_find (P : List UInt8) (m x : Nat) (h : x < sumS P m) : ∃ k, k < m ∧ sumS P k ≤ x ∧ x < sumS P (k + 1) := by
  induction m with
  | zero => exact absurd h (Nat.not_lt_zero _)
  | succ m ih =>
    by_cases hm : x < sumS P m
    · obtain ⟨k, a, b, c⟩ := ih hm
      exact ⟨k, by omega, b, c⟩
    · exact ⟨m, Nat.lt_succ_self m, by omega, h⟩

/-- there is one packed page -/
theorem pack_one {P R Q : List UInt8} (hP : P.length = 1024) (h : RightV P) (hR : IsPack P R) (hQ : IsPack P Q) : R = Q := by
  have hr := (right_iff P).2 h
  have hlow := h.low
  have hhigh := h.high
  have hsum := sumS_le hr (Nat.le_refl _)
  apply ext_getD (by rw [hR.len, hQ.len])
  intro i hi
  rw [hR.len] at hi
  by_cases h1 : i < 16
  · rw [hR.front i h1, hQ.front i h1]
  by_cases h2 : i < 18
  · have := num2_bytes hQ.len hR.len (a := 16) (by omega) (by rw [hR.start, hQ.start])
    rcases (by omega : i = 16 ∨ i = 17) with rfl | rfl
    · exact this.1
    · exact this.2
  by_cases h3 : i < 18 + 4 * num2 P 14
  · have hk : (i - 18) / 4 < num2 P 14 := by omega
    generalize hkk : (i - 18) / 4 = k at *
    have hs : slotA R k = slotA Q k ∧ slotS R k = slotS Q k := by
      by_cases hz : slotS P k = 0
      · obtain ⟨a, b⟩ := hR.none k hk hz; obtain ⟨c, d⟩ := hQ.none k hk hz; omega
      · obtain ⟨a, b, _⟩ := hR.full k hk hz; obtain ⟨c, d, _⟩ := hQ.full k hk hz; omega
    have e1 := num2_bytes hQ.len hR.len (a := 18 + 4 * k) (by omega) hs.1
    have e2 := num2_bytes hQ.len hR.len (a := 18 + 4 * k + 2) (by omega) hs.2
    rcases (by omega : i = 18 + 4 * k ∨ i = 18 + 4 * k + 1 ∨ i = 18 + 4 * k + 2 ∨ i = 18 + 4 * k + 2 + 1) with rfl | rfl | rfl | rfl
    · exact e1.1
    · exact e1.2
    · exact e2.1
    · exact e2.2
  by_cases h4 : i < 1024 - sumS P (num2 P 14)
  · rw [hR.free i (by omega) h4, hQ.free i (by omega) h4]
  · obtain ⟨k, hk, ha, hb⟩ := sumS_find P (num2 P 14) (1023 - i) (by omega)
    have hz : slotS P k ≠ 0 := by rw [sumS_succ] at hb; omega
    obtain ⟨a1, a2, a3⟩ := hR.full k hk hz
    obtain ⟨b1, b2, b3⟩ := hQ.full k hk hz
    have hle := sumS_mono P (i := k + 1) (k := num2 P 14) (by omega)
    have ex : ∀ X : List UInt8, slotA X k = 1024 - sumS P (k + 1) → slotS X k = slotS P k → X.getD i 0 = (itemL X k).getD (i - (1024 - sumS P (k + 1))) 0 := fun X x1 x2 => by
      rw [itemL_seg, x1, x2, seg_get _ _ _ _ (by rw [sumS_succ] at hb; rw [sumS_succ] at hle ⊢; omega)]
      congr 1; omega
    rw [ex R a1 a2, ex Q b1 b2, a3, b3]

theorem zeroP_get (i : Nat) : zeroP.getD i 0 = 0 := by
  unfold zeroP
  simp only [List.getD_eq_getElem?_getD, List.getElem?_replicate]
  split <;> rfl

structure PkV (P : List UInt8) (n : Nat) (R : List UInt8) : Prop where
  len : R.length = 1024
  front : ∀ i, i < 18 → R.getD i 0 = P.getD i 0
  full : ∀ k, k < n → slotS P k ≠ 0 → slotA R k = 1024 - sumS P (k + 1) ∧ slotS R k = slotS P k ∧ itemL R k = itemL P k
  none : ∀ k, k < n → slotS P k = 0 → slotA R k = slotA P k ∧ slotS R k = 0
  next : ∀ k, n ≤ k → k < num2 P 14 → slotA R k = slotA P k ∧ slotS R k = slotS P k
  free : ∀ i, 18 + 4 * num2 P 14 ≤ i → i < 1024 - sumS P n → R.getD i 0 = 0

theorem pkP_view {P : List UInt8} (hP : P.length = 1024) (h : RightV P) : ∀ n, n ≤ num2 P 14 → PkV P n (pkP P n)
  | 0, _ => by
    have hlow := h.low
    have hhigh := h.high
    have hl : (P.take (18 + 4 * num2 P 14)).length = 18 + 4 * num2 P 14 := by rw [List.length_take, hP]; omega
    have hz : zeroP.length = 1024 := zeroP_length
    have hg : ∀ i, (pkP P 0).getD i 0 = if i < 18 + 4 * num2 P 14 then P.getD i 0 else 0 := fun i => by
      show (over zeroP 0 (P.take (18 + 4 * num2 P 14))).getD i 0 = _
      rw [over_get _ _ _ (by omega), hl, zeroP_get]
      split
      · rw [if_pos (by omega)]
        simp only [List.getD_eq_getElem?_getD]
        rw [List.getElem?_take_of_lt (by omega)]; simp
      · rw [if_neg (by omega)]
    have hlen := pkP_length hP ((right_iff P).2 h) 0 (Nat.zero_le _)
    have hf : ∀ i, i < 18 + 4 * num2 P 14 → (pkP P 0).getD i 0 = P.getD i 0 := fun i hi => by rw [hg, if_pos hi]
    refine ⟨hlen, fun i hi => hf i (by omega), fun k hk => by omega, fun k hk => by omega, fun k h1 hk => ?_, fun i h1 h2 => by rw [hg, if_neg (by omega)]⟩
    unfold slotA slotS
    exact ⟨num2_front hP hlen (n := 18 + 4 * num2 P 14) (by omega) (by omega) hf, num2_front hP hlen (n := 18 + 4 * num2 P 14) (by omega) (by omega) hf⟩
  | n + 1, hn => by
    have hr := (right_iff P).2 h
    have hlow := h.low
    have hhigh := h.high
    have ih := pkP_view hP h n (by omega)
    have hsum := sumS_le hr hn
    have hsu := sumS_succ P n
    by_cases hz : slotS P n = 0
    · rw [show pkP P (n + 1) = pkP P n from by show (if slotS P n = 0 then pkP P n else _) = _; rw [if_pos hz]]
      refine ⟨ih.len, ih.front, fun k hk hs => ?_, fun k hk hs => ?_, fun k h1 h2 => ih.next k (by omega) h2, fun i h1 h2 => ih.free i h1 (by omega)⟩
      · exact ih.full k (by rcases Nat.lt_or_ge k n with h | h; exact h; (obtain rfl : k = n := by omega); exact absurd hz hs) hs
      · by_cases hkn : k = n
        · subst hkn
          have := ih.next k (Nat.le_refl _) (by omega)
          rw [hz] at this; exact this
        · exact ih.none k (by omega) hs
    · obtain ⟨i1, i2, i3, i4⟩ := h.item (k := n) (by omega) hz
      have hil := itemL_length hP hr (k := n) (by omega)
      rw [show pkP P (n + 1) = point2 (over (pkP P n) (1024 - sumS P (n + 1)) (itemL P n)) n (1024 - sumS P (n + 1)) (slotS P n) from by show (if slotS P n = 0 then pkP P n else _) = _; rw [if_neg hz]]
      have x1 := ih.len
      generalize hX : pkP P n = X at *
      generalize ha : 1024 - sumS P (n + 1) = a at *
      have hfit : a + (itemL P n).length ≤ 1024 := by omega
      have y1 : (over X a (itemL P n)).length = 1024 := by rw [over_length _ _ _ (by omega), x1]
      have ysl := fun k (hk : 18 + 4 * k + 4 ≤ a) => slot_over (l := itemL P n) x1 hfit (.inl hk)
      have yg := fun i => over_get X a (itemL P n) (by omega) i
      have yin : seg (over X a (itemL P n)) a (itemL P n).length = itemL P n := seg_over_in x1 hfit
      have yfar := fun p s (hp : p + s ≤ 1024) (hf : p + s ≤ a ∨ a + (itemL P n).length ≤ p) => seg_over_far (l := itemL P n) x1 hfit hp hf
      rw [hil] at yin yfar yg
      generalize over X a (itemL P n) = Y at *
      have hna : 18 + 4 * n + 4 ≤ a := by omega
      have zsl := fun k (hk : 18 + 4 * k + 4 ≤ 1024) => slot_point2 (x := a) (y := slotS P n) y1 (n := n) (by omega) hk (by omega) (by omega)
      have zg := fun i (hf : i < 18 + 4 * n ∨ 18 + 4 * n + 4 ≤ i) => point2_get (a := a) (s := slotS P n) y1 (n := n) (by omega) hf
      have zseg := fun p s (hp : p + s ≤ 1024) (hf : p + s ≤ 18 + 4 * n ∨ 18 + 4 * n + 4 ≤ p) => seg_point2 (x := a) (y := slotS P n) y1 (n := n) (by omega) hp hf
      refine ⟨point2_length _ _ _ _ y1 (by omega), fun i hi => ?_, fun k hk hs => ?_, fun k hk hs => ?_, fun k h1 h2 => ?_, fun i h1 h2 => ?_⟩
      · rw [zg i (by omega), yg, if_neg (by omega), ih.front i hi]
      · by_cases hkn : k = n
        · subst hkn
          have e1 := zsl k (by omega)
          rw [if_pos rfl, if_pos rfl] at e1
          refine ⟨by rw [e1.1, ha], e1.2, ?_⟩
          rw [itemL_seg, e1.1, e1.2, zseg _ _ (by omega) (by omega), yin]
        · obtain ⟨f1, f2, f3⟩ := ih.full k (by omega) hs
          have e1 := zsl k (by omega)
          rw [if_neg hkn, if_neg hkn, (ysl k (by omega)).1, (ysl k (by omega)).2] at e1
          refine ⟨by rw [e1.1, f1], by rw [e1.2, f2], ?_⟩
          have hm1 := sumS_mono P (i := k + 1) (k := n) (by omega)
          have hm2 := sumS_succ P k
          rw [← f3, itemL_seg, itemL_seg, e1.1, e1.2, f1, f2, zseg _ _ (by omega) (by omega), yfar _ _ (by omega) (by omega)]
      · by_cases hkn : k = n
        · subst hkn; exact absurd hs hz
        · obtain ⟨f1, f2⟩ := ih.none k (by omega) hs
          have e1 := zsl k (by omega)
          rw [if_neg hkn, if_neg hkn, (ysl k (by omega)).1, (ysl k (by omega)).2] at e1
          exact ⟨by rw [e1.1, f1], by rw [e1.2, f2]⟩
      · have e1 := zsl k (by omega)
        rw [if_neg (by omega), if_neg (by omega), (ysl k (by omega)).1, (ysl k (by omega)).2] at e1
        have := ih.next k (by omega) h2
        exact ⟨by rw [e1.1, this.1], by rw [e1.2, this.2]⟩
      · rw [zg i (by omega), yg, if_neg (by omega), ih.free i h1 (by omega)]

theorem packP_is {P : List UInt8} (hP : P.length = 1024) (h : RightV P) : IsPack P (packP P) := by
  have hr := (right_iff P).2 h
  have hlow := h.low
  have hhigh := h.high
  have v := pkP_view hP h _ (Nat.le_refl _)
  have hsum := sumS_le hr (Nat.le_refl _)
  unfold packP
  generalize pkP P (num2 P 14) = X at *
  have x1 := v.len
  refine ⟨set2_length _ _ _ x1 (by omega), fun i hi => ?_, num2_set2 (by omega) (by omega), fun k hk hs => ?_, fun k hk hs => ?_, fun i h1 h2 => ?_⟩
  · rw [set2_get x1 (by omega) (by omega), v.front i (by omega)]
  · obtain ⟨f1, f2, f3⟩ := v.full k hk hs
    have e := slot_set2 (n := 1024 - sumS P (num2 P 14)) (a := 16) (k := k) x1 (by omega) (by omega)
    refine ⟨by rw [e.1, f1], by rw [e.2, f2], ?_⟩
    have hm1 := sumS_mono P (i := k + 1) (k := num2 P 14) (by omega)
    have hm2 := sumS_succ P k
    rw [← f3, itemL_seg, itemL_seg, e.1, e.2, f1, f2, seg_set2 x1 (by omega) (by omega) (by omega)]
  · obtain ⟨f1, f2⟩ := v.none k hk hs
    have e := slot_set2 (n := 1024 - sumS P (num2 P 14)) (a := 16) (k := k) x1 (by omega) (by omega)
    exact ⟨by rw [e.1, f1, h.none hk hs], by rw [e.2, f2]⟩
  · rw [set2_get x1 (by omega) (by omega), v.free i h1 h2]

theorem IsPack.many {P R : List UInt8} (hP : P.length = 1024) (h : IsPack P R) : num2 R 14 = num2 P 14 := num2_front hP h.len (n := 16) (by omega) (by omega) h.front
theorem IsPack.size {P R : List UInt8} (h : IsPack P R) {k : Nat} (hk : k < num2 P 14) : slotS R k = slotS P k := by
  by_cases hz : slotS P k = 0
  · rw [(h.none k hk hz).2, hz]
  · exact (h.full k hk hz).2.1
theorem IsPack.sum {P R : List UInt8} (h : IsPack P R) : ∀ k, k ≤ num2 P 14 → sumS R k = sumS P k
  | 0, _ => rfl
  | k + 1, hk => by rw [sumS_succ, sumS_succ, IsPack.sum h k (by omega), h.size (by omega)]
theorem IsPack.right {P R : List UInt8} (hP : P.length = 1024) (hV : RightV P) (h : IsPack P R) : RightV R := by
  have hr := (right_iff P).2 hV
  have hlow := hV.low
  have hhigh := hV.high
  have hsum := sumS_le hr (Nat.le_refl _)
  have hm := h.many hP
  refine ⟨by rw [hm, h.start]; omega, by rw [h.start]; omega, fun k hk => ?_, ?_⟩
  · rw [hm] at hk
    by_cases hz : slotS P k = 0
    · exact .inl (h.none k hk hz)
    · obtain ⟨f1, f2, _⟩ := h.full k hk hz
      obtain ⟨i1, i2, i3, i4⟩ := hV.item hk hz
      have hm1 := sumS_mono P (i := k + 1) (k := num2 P 14) (by omega)
      have hm2 := sumS_succ P k
      refine .inr ⟨by omega, by omega, by rw [h.start]; omega, by omega, fun j hj => ?_⟩
      by_cases hzj : slotS P j = 0
      · left; rw [h.size (by omega), hzj]
      · obtain ⟨g1, g2, _⟩ := h.full j (by omega) hzj
        have hm3 := sumS_mono P (i := j + 1) (k := k) (by omega)
        have hm4 := sumS_succ P j
        right; right; omega
  · rw [hm]
    rcases hV.last with hz | hz
    · exact .inl hz
    · by_cases h0 : num2 P 14 = 0
      · exact .inl h0
      · right; rw [h.size (by omega)]; exact hz
theorem IsPack.item {P R : List UInt8} (h : IsPack P R) {k : Nat} (hk : k < num2 P 14) : itemL R k = itemL P k := by
  by_cases hz : slotS P k = 0
  · rw [itemL_seg, itemL_seg, (h.none k hk hz).2, hz]; simp [seg]
  · exact (h.full k hk hz).2.2
/-- packed twice is packed once -/
theorem pack_twice {P : List UInt8} (hP : P.length = 1024) (h : RightV P) : packP (packP P) = packP P := by
  have h1 := packP_is hP h
  have hV := h1.right hP h
  have h2 := packP_is h1.len hV
  have hm := h1.many hP
  have hs := fun k hk => h1.sum (R := packP P) k hk
  refine pack_one hP h ⟨h2.len, fun i hi => by rw [h2.front i hi, h1.front i hi], by rw [h2.start, hm, hs _ (Nat.le_refl _)], fun k hk hz => ?_, fun k hk hz => ?_, fun i a b => h2.free i (by rw [hm]; exact a) (by rw [hm, hs _ (Nat.le_refl _)]; exact b)⟩ h1
  · obtain ⟨a, b, c⟩ := h2.full k (by rw [hm]; exact hk) (by rw [h1.size hk]; exact hz)
    refine ⟨by rw [a, hs _ (by omega)], by rw [b, h1.size hk], by rw [c, h1.item hk]⟩
  · exact h2.none k (by rw [hm]; exact hk) (by rw [h1.size hk]; exact hz)

/-- what of a page a look at a slot tells -/
theorem itemE_pack {P R : List UInt8} (hP : P.length = 1024) (hV : RightV P) (h : IsPack P R) (z : Int) : itemE R z = itemE P z ∧ itemB R z = itemB P z := by
  have hr := (right_iff P).2 hV
  have hr2 := (right_iff R).2 (h.right hP hV)
  have hm := h.many hP
  have hh : ∀ n, hasB R n = hasB P n := fun n => by
    unfold hasB
    rw [hm]
    by_cases hn : n < num2 P 14
    · rw [h.size hn]
    · simp [hn]
  have hE : itemE R z = itemE P z := by unfold itemE; rw [hr, hr2, hh]
  refine ⟨hE, ?_⟩
  unfold itemB
  rw [hE]
  split
  · rename_i h0
    unfold itemE at h0
    rw [hr, if_pos rfl] at h0
    split at h0
    · omega
    · split at h0
      · rename_i hb
        unfold hasB at hb
        simp only [Bool.and_eq_true, decide_eq_true_eq] at hb
        exact h.item hb.1
      · omega
  · rfl

theorem pack_all {P : List UInt8} (h : P.length = 1024) (hr : rightB P = true) : ∃ Q, packR P = Q ∧ packE P = 0 ∧ Q.length = 1024 ∧ packR Q = Q ∧ packE Q = 0 ∧ rightB Q = true ∧ at8 Q 12 = at8 P 12 ∧
    Q.take 13 = P.take 13 ∧ slotsN Q = slotsN P ∧ ∀ z, itemE Q z = itemE P z ∧ itemB Q z = itemB P z := by
  have hV := (right_iff P).1 hr
  have hI := packP_is h hV
  have hrq := (right_iff _).2 (hI.right h hV)
  refine ⟨packP P, by unfold packR; rw [hr, if_pos rfl], by unfold packE; rw [hr, if_pos rfl], hI.len, by unfold packR; rw [hrq, if_pos rfl]; exact pack_twice h hV, by unfold packE; rw [hrq, if_pos rfl], hrq,
    at8_inj.2 (hI.front 12 (by omega)), ?_, by unfold slotsN; rw [hrq, hr, if_pos rfl, if_pos rfl, hI.many h], fun z => itemE_pack h hV hI z⟩
  have := seg_eq hI.len h (a := 0) (b := 0) (s := 13) (by omega) (by omega) (fun i hi => by rw [Nat.zero_add]; exact hI.front i (by omega))
  unfold seg at this
  rw [List.drop_zero, List.drop_zero] at this
  exact this

end Go.Proofs.Ytgbfeagoadlhmaa
