
/-
  The slots and items of a page behind each operation: plain facts.
-/
import Derived.Test.YtgbfeagoadlhmaaPackP
import Derived.Test.YtgbfeagoadlhmaaPageI
set_option linter.unusedVariables false
set_option linter.unusedSimpArgs false
namespace Go.Proofs.Ytgbfeagoadlhmaa
open Go.RowKit Pl

/-- a slot that may be, in words on numbers -/
def OkV (P : List UInt8) (k : Nat) : Prop :=
  (slotA P k = 0 ∧ slotS P k = 0) ∨ (1 ≤ slotS P k ∧ slotS P k ≤ 1000 ∧ num2 P 16 ≤ slotA P k ∧ slotA P k + slotS P k ≤ 1024 ∧
    ∀ j, j < k → slotS P j = 0 ∨ slotA P j + slotS P j ≤ slotA P k ∨ slotA P k + slotS P k ≤ slotA P j)
/-- a page that is right, in words on numbers -/
structure RightV (P : List UInt8) : Prop where
  low : 18 + 4 * num2 P 14 ≤ num2 P 16
  high : num2 P 16 ≤ 1024
  ok : ∀ k, k < num2 P 14 → OkV P k
  last : num2 P 14 = 0 ∨ slotS P (num2 P 14 - 1) ≠ 0

theorem free_iff (P : List UInt8) (k : Nat) (hk : 1 ≤ slotS P k) : freeB P k = true ↔ ∀ j, j < k → slotS P j = 0 ∨ slotA P j + slotS P j ≤ slotA P k ∨ slotA P k + slotS P k ≤ slotA P j := by
  unfold freeB takenB
  simp only [List.all_eq_true, List.mem_range, Bool.not_eq_true', List.any_eq_false, Bool.and_eq_true, decide_eq_true_eq, not_and, Nat.not_lt]
  constructor
  · intro h j hj
    have := h (max (slotA P j) (slotA P k) - slotA P k)
    by_cases hc : max (slotA P j) (slotA P k) - slotA P k < slotS P k
    · have := this hc j hj
      omega
    · omega
  · intro h i hi j hj hle
    have := h j hj
    omega
theorem slotOk_iff (P : List UInt8) (k : Nat) : slotOk P k = true ↔ OkV P k := by
  unfold slotOk OkV emptyB fitsB
  simp only [Bool.or_eq_true, Bool.and_eq_true, decide_eq_true_eq]
  by_cases hs : 1 ≤ slotS P k
  · rw [free_iff P k hs]
    constructor
    · rintro (h | ⟨⟨⟨⟨a, b⟩, c⟩, d⟩, e⟩)
      · exact .inl h
      · exact .inr ⟨a, b, c, d, e⟩
    · rintro (h | ⟨a, b, c, d, e⟩)
      · exact .inl h
      · exact .inr ⟨⟨⟨⟨a, b⟩, c⟩, d⟩, e⟩
  · constructor
    · rintro (h | ⟨⟨⟨⟨a, b⟩, c⟩, d⟩, e⟩)
      · exact .inl h
      · omega
    · rintro (h | ⟨a, b, c, d, e⟩)
      · exact .inl h
      · omega
theorem right_iff (P : List UInt8) : rightB P = true ↔ RightV P := by
  unfold rightB
  simp only [Bool.and_eq_true, Bool.or_eq_true, decide_eq_true_eq, List.all_eq_true, List.mem_range]
  constructor
  · rintro ⟨⟨⟨h1, h2⟩, h3⟩, h4⟩
    refine ⟨h1, h2, fun k hk => (slotOk_iff P k).1 (h3 k hk), ?_⟩
    by_cases hm : num2 P 14 = 0
    · exact .inl hm
    · refine .inr fun hz => ?_
      rcases h4 with h4 | h4
      · exact hm h4
      · rcases (slotOk_iff P (num2 P 14 - 1)).1 (h3 _ (by omega)) with ⟨a, b⟩ | ⟨a, _⟩
        · simp [emptyB, a, b] at h4
        · omega
  · rintro ⟨h1, h2, h3, h4⟩
    refine ⟨⟨⟨h1, h2⟩, fun k hk => (slotOk_iff P k).2 (h3 k hk)⟩, ?_⟩
    rcases h4 with h4 | h4
    · exact .inl h4
    · right; simp [emptyB, h4]
theorem RightV.disj {P : List UInt8} (h : RightV P) {j k : Nat} (hj : j < num2 P 14) (hk : k < num2 P 14) (hne : j ≠ k) (sj : slotS P j ≠ 0) (sk : slotS P k ≠ 0) :
    slotA P j + slotS P j ≤ slotA P k ∨ slotA P k + slotS P k ≤ slotA P j := by
  rcases Nat.lt_or_ge j k with hlt | hge
  · rcases h.ok k hk with ⟨_, b⟩ | ⟨_, _, _, _, e⟩
    · exact absurd b sk
    · rcases e j hlt with e | e
      · exact absurd e sj
      · exact e
  · rcases h.ok j hj with ⟨_, b⟩ | ⟨_, _, _, _, e⟩
    · exact absurd b sj
    · rcases e k (by omega) with e | e
      · exact absurd e sk
      · omega
theorem RightV.item {P : List UInt8} (h : RightV P) {k : Nat} (hk : k < num2 P 14) (sk : slotS P k ≠ 0) : 1 ≤ slotS P k ∧ slotS P k ≤ 1000 ∧ num2 P 16 ≤ slotA P k ∧ slotA P k + slotS P k ≤ 1024 := by
  rcases h.ok k hk with ⟨_, b⟩ | ⟨a, b, c, d, _⟩
  · exact absurd b sk
  · exact ⟨a, b, c, d⟩
theorem RightV.none {P : List UInt8} (h : RightV P) {k : Nat} (hk : k < num2 P 14) (sk : slotS P k = 0) : slotA P k = 0 := by
  rcases h.ok k hk with ⟨a, _⟩ | ⟨a, _⟩
  · exact a
  · omega

/-- bytes of a page, so many, from a place on -/
def seg (P : List UInt8) (a s : Nat) : List UInt8 := (P.drop a).take s
theorem itemL_seg (P : List UInt8) (k : Nat) : itemL P k = seg P (slotA P k) (slotS P k) := rfl
theorem seg_length {P : List UInt8} (h : P.length = 1024) {a s : Nat} (ha : a + s ≤ 1024) : (seg P a s).length = s := by
  unfold seg; rw [List.length_take, List.length_drop, h]; omega
theorem seg_get (P : List UInt8) (a s i : Nat) (hi : i < s) : (seg P a s).getD i 0 = P.getD (a + i) 0 := by
  unfold seg
  rw [List.getD_eq_getElem?_getD, List.getElem?_take_of_lt hi, List.getElem?_drop, ← List.getD_eq_getElem?_getD]
theorem seg_eq {P Q : List UInt8} (hP : P.length = 1024) (hQ : Q.length = 1024) {a b s : Nat} (ha : a + s ≤ 1024) (hb : b + s ≤ 1024) (h : ∀ i, i < s → P.getD (a + i) 0 = Q.getD (b + i) 0) : seg P a s = seg Q b s := by
  apply ext_getD
  · rw [seg_length hP ha, seg_length hQ hb]
  · intro k hk
    rw [seg_length hP ha] at hk
    rw [seg_get _ _ _ _ hk, seg_get _ _ _ _ hk, h k hk]
theorem seg_over_in {P : List UInt8} (h : P.length = 1024) {o : Nat} {l : List UInt8} (ho : o + l.length ≤ 1024) : seg (over P o l) o l.length = l := by
  have hl : (over P o l).length = 1024 := by rw [over_length _ _ _ (by omega), h]
  apply ext_getD
  · rw [seg_length hl ho]
  · intro k hk
    rw [seg_length hl ho] at hk
    rw [seg_get _ _ _ _ hk, over_get _ _ _ (by omega), if_pos (by omega)]
    congr 1; omega
theorem seg_over_far {P : List UInt8} (h : P.length = 1024) {o : Nat} {l : List UInt8} (ho : o + l.length ≤ 1024) {a s : Nat} (ha : a + s ≤ 1024) (hf : a + s ≤ o ∨ o + l.length ≤ a) : seg (over P o l) a s = seg P a s := by
  have hl : (over P o l).length = 1024 := by rw [over_length _ _ _ (by omega), h]
  refine seg_eq hl h ha ha fun i hi => ?_
  rw [over_get _ _ _ (by omega), if_neg (by omega)]
theorem set2_get {P : List UInt8} (h : P.length = 1024) {a n : Nat} (ha : a + 2 ≤ 1024) {i : Nat} (hf : i < a ∨ a + 2 ≤ i) : (set2 P a n).getD i 0 = P.getD i 0 := by
  unfold set2; rw [over_get _ _ _ (by rw [put_length]; omega), put_length, if_neg (by omega)]
theorem seg_set2 {P : List UInt8} (h : P.length = 1024) {o n : Nat} (ho : o + 2 ≤ 1024) {a s : Nat} (ha : a + s ≤ 1024) (hf : a + s ≤ o ∨ o + 2 ≤ a) : seg (set2 P o n) a s = seg P a s :=
  seg_over_far h (by rw [put_length]; exact ho) ha (by rw [put_length]; exact hf)
theorem point2_get {P : List UInt8} (h : P.length = 1024) {n a s : Nat} (hn : 18 + 4 * n + 4 ≤ 1024) {i : Nat} (hf : i < 18 + 4 * n ∨ 18 + 4 * n + 4 ≤ i) : (point2 P n a s).getD i 0 = P.getD i 0 := by
  unfold point2; rw [set2_get (set2_length _ _ _ h (by omega)) (by omega) (by omega), set2_get h (by omega) (by omega)]
theorem seg_point2 {P : List UInt8} (h : P.length = 1024) {n x y : Nat} (hn : 18 + 4 * n + 4 ≤ 1024) {a s : Nat} (ha : a + s ≤ 1024) (hf : a + s ≤ 18 + 4 * n ∨ 18 + 4 * n + 4 ≤ a) : seg (point2 P n x y) a s = seg P a s :=
  seg_eq (point2_length _ _ _ _ h hn) h ha ha fun i hi => point2_get h hn (by omega)
theorem num2_point2 {P : List UInt8} (h : P.length = 1024) {n x y a : Nat} (hn : 18 + 4 * n + 4 ≤ 1024) (ha : a ≤ 16) : num2 (point2 P n x y) a = num2 P a := by
  have h1 := set2_length P (18 + 4 * n) x h (by omega)
  unfold point2
  rw [num2_set2_far (by omega) (by omega) (by omega), num2_set2_far (by omega) (by omega) (by omega)]
theorem slot_point2 {P : List UInt8} (h : P.length = 1024) {n x y k : Nat} (hn : 18 + 4 * n + 4 ≤ 1024) (hk : 18 + 4 * k + 4 ≤ 1024) (hx : x < 65536) (hy : y < 65536) :
    slotA (point2 P n x y) k = (if k = n then x else slotA P k) ∧ slotS (point2 P n x y) k = (if k = n then y else slotS P k) := by
  have h1 := set2_length P (18 + 4 * n) x h (by omega)
  unfold slotA slotS point2
  by_cases hkn : k = n
  · subst hkn
    rw [if_pos rfl, if_pos rfl]
    constructor
    · rw [num2_set2_far (by omega) (by omega) (by omega), num2_set2 (by omega) hx]
    · rw [num2_set2 (by omega) hy]
  · rw [if_neg hkn, if_neg hkn]
    constructor
    · rw [num2_set2_far (by omega) (by omega) (by omega), num2_set2_far (by omega) (by omega) (by omega)]
    · rw [num2_set2_far (by omega) (by omega) (by omega), num2_set2_far (by omega) (by omega) (by omega)]
theorem slot_set2 {P : List UInt8} (h : P.length = 1024) {a n k : Nat} (ha : a ≤ 16) (hk : 18 + 4 * k + 4 ≤ 1024) : slotA (set2 P a n) k = slotA P k ∧ slotS (set2 P a n) k = slotS P k := by
  unfold slotA slotS
  exact ⟨num2_set2_far (by omega) (by omega) (by omega), num2_set2_far (by omega) (by omega) (by omega)⟩
theorem slot_over {P : List UInt8} (h : P.length = 1024) {o k : Nat} {l : List UInt8} (ho : o + l.length ≤ 1024) (hk : 18 + 4 * k + 4 ≤ o ∨ (o + l.length ≤ 18 ∧ 18 + 4 * k + 4 ≤ 1024)) : slotA (over P o l) k = slotA P k ∧ slotS (over P o l) k = slotS P k := by
  unfold slotA slotS
  exact ⟨num2_over_far (by omega) (by omega) (by omega), num2_over_far (by omega) (by omega) (by omega)⟩

theorem emptyFrom_spec (P : List UInt8) (n : Nat) : ∀ f j, n ≤ j + f → (∀ i, j ≤ i → i < emptyFrom P n f j → slotS P i ≠ 0) ∧ (emptyFrom P n f j < n → slotS P (emptyFrom P n f j) = 0)
  | 0, j, h => by
    constructor
    · intro i h1 h2; unfold emptyFrom at h2; omega
    · intro h2; unfold emptyFrom at h2; omega
  | f + 1, j, h => by
    unfold emptyFrom
    by_cases hj : j < n
    · rw [if_pos hj]
      by_cases hz : slotS P j = 0
      · rw [if_pos hz]; exact ⟨fun i h1 h2 => by omega, fun _ => hz⟩
      · rw [if_neg hz]
        obtain ⟨h1, h2⟩ := emptyFrom_spec P n f (j + 1) (by omega)
        refine ⟨fun i h3 h4 => ?_, h2⟩
        by_cases hij : i = j
        · subst hij; exact hz
        · exact h1 i (by omega) h4
    · rw [if_neg hj]
      exact ⟨fun i h1 h2 => by omega, fun h2 => by omega⟩
theorem emptyN_full (P : List UInt8) (n i : Nat) (h : i < emptyN P n) : slotS P i ≠ 0 := (emptyFrom_spec P n n 0 (by omega)).1 i (by omega) h
theorem emptyN_hole (P : List UInt8) (n : Nat) (h : emptyN P n < n) : slotS P (emptyN P n) = 0 := (emptyFrom_spec P n n 0 (by omega)).2 h

/-- what of a page stays: its slots but n, their items, its first bytes -/
structure StaysV (P R : List UInt8) (ok : Nat → Prop) : Prop where
  slot : ∀ k, ok k → slotA R k = slotA P k ∧ slotS R k = slotS P k
  item : ∀ k, ok k → itemL R k = itemL P k

theorem ins_room {P : List UInt8} (h : RightV P) {n : Nat} (hE : insE P n = 0) : 1 ≤ n ∧ n ≤ 1000 ∧ 18 + 4 * (if emptyN P (num2 P 14) = num2 P 14 then num2 P 14 + 1 else num2 P 14) + n ≤ num2 P 16 := by
  have hr := (right_iff P).2 h
  unfold insE at hE
  rw [hr, if_pos rfl] at hE
  split at hE
  · rename_i h1
    split at hE
    · rename_i h2
      unfold roomN at h2
      have := h.low
      split at h2 <;> split <;> omega
    · omega
  · omega

/-- the page behind an insert -/
theorem ins_view {P l : List UInt8} (hP : P.length = 1024) (h : RightV P) (hE : insE P l.length = 0) :
    (insP P l).length = 1024 ∧ num2 (insP P l) 14 = (if emptyN P (num2 P 14) = num2 P 14 then num2 P 14 + 1 else num2 P 14) ∧ num2 (insP P l) 16 = num2 P 16 - l.length ∧
    slotA (insP P l) (emptyN P (num2 P 14)) = num2 P 16 - l.length ∧ slotS (insP P l) (emptyN P (num2 P 14)) = l.length ∧ itemL (insP P l) (emptyN P (num2 P 14)) = l ∧
    (∀ k, k < num2 P 14 → k ≠ emptyN P (num2 P 14) → slotA (insP P l) k = slotA P k ∧ slotS (insP P l) k = slotS P k) ∧
    (∀ k, k < num2 P 14 → slotS P k ≠ 0 → itemL (insP P l) k = itemL P k) := by
  obtain ⟨h1, h2, h3⟩ := ins_room h hE
  have hb := h.high
  have hle := emptyN_le P (num2 P 14)
  have hhole := emptyN_hole P (num2 P 14)
  unfold insP insS
  generalize emptyN P (num2 P 14) = n at *
  have hm : ∀ X : List UInt8, X = (if n = num2 P 14 then set2 P 14 (n + 1) else P) → X.length = 1024 ∧ num2 X 14 = (if n = num2 P 14 then num2 P 14 + 1 else num2 P 14) ∧ num2 X 16 = num2 P 16 ∧ (∀ k, 18 + 4 * k + 4 ≤ 1024 → slotA X k = slotA P k ∧ slotS X k = slotS P k) ∧ (∀ a s, 18 ≤ a → a + s ≤ 1024 → seg X a s = seg P a s) := by
    rintro X rfl
    split
    · rename_i hn
      refine ⟨set2_length _ _ _ hP (by omega), ?_, ?_, fun k hk => slot_set2 hP (by omega) hk, fun a s ha hs => seg_set2 hP (by omega) hs (by omega)⟩
      · rw [num2_set2 (by omega) (by rw [if_pos hn] at h3; omega), hn]
      · rw [num2_set2_far (by omega) (by omega) (by omega)]
    · exact ⟨hP, rfl, rfl, fun k hk => ⟨rfl, rfl⟩, fun a s ha hs => rfl⟩
  obtain ⟨x1, x2, x3, x4, x5⟩ := hm _ rfl
  generalize (if n = num2 P 14 then set2 P 14 (n + 1) else P) = X at *
  have hn4 : 18 + 4 * n + 4 + l.length ≤ num2 P 16 := by split at h3 <;> omega
  generalize ha : num2 P 16 - l.length = a at *
  have y1 := point2_length X n a l.length x1 (by omega)
  have ysl := fun k (hk : 18 + 4 * k + 4 ≤ 1024) => slot_point2 (x := a) (y := l.length) x1 (n := n) (by omega) hk (by omega) (by omega)
  have yn := fun q (hq : q ≤ 16) => num2_point2 (x := a) (y := l.length) x1 (n := n) (by omega) hq
  have yseg := fun p s (hp : p + s ≤ 1024) (hf : p + s ≤ 18 + 4 * n ∨ 18 + 4 * n + 4 ≤ p) => seg_point2 (x := a) (y := l.length) x1 (n := n) (by omega) hp hf
  generalize point2 X n a l.length = Y at *
  have z1 := set2_length Y 16 a y1 (by omega)
  have zsl := fun k (hk : 18 + 4 * k + 4 ≤ 1024) => slot_set2 (n := a) (a := 16) y1 (by omega) hk
  have z14 : num2 (set2 Y 16 a) 14 = num2 Y 14 := num2_set2_far (by omega) (by omega) (by omega)
  have z16 : num2 (set2 Y 16 a) 16 = a := num2_set2 (by omega) (by omega)
  have zseg := fun p s (hp : p + s ≤ 1024) (hf : p + s ≤ 16 ∨ 18 ≤ p) => seg_set2 (n := a) (o := 16) y1 (by omega) hp hf
  generalize set2 Y 16 a = Z at *
  have hfit : a + l.length ≤ 1024 := by omega
  have osl := fun k (hk : 18 + 4 * k + 4 ≤ a) => slot_over (l := l) z1 hfit (.inl hk)
  have hmk : ∀ k, k < num2 P 14 → 18 + 4 * k + 4 ≤ a := fun k hk => by split at h3 <;> omega
  refine ⟨by rw [over_length _ _ _ (by omega), z1], ?_, ?_, ?_, ?_, ?_, ?_, ?_⟩
  · rw [num2_over_far (by omega) (by omega) (by omega), z14, yn _ (by omega), x2]
  · rw [num2_over_far (by omega) (by omega) (by omega), z16]
  · rw [(osl n (by omega)).1, (zsl n (by omega)).1, (ysl n (by omega)).1, if_pos rfl]
  · rw [(osl n (by omega)).2, (zsl n (by omega)).2, (ysl n (by omega)).2, if_pos rfl]
  · rw [itemL_seg, (osl n (by omega)).1, (osl n (by omega)).2, (zsl n (by omega)).1, (zsl n (by omega)).2, (ysl n (by omega)).1, (ysl n (by omega)).2, if_pos rfl, if_pos rfl]
    exact seg_over_in z1 hfit
  · intro k hk hkn
    have hk4 := hmk k hk
    rw [(osl k hk4).1, (osl k hk4).2, (zsl k (by omega)).1, (zsl k (by omega)).2, (ysl k (by omega)).1, (ysl k (by omega)).2, if_neg hkn, if_neg hkn]
    exact x4 k (by omega)
  · intro k hk hs
    have hk4 := hmk k hk
    have hkn : k ≠ n := by rintro rfl; exact hs (hhole hk)
    obtain ⟨i1, i2, i3, i4⟩ := h.item hk hs
    rw [itemL_seg, (osl k hk4).1, (osl k hk4).2, (zsl k (by omega)).1, (zsl k (by omega)).2, (ysl k (by omega)).1, (ysl k (by omega)).2, if_neg hkn, if_neg hkn, (x4 k (by omega)).1, (x4 k (by omega)).2]
    rw [seg_over_far z1 hfit i4 (by omega), zseg _ _ i4 (by omega), yseg _ _ i4 (by omega), x5 _ _ (by omega) i4]
    rfl

theorem ins_right {P l : List UInt8} (hP : P.length = 1024) (h : RightV P) (hE : insE P l.length = 0) : RightV (insP P l) := by
  obtain ⟨h1, h2, h3⟩ := ins_room h hE
  obtain ⟨v1, v2, v3, v4, v5, v6, v7, v8⟩ := ins_view hP h hE
  have hle := emptyN_le P (num2 P 14)
  have hb := h.high
  have hfull := fun i hi => emptyN_full P (num2 P 14) i hi
  have hlast := h.last
  generalize emptyN P (num2 P 14) = n at *
  generalize insP P l = R at *
  refine ⟨by rw [v2, v3]; split at h3 <;> (first | rw [if_pos (by assumption)] | rw [if_neg (by assumption)]) <;> omega, by rw [v3]; omega, fun k hk => ?_, ?_⟩
  · rw [v2] at hk
    by_cases hkn : k = n
    · subst hkn
      refine .inr ⟨by omega, by omega, by omega, by omega, fun j hj => ?_⟩
      have hjm : j < num2 P 14 := by omega
      obtain ⟨w1, w2⟩ := v7 j hjm (by omega)
      by_cases hs : slotS P j = 0
      · left; omega
      · have := h.item hjm hs
        right; right; omega
    · have hkm : k < num2 P 14 := by split at hk <;> omega
      obtain ⟨w1, w2⟩ := v7 k hkm hkn
      rcases h.ok k hkm with ⟨o1, o2⟩ | ⟨o1, o2, o3, o4, o5⟩
      · exact .inl ⟨by omega, by omega⟩
      · refine .inr ⟨by omega, by omega, by omega, by omega, fun j hj => ?_⟩
        by_cases hjn : j = n
        · subst hjn; right; left; omega
        · obtain ⟨u1, u2⟩ := v7 j (by omega) hjn
          rw [u1, u2, w1, w2]
          exact o5 j hj
  · right
    rw [v2]
    split
    · rename_i hn; subst hn; simpa [v5] using (by omega : l.length ≠ 0)
    · rename_i hn
      by_cases hkn : num2 P 14 - 1 = n
      · rw [hkn, v5]; omega
      · rw [(v7 _ (by omega) hkn).2]
        rcases hlast with hz | hz
        · omega
        · exact hz

/-- the page behind a set -/
theorem set_view {P l : List UInt8} (hP : P.length = 1024) (h : RightV P) {n : Nat} (hn : n < num2 P 14) (hs : slotS P n ≠ 0) (hl : l.length = slotS P n) :
    (over P (slotA P n) l).length = 1024 ∧ (∀ a, a ≤ 16 → num2 (over P (slotA P n) l) a = num2 P a) ∧ (∀ k, k < num2 P 14 → slotA (over P (slotA P n) l) k = slotA P k ∧ slotS (over P (slotA P n) l) k = slotS P k) ∧
    itemL (over P (slotA P n) l) n = l ∧ (∀ k, k < num2 P 14 → k ≠ n → slotS P k ≠ 0 → itemL (over P (slotA P n) l) k = itemL P k) := by
  obtain ⟨i1, i2, i3, i4⟩ := h.item hn hs
  have hlow := h.low
  have hfit : slotA P n + l.length ≤ 1024 := by omega
  have hsl : ∀ k, k < num2 P 14 → slotA (over P (slotA P n) l) k = slotA P k ∧ slotS (over P (slotA P n) l) k = slotS P k := fun k hk => slot_over hP hfit (.inl (by omega))
  refine ⟨by rw [over_length _ _ _ (by omega), hP], fun a ha => num2_over_far (by omega) (by omega) (by omega), hsl, ?_, fun k hk hkn hks => ?_⟩
  · rw [itemL_seg, (hsl n hn).1, (hsl n hn).2, ← hl]
    exact seg_over_in hP hfit
  · rw [itemL_seg, (hsl k hk).1, (hsl k hk).2]
    have hd := h.disj hk hn hkn hks hs
    obtain ⟨_, _, _, k4⟩ := h.item hk hks
    rw [seg_over_far hP hfit k4 (by omega)]
    rfl
/-- pages that agree on slots are right, both or none -/
theorem right_same {P R : List UInt8} (h : RightV P) (h14 : num2 R 14 = num2 P 14) (h16 : num2 R 16 = num2 P 16) (hs : ∀ k, k < num2 P 14 → slotA R k = slotA P k ∧ slotS R k = slotS P k) : RightV R := by
  refine ⟨by rw [h14, h16]; exact h.low, by rw [h16]; exact h.high, fun k hk => ?_, ?_⟩
  · rw [h14] at hk
    obtain ⟨w1, w2⟩ := hs k hk
    rcases h.ok k hk with ⟨o1, o2⟩ | ⟨o1, o2, o3, o4, o5⟩
    · exact .inl ⟨by omega, by omega⟩
    · refine .inr ⟨by omega, by omega, by omega, by omega, fun j hj => ?_⟩
      obtain ⟨u1, u2⟩ := hs j (by omega)
      rw [u1, u2, w1, w2]
      exact o5 j hj
  · rw [h14]
    rcases h.last with hz | hz
    · exact .inl hz
    · by_cases hm : num2 P 14 = 0
      · exact .inl hm
      · right; rw [(hs _ (by omega)).2]; exact hz

theorem lastN_spec (P : List UInt8) : ∀ m, (∀ k, lastN P m ≤ k → k < m → slotS P k = 0) ∧ (lastN P m = 0 ∨ slotS P (lastN P m - 1) ≠ 0)
  | 0 => ⟨fun k h1 h2 => by omega, .inl rfl⟩
  | m + 1 => by
    unfold lastN
    split
    · rename_i hz
      obtain ⟨h1, h2⟩ := lastN_spec P m
      refine ⟨fun k a b => ?_, h2⟩
      by_cases hkm : k = m
      · subst hkm; exact hz
      · exact h1 k a (by omega)
    · rename_i hz
      exact ⟨fun k a b => by omega, .inr (by simpa using hz)⟩

/-- the page behind a drop -/
theorem drop_view {P : List UInt8} (hP : P.length = 1024) (h : RightV P) {n : Nat} (hn : n < num2 P 14) :
    (dropP P n).length = 1024 ∧ num2 (dropP P n) 14 = lastN (point2 P n 0 0) (num2 P 14) ∧ num2 (dropP P n) 16 = (if lastN (point2 P n 0 0) (num2 P 14) = 0 then 1024 else num2 P 16) ∧
    (∀ k, k < num2 P 14 → slotA (dropP P n) k = (if k = n then 0 else slotA P k) ∧ slotS (dropP P n) k = (if k = n then 0 else slotS P k)) ∧
    (∀ k, k < num2 P 14 → k ≠ n → slotS P k ≠ 0 → itemL (dropP P n) k = itemL P k) ∧
    (∀ k, lastN (point2 P n 0 0) (num2 P 14) ≤ k → k < num2 P 14 → k ≠ n → slotS P k = 0) ∧
    (lastN (point2 P n 0 0) (num2 P 14) = 0 ∨ (lastN (point2 P n 0 0) (num2 P 14) - 1 ≠ n ∧ slotS P (lastN (point2 P n 0 0) (num2 P 14) - 1) ≠ 0)) := by
  have hlow := h.low
  have hhigh := h.high
  have y1 := point2_length P n 0 0 hP (by omega)
  have ysl := fun k (hk : 18 + 4 * k + 4 ≤ 1024) => slot_point2 (x := 0) (y := 0) hP (n := n) (by omega) hk (by omega) (by omega)
  have yn := fun q (hq : q ≤ 16) => num2_point2 (x := 0) (y := 0) hP (n := n) (by omega) hq
  have yseg := fun p s (hp : p + s ≤ 1024) (hf : p + s ≤ 18 + 4 * n ∨ 18 + 4 * n + 4 ≤ p) => seg_point2 (x := 0) (y := 0) hP (n := n) (by omega) hp hf
  obtain ⟨l1, l2⟩ := lastN_spec (point2 P n 0 0) (num2 P 14)
  have l3 := lastN_le (point2 P n 0 0) (num2 P 14)
  unfold dropP dropS
  generalize point2 P n 0 0 = Y at *
  generalize lastN Y (num2 P 14) = m' at *
  have z1 := set2_length Y 14 m' y1 (by omega)
  have zsl := fun k (hk : 18 + 4 * k + 4 ≤ 1024) => slot_set2 (n := m') (a := 14) y1 (by omega) hk
  have z16 : num2 (set2 Y 14 m') 16 = num2 Y 16 := num2_set2_far (by omega) (by omega) (by omega)
  have z14 : num2 (set2 Y 14 m') 14 = m' := num2_set2 (by omega) (by omega)
  have zseg := fun p s (hp : p + s ≤ 1024) (hf : p + s ≤ 14 ∨ 16 ≤ p) => seg_set2 (n := m') (o := 14) y1 (by omega) hp hf
  generalize set2 Y 14 m' = Z at *
  have hR : ∀ X : List UInt8, X = (if m' = 0 then set2 Z 16 1024 else Z) → X.length = 1024 ∧ num2 X 14 = m' ∧ num2 X 16 = (if m' = 0 then 1024 else num2 P 16) ∧ (∀ k, 18 + 4 * k + 4 ≤ 1024 → slotA X k = slotA Z k ∧ slotS X k = slotS Z k) ∧ (∀ a s, 18 ≤ a → a + s ≤ 1024 → seg X a s = seg Z a s) := by
    rintro X rfl
    split
    · refine ⟨set2_length _ _ _ z1 (by omega), ?_, ?_, fun k hk => slot_set2 z1 (by omega) hk, fun a s ha hs => seg_set2 z1 (by omega) hs (by omega)⟩
      · rw [num2_set2_far (by omega) (by omega) (by omega), z14]
      · rw [num2_set2 (by omega) (by omega)]
    · exact ⟨z1, z14, by rw [z16, yn _ (by omega)], fun k hk => ⟨rfl, rfl⟩, fun a s ha hs => rfl⟩
  obtain ⟨x1, x2, x3, x4, x5⟩ := hR _ rfl
  generalize (if m' = 0 then set2 Z 16 1024 else Z) = X at *
  refine ⟨x1, x2, x3, ?_, ?_, ?_, ?_⟩
  · intro k hk
    rw [(x4 k (by omega)).1, (x4 k (by omega)).2, (zsl k (by omega)).1, (zsl k (by omega)).2]
    exact ysl k (by omega)
  · intro k hk hkn hs
    obtain ⟨i1, i2, i3, i4⟩ := h.item hk hs
    rw [itemL_seg, (x4 k (by omega)).1, (x4 k (by omega)).2, (zsl k (by omega)).1, (zsl k (by omega)).2, (ysl k (by omega)).1, (ysl k (by omega)).2, if_neg hkn, if_neg hkn,
      x5 _ _ (by omega) i4, zseg _ _ i4 (by omega), yseg _ _ i4 (by omega)]
    rfl
  · intro k h1 h2 hkn
    have := l1 k h1 h2
    rw [(ysl k (by omega)).2, if_neg hkn] at this
    exact this
  · rcases l2 with l2 | l2
    · exact .inl l2
    · by_cases hz : m' = 0
      · exact .inl hz
      · right
        rw [(ysl (m' - 1) (by omega)).2] at l2
        split at l2
        · omega
        · exact ⟨by assumption, l2⟩
theorem drop_right {P : List UInt8} (hP : P.length = 1024) (h : RightV P) {n : Nat} (hn : n < num2 P 14) : RightV (dropP P n) := by
  obtain ⟨v1, v2, v3, v4, v5, v6, v7⟩ := drop_view hP h hn
  have l3 := lastN_le (point2 P n 0 0) (num2 P 14)
  have hlow := h.low
  have hhigh := h.high
  generalize lastN (point2 P n 0 0) (num2 P 14) = m' at *
  generalize dropP P n = R at *
  refine ⟨by rw [v2, v3]; split <;> omega, by rw [v3]; split <;> omega, fun k hk => ?_, ?_⟩
  · rw [v2] at hk
    obtain ⟨w1, w2⟩ := v4 k (by omega)
    by_cases hkn : k = n
    · rw [if_pos hkn] at w1 w2; exact .inl ⟨w1, w2⟩
    · rw [if_neg hkn] at w1 w2
      rcases h.ok k (by omega) with ⟨o1, o2⟩ | ⟨o1, o2, o3, o4, o5⟩
      · exact .inl ⟨by omega, by omega⟩
      · refine .inr ⟨by omega, by omega, by rw [v3, if_neg (by omega)]; omega, by omega, fun j hj => ?_⟩
        obtain ⟨u1, u2⟩ := v4 j (by omega)
        by_cases hjn : j = n
        · rw [if_pos hjn] at u2; exact .inl u2
        · rw [if_neg hjn] at u1 u2
          rw [u1, u2, w1, w2]
          exact o5 j hj
  · rw [v2]
    rcases v7 with v7 | ⟨v7, v8⟩
    · exact .inl v7
    · by_cases hz : m' = 0
      · exact .inl hz
      · right; rw [(v4 _ (by omega)).2, if_neg v7]; exact v8

end Go.Proofs.Ytgbfeagoadlhmaa
