
/-
  Contracts of record.forms, isPage, isXid, isNext, rising, unnamed, named, May (by recc.py).
-/
import Derived.Test.YtgbfeagoadlhmaaRecB
import Derived.Test.YtgbfeagoadlhmaaMap
import Derived.Deep.WholeRow
import Derived.Carry
set_option linter.unusedVariables false
set_option linter.unusedSimpArgs false
namespace Go.Proofs.Ytgbfeagoadlhmaa
open Go.RowKit Go.Maps Pl

attribute [local go_sem] Oper.semAt_some

theorem Try.kindKeys : Keyed Try.prog 62 := int_keyed Try.underlying62
theorem key_kind {n : Int} (h1 : -9223372036854775808 ≤ n) (h2 : n ≤ 9223372036854775807) : keyOf Try.prog 62 (.int .i64 n) = some (.int .i64 n) :=
  keyOf_int_mk Try.underlying62 (WalkArith.wf_i64 ⟨h1, h2⟩)
section
variable {P : Program} {k t e : TypeId} {w : World} {b n c : Nat} {F : Lit → Option Value} {z key : Value} {kl : Lit} {ops : Array Oper} {rest : List Oper} {o : Oper} {a : Act} {Q : Exit → Act → World → Prop}
theorem wpList_lay_mp (h : Mp P k w b n F c) (K : Keyed P k) (ht : P.underlying t = some (.map k e)) (hn : n < maxLen) (hg : o.guard = none) (m x v : Operand) (hop : o.op = Op.insert t m x v) (hm : a.eval m = .map (some b)) (hx : a.eval x = key) (hkey : keyOf P k key = some kl) (val : Value) (hv : a.eval v = val)
    (hK : ∀ w', Mp P k w' b (n + 1) (updF F kl (some val)) (if (F kl).isSome then c else c + 1) → w.grownBy w' (some b) → wpList P ops Q rest (a.put o.dst undef) w') : wpList P ops Q (o :: rest) a w := by
  refine wpList_plain hg fun K' hK' => ?_
  obtain ⟨w', hrun, r1, r2⟩ := h.store K ht hn hkey val
  unfold Oper.wp
  simp [execOp, hop, hm, hx, hv, hrun, Result.andThen]
  exact hK' _ _ (hK w' r1 r2.grown)
end
/-- how each kind is written and read -/
def formV (k : Int) : Option Value := if k = 1 then some (.func (.func 89) #[] #[]) else if k = 2 then some (.func (.func 90) #[] #[]) else if k = 3 then some (.func (.func 91) #[] #[]) else if k = 4 then some (.func (.func 91) #[] #[])
  else if k = 5 then some (.func (.func 92) #[] #[]) else if k = 6 then some (.func (.func 93) #[] #[]) else if k = 7 then some (.func (.func 94) #[] #[]) else if k = 8 then some (.func (.func 95) #[] #[]) else none
theorem lit_ne {a b : Int} (h : a ≠ b) : Lit.int .i64 a ≠ Lit.int .i64 b := fun e => by injection e; contradiction

set_option maxHeartbeats 1600000 in
set_option maxRecDepth 100000 in
theorem forms_any (w : World) : Calls Try.prog 71 #[] w fun e w' => ∃ gm F c, e = .returned (.map (some gm)) ∧ Mp Try.prog 62 w' gm 8 F c ∧ (∀ k, F (.int .i64 k) = formV k) ∧ w.heap.size ≤ gm ∧ Ext w w' := by
  have HM0 := Lib.hid (Mp.made w Try.prog 62)
  have HX0 := Lib.hid (ext_fresh w (.map #[] 0))
  have hmm := @run_makeMap Try.prog
  go_enter Try.func71, Try.ntmps71
  go_wp2_with (first | (refine wpList_lay_mp HM0.out Try.kindKeys Try.underlying114 (by unfold maxLen; omega) rfl _ _ _ rfl rfl rfl (key_kind (by decide) (by decide)) _ rfl ?_; intro w1 hM1 hG1; have HM1 := Lib.hid hM1; have HX1 := Lib.hid (HX0.out.grown hG1 (fun k e => by cases e; exact Nat.le_refl _)); clear hM1 hG1 HM0 HX0) | (refine wpList_lay_mp HM1.out Try.kindKeys Try.underlying114 (by unfold maxLen; omega) rfl _ _ _ rfl rfl rfl (key_kind (by decide) (by decide)) _ rfl ?_; intro w2 hM2 hG2; have HM2 := Lib.hid hM2; have HX2 := Lib.hid (HX1.out.grown hG2 (fun k e => by cases e; exact Nat.le_refl _)); clear hM2 hG2 HM1 HX1) | (refine wpList_lay_mp HM2.out Try.kindKeys Try.underlying114 (by unfold maxLen; omega) rfl _ _ _ rfl rfl rfl (key_kind (by decide) (by decide)) _ rfl ?_; intro w3 hM3 hG3; have HM3 := Lib.hid hM3; have HX3 := Lib.hid (HX2.out.grown hG3 (fun k e => by cases e; exact Nat.le_refl _)); clear hM3 hG3 HM2 HX2) | (refine wpList_lay_mp HM3.out Try.kindKeys Try.underlying114 (by unfold maxLen; omega) rfl _ _ _ rfl rfl rfl (key_kind (by decide) (by decide)) _ rfl ?_; intro w4 hM4 hG4; have HM4 := Lib.hid hM4; have HX4 := Lib.hid (HX3.out.grown hG4 (fun k e => by cases e; exact Nat.le_refl _)); clear hM4 hG4 HM3 HX3) | (refine wpList_lay_mp HM4.out Try.kindKeys Try.underlying114 (by unfold maxLen; omega) rfl _ _ _ rfl rfl rfl (key_kind (by decide) (by decide)) _ rfl ?_; intro w5 hM5 hG5; have HM5 := Lib.hid hM5; have HX5 := Lib.hid (HX4.out.grown hG5 (fun k e => by cases e; exact Nat.le_refl _)); clear hM5 hG5 HM4 HX4) | (refine wpList_lay_mp HM5.out Try.kindKeys Try.underlying114 (by unfold maxLen; omega) rfl _ _ _ rfl rfl rfl (key_kind (by decide) (by decide)) _ rfl ?_; intro w6 hM6 hG6; have HM6 := Lib.hid hM6; have HX6 := Lib.hid (HX5.out.grown hG6 (fun k e => by cases e; exact Nat.le_refl _)); clear hM6 hG6 HM5 HX5) | (refine wpList_lay_mp HM6.out Try.kindKeys Try.underlying114 (by unfold maxLen; omega) rfl _ _ _ rfl rfl rfl (key_kind (by decide) (by decide)) _ rfl ?_; intro w7 hM7 hG7; have HM7 := Lib.hid hM7; have HX7 := Lib.hid (HX6.out.grown hG7 (fun k e => by cases e; exact Nat.le_refl _)); clear hM7 hG7 HM6 HX6) | (refine wpList_lay_mp HM7.out Try.kindKeys Try.underlying114 (by unfold maxLen; omega) rfl _ _ _ rfl rfl rfl (key_kind (by decide) (by decide)) _ rfl ?_; intro w8 hM8 hG8; have HM8 := Lib.hid hM8; have HX8 := Lib.hid (HX7.out.grown hG8 (fun k e => by cases e; exact Nat.le_refl _)); clear hM8 hG8 HM7 HX7))
  go_ret
  refine ⟨w.heap.size, rfl, _, ⟨_, HM8.out⟩, fun k => ?_, Nat.le_refl _, ?_⟩
  · unfold formV
    by_cases h1 : k = 1
    · subst h1; rw [updF_other _ _ (lit_ne (show (1 : Int) ≠ 8 by decide)), updF_other _ _ (lit_ne (show (1 : Int) ≠ 7 by decide)), updF_other _ _ (lit_ne (show (1 : Int) ≠ 6 by decide)), updF_other _ _ (lit_ne (show (1 : Int) ≠ 5 by decide)), updF_other _ _ (lit_ne (show (1 : Int) ≠ 4 by decide)), updF_other _ _ (lit_ne (show (1 : Int) ≠ 3 by decide)), updF_other _ _ (lit_ne (show (1 : Int) ≠ 2 by decide)), updF_same]; rfl
    by_cases h2 : k = 2
    · subst h2; rw [updF_other _ _ (lit_ne (show (2 : Int) ≠ 8 by decide)), updF_other _ _ (lit_ne (show (2 : Int) ≠ 7 by decide)), updF_other _ _ (lit_ne (show (2 : Int) ≠ 6 by decide)), updF_other _ _ (lit_ne (show (2 : Int) ≠ 5 by decide)), updF_other _ _ (lit_ne (show (2 : Int) ≠ 4 by decide)), updF_other _ _ (lit_ne (show (2 : Int) ≠ 3 by decide)), updF_same]; rfl
    by_cases h3 : k = 3
    · subst h3; rw [updF_other _ _ (lit_ne (show (3 : Int) ≠ 8 by decide)), updF_other _ _ (lit_ne (show (3 : Int) ≠ 7 by decide)), updF_other _ _ (lit_ne (show (3 : Int) ≠ 6 by decide)), updF_other _ _ (lit_ne (show (3 : Int) ≠ 5 by decide)), updF_other _ _ (lit_ne (show (3 : Int) ≠ 4 by decide)), updF_same]; rfl
    by_cases h4 : k = 4
    · subst h4; rw [updF_other _ _ (lit_ne (show (4 : Int) ≠ 8 by decide)), updF_other _ _ (lit_ne (show (4 : Int) ≠ 7 by decide)), updF_other _ _ (lit_ne (show (4 : Int) ≠ 6 by decide)), updF_other _ _ (lit_ne (show (4 : Int) ≠ 5 by decide)), updF_same]; rfl
    by_cases h5 : k = 5
    · subst h5; rw [updF_other _ _ (lit_ne (show (5 : Int) ≠ 8 by decide)), updF_other _ _ (lit_ne (show (5 : Int) ≠ 7 by decide)), updF_other _ _ (lit_ne (show (5 : Int) ≠ 6 by decide)), updF_same]; rfl
    by_cases h6 : k = 6
    · subst h6; rw [updF_other _ _ (lit_ne (show (6 : Int) ≠ 8 by decide)), updF_other _ _ (lit_ne (show (6 : Int) ≠ 7 by decide)), updF_same]; rfl
    by_cases h7 : k = 7
    · subst h7; rw [updF_other _ _ (lit_ne (show (7 : Int) ≠ 8 by decide)), updF_same]; rfl
    by_cases h8 : k = 8
    · subst h8; rw [updF_same]; rfl
    rw [if_neg h1, if_neg h2, if_neg h3, if_neg h4, if_neg h5, if_neg h6, if_neg h7, if_neg h8]
    rw [updF_other _ _ (lit_ne h8), updF_other _ _ (lit_ne h7), updF_other _ _ (lit_ne h6), updF_other _ _ (lit_ne h5), updF_other _ _ (lit_ne h4), updF_other _ _ (lit_ne h3), updF_other _ _ (lit_ne h2), updF_other _ _ (lit_ne h1)]
  · exact HX8.out

theorem isPage_any (w : World) (n : Int) : Calls Try.prog 102 #[.int .i64 n] w fun e w' => e = .returned (.bool (decide (0 ≤ n) && decide (n < 128))) ∧ w = w' := by
  by_cases h1 : 0 ≤ n
  · have d1 : decide ((0 : Int) ≤ n) = true := decide_eq_true (by omega)
    have e2 : decide (n < 128) = decide (n < 128) := by
      by_cases h : n < 128
      · first | rw [decide_eq_true h, decide_eq_true (by omega)] | rw [decide_eq_true h]
      · first | rw [decide_eq_false h, decide_eq_false (by omega)] | rw [decide_eq_false h]
    rw [decide_eq_true h1, Bool.true_and, ← e2]
    clear h1 e2
    go_enter Try.func102, Try.ntmps102
    go_wp2_with fail
    go_ret
    exact ⟨by simp, rfl⟩
  · have d1 : decide ((0 : Int) ≤ n) = false := decide_eq_false (by omega)
    rw [decide_eq_false h1, Bool.false_and]
    clear h1
    go_enter Try.func102, Try.ntmps102
    go_wp2_with fail
    go_ret
    exact ⟨rfl, rfl⟩

theorem isXid_any (w : World) (n : Nat) : Calls Try.prog 103 #[.int .u64 (n : Int)] w fun e w' => e = .returned (.bool (decide (1 ≤ n) && decide (n ≤ 4000))) ∧ w = w' := by
  by_cases h1 : 1 ≤ n
  · have d1 : decide ((1 : Int) ≤ (n : Int)) = true := decide_eq_true (by omega)
    have d0 : decide (0 < n) = true := decide_eq_true (by omega)
    have e2 : decide ((n : Int) ≤ 4000) = decide (n ≤ 4000) := by
      by_cases h : n ≤ 4000
      · first | rw [decide_eq_true h, decide_eq_true (by omega)] | rw [decide_eq_true h]
      · first | rw [decide_eq_false h, decide_eq_false (by omega)] | rw [decide_eq_false h]
    rw [decide_eq_true h1, Bool.true_and, ← e2]
    clear h1 e2
    go_enter Try.func103, Try.ntmps103
    go_wp2_with fail
    go_ret
    exact ⟨by simp, rfl⟩
  · have d1 : decide ((1 : Int) ≤ (n : Int)) = false := decide_eq_false (by omega)
    have d0 : decide (0 < n) = false := decide_eq_false (by omega)
    rw [decide_eq_false h1, Bool.false_and]
    clear h1
    go_enter Try.func103, Try.ntmps103
    go_wp2_with fail
    go_ret
    exact ⟨rfl, rfl⟩

theorem isNext_any (w : World) (n : Nat) : Calls Try.prog 105 #[.int .u64 (n : Int)] w fun e w' => e = .returned (.bool (decide (1 ≤ n) && decide (n ≤ 4001))) ∧ w = w' := by
  by_cases h1 : 1 ≤ n
  · have d1 : decide ((1 : Int) ≤ (n : Int)) = true := decide_eq_true (by omega)
    have d0 : decide (0 < n) = true := decide_eq_true (by omega)
    have e2 : decide ((n : Int) ≤ 4001) = decide (n ≤ 4001) := by
      by_cases h : n ≤ 4001
      · first | rw [decide_eq_true h, decide_eq_true (by omega)] | rw [decide_eq_true h]
      · first | rw [decide_eq_false h, decide_eq_false (by omega)] | rw [decide_eq_false h]
    rw [decide_eq_true h1, Bool.true_and, ← e2]
    clear h1 e2
    go_enter Try.func105, Try.ntmps105
    go_wp2_with fail
    go_ret
    exact ⟨by simp, rfl⟩
  · have d1 : decide ((1 : Int) ≤ (n : Int)) = false := decide_eq_false (by omega)
    have d0 : decide (0 < n) = false := decide_eq_false (by omega)
    rw [decide_eq_false h1, Bool.false_and]
    clear h1
    go_enter Try.func105, Try.ntmps105
    go_wp2_with fail
    go_ret
    exact ⟨rfl, rfl⟩

/-- do numbers rise, from above one to below another one? -/
def risingB : List Nat → Nat → Nat → Bool
  | [], _, _ => true
  | x :: l, above, below => if x ≤ above ∨ below ≤ x then false else risingB l x below
theorem rising_step {u : List Nat} {k a b : Nat} (h : k < u.length) : risingB (u.drop k) a b = if u.getD k 0 ≤ a ∨ b ≤ u.getD k 0 then false else risingB (u.drop (k + 1)) (u.getD k 0) b := by
  rw [List.drop_eq_getElem_cons h]
  simp [risingB, List.getD_eq_getElem?_getD, h]

set_option maxHeartbeats 1600000 in
set_option maxRecDepth 100000 in
theorem rising_any (w : World) (S : Option Addr) (u : List Nat) (c a b : Nat) (hN : Nums w S u) (hl : u.length ≤ 2 ^ 62) (ha : a < 18446744073709551616) (hb : b < 18446744073709551616) :
    Calls Try.prog 104 #[.slice S u.length c, .int .u64 (a : Int), .int .u64 (b : Int)] w fun e w' => e = .returned (.bool (risingB u a b)) ∧ w = w' := by
  have HN := Lib.hid hN
  have HST := Lib.hid (fun k a (h : k < u.length) => rising_step (a := a) (b := b) h)
  have HE : Hid (∀ a, risingB (u.drop u.length) a b = true) := Lib.hid (fun a => by rw [List.drop_length]; rfl)
  have H0 : Hid (risingB u a b = risingB (u.drop 0) a b) := Lib.hid rfl
  obtain ⟨r, hr⟩ : ∃ r, risingB u a b = r := ⟨_, rfl⟩
  rw [hr] at H0 ⊢
  clear hN hr
  generalize hn : u.length = n at *
  have HLL := Lib.hid hn
  clear hn
  go_enter Try.func104, Try.ntmps104
  go_wp2_with fail
  go_loopw [1, 11] (fun s q wr => ∃ k a' : Nat, k ≤ n ∧ q = .int .i64 (k : Int) ∧ s = .int .u64 (a' : Int) ∧ r = risingB (u.drop k) a' b ∧ w = wr) (fun _ q _ => n - (intOf q).toNat)
  case atStart => exact ⟨0, a, Nat.zero_le _, rfl, rfl, H0.out, rfl⟩
  case round =>
    obtain ⟨k, a', hk, rfl, rfl, hrr, rfl⟩ := hrel
    have HR := Lib.hid hrr
    clear hrr H0
    by_cases hkn : k < n
    · have dk : decide ((k : Int) < (n : Int)) = true := decide_eq_true (by omega)
      obtain ⟨g, o, rfl, x⟩ := HN.out.at_ (i := k) (by rw [HLL.out]; exact hkn)
      have HS := Lib.hid (HST.out k a' hkn)
      obtain ⟨y, hy⟩ : ∃ y, u.getD k 0 = y := ⟨_, rfl⟩
      rw [hy] at HS x
      clear hy
      by_cases h1 : y ≤ a'
      · have d1 : decide (y ≤ a') = true := decide_eq_true (by omega)
        have HF : Hid (r = false) := Lib.hid (by rw [HR.out, HS.out, if_pos (.inl h1)])
        clear h1
        go_wp2_with fail
        go_ret
        exact ⟨by rw [HF.out]; rfl, rfl⟩
      · have d1 : decide (y ≤ a') = false := decide_eq_false (by omega)
        by_cases h2 : b ≤ y
        · have d2 : decide (b ≤ y) = true := decide_eq_true (by omega)
          have HF : Hid (r = false) := Lib.hid (by rw [HR.out, HS.out, if_pos (.inr h2)])
          clear h1 h2
          go_wp2_with fail
          go_ret
          exact ⟨by rw [HF.out]; rfl, rfl⟩
        · have d2 : decide (b ≤ y) = false := decide_eq_false (by omega)
          have HT : Hid (r = risingB (u.drop (k + 1)) y b) := Lib.hid (by rw [HR.out, HS.out, if_neg (by omega)])
          clear h1 h2
          go_wp2_with fail
          exact ⟨⟨k + 1, y, by omega, by go_num, rfl, HT.out, by trivial⟩, by simp [intOf]; omega⟩
    · obtain rfl : k = n := by omega
      have dk : decide ((k : Int) < (k : Int)) = false := by simp
      have HT : Hid (r = true) := Lib.hid (by rw [HR.out, HE.out])
      go_wp2_with fail
      go_ret
      exact ⟨by rw [HT.out]; rfl, rfl⟩

end Go.Proofs.Ytgbfeagoadlhmaa
