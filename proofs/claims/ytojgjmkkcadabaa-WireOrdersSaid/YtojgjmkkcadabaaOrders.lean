/-
  The walk of WireOrders.
-/
import Derived.Test.YtojgjmkkcadabaaKnownA
set_option linter.unusedVariables false
namespace Go.Proofs.Ytojgjmkkcadabaa
open Go.RowKit Pl

theorem bytesLess_irrefl (a : List UInt8) : Op.bytesLess a a = false := by
  induction a with
  | nil => rfl
  | cons x t ih => simp [Op.bytesLess, ih]

theorem num_cons (c : UInt8) (l : List UInt8) : num (c :: l) = c.toNat * 256 ^ l.length + num l := by
  induction l using snoc_ind with
  | h0 => simp [num]
  | h1 l d ih =>
    rw [← List.cons_append, num_snoc, ih, num_snoc, List.length_append, List.length_singleton, Nat.pow_succ]
    rw [Nat.add_mul, Nat.mul_assoc, Nat.add_assoc]

/-- of as many bytes the one ahead writes the lesser number -/
theorem less_num (a b : List UInt8) (h : a.length = b.length) : Op.bytesLess a b = decide (num a < num b) := by
  induction a generalizing b with
  | nil =>
    cases b with
    | nil => rfl
    | cons y t => simp at h
  | cons x a ih =>
    cases b with
    | nil => simp at h
    | cons y b =>
      simp at h
      have ha := num_lt a
      have hb := num_lt b
      rw [Op.bytesLess, ih b h, num_cons, num_cons, h]
      rw [h] at ha
      generalize 256 ^ b.length = P at *
      rw [Bool.eq_iff_iff]
      simp only [Bool.or_eq_true, Bool.and_eq_true, decide_eq_true_eq, beq_iff_eq]
      rw [UInt8.lt_iff_toNat_lt]
      constructor
      · rintro (hlt | ⟨rfl, hlt⟩)
        · have : (x.toNat + 1) * P ≤ y.toNat * P := Nat.mul_le_mul_right _ hlt
          rw [Nat.add_mul] at this
          omega
        · omega
      · intro hlt
        rcases Nat.lt_trichotomy x.toNat y.toNat with h1 | h1 | h1
        · exact .inl h1
        · refine .inr ⟨UInt8.toNat.inj h1, ?_⟩
          rw [h1] at hlt
          omega
        · exfalso
          have : (y.toNat + 1) * P ≤ x.toNat * P := Nat.mul_le_mul_right _ h1
          rw [Nat.add_mul] at this
          omega

set_option maxHeartbeats 4000000 in
set_option maxRecDepth 100000 in
theorem orders_long (A B : Option Addr) (n m c d : Nat) (h : 9000 < n ∨ (n ≤ 9000 ∧ 9000 < m)) (hn : n ≤ 9223372036854775807) (hm : m ≤ 9223372036854775807) (w : World) :
    Calls Try.prog 4 #[.slice A n c, .slice B m d] w fun e w' => e = .returned (.bool true) ∧ Ext w w' := by
  rcases h with h | ⟨h, h'⟩
  all_goals
    go_enter Try.func4, Try.ntmps4
    go_wp2_with (go_at_call 18; refine (known_any _).mono ?_; rintro e w' ⟨rfl, hE⟩)
    go_ret
    exact ⟨rfl, hE⟩

set_option maxHeartbeats 4000000 in
set_option maxRecDepth 100000 in
/-- rows of which one is no number's, or that are not as long -/
theorem orders_unlike (A B : Option Addr) (a b : List UInt8) (c d : Nat) (hn : a.length ≤ 9000) (hm : b.length ≤ 9000) (h : ¬ (1 ≤ a.length ∧ a.length ≤ 8) ∨ a.length ≠ b.length) (w : World) (ha : By w A a) (hb : By w B b) :
    Calls Try.prog 4 #[.slice A a.length c, .slice B b.length d] w fun e w' => e = .returned (.bool true) ∧ Ext w w' := by
  have K1 : Hid (∃ x y : Int, Calls Try.prog 19 #[.slice A a.length c] w (fun e w' => e = .returned (.tuple #[.int .u64 x, .int .i64 y]) ∧ w = w') ∧ ((1 ≤ a.length ∧ a.length ≤ 8 ∧ y = 0) ∨ ((a.length = 0 ∨ 8 < a.length) ∧ x = 0 ∧ y = 2))) := by
    by_cases h : 1 ≤ a.length ∧ a.length ≤ 8
    · exact ⟨_, _, get_yes A a c h.1 h.2 w ha, .inl ⟨h.1, h.2, rfl⟩⟩
    · exact ⟨_, _, get_no A a.length c (by omega) (by omega) w, .inr ⟨by omega, rfl, rfl⟩⟩
  have K2 : Hid (∃ x y : Int, Calls Try.prog 19 #[.slice B b.length d] w (fun e w' => e = .returned (.tuple #[.int .u64 x, .int .i64 y]) ∧ w = w') ∧ ((1 ≤ b.length ∧ b.length ≤ 8 ∧ y = 0) ∨ ((b.length = 0 ∨ 8 < b.length) ∧ x = 0 ∧ y = 2))) := by
    by_cases h : 1 ≤ b.length ∧ b.length ≤ 8
    · exact ⟨_, _, get_yes B b d h.1 h.2 w hb, .inl ⟨h.1, h.2, rfl⟩⟩
    · exact ⟨_, _, get_no B b.length d (by omega) (by omega) w, .inr ⟨by omega, rfl, rfl⟩⟩
  clear ha hb
  generalize a.length = n at *
  generalize b.length = m at *
  obtain ⟨x, y, K1, h1⟩ := K1
  obtain ⟨x', y', K2, h2⟩ := K2
  have H1 := Lib.hid K1
  have H2 := Lib.hid K2
  clear K1 K2
  have hne : ¬ (1 ≤ n ∧ n ≤ 8) ∨ ((n : Int) != (m : Int)) = true := by
    rcases h with h | h
    · exact .inl h
    · exact .inr (by simp; omega)
  clear h
  rcases h1 with ⟨p1, p2, rfl⟩ | ⟨p1 | p1, rfl, rfl⟩ <;> rcases h2 with ⟨q1, q2, rfl⟩ | ⟨q1 | q1, rfl, rfl⟩
  all_goals
    first | (rcases hne with hne | hne; (exfalso; omega)) | (clear hne) 
    try subst p1
    try subst q1
    go_enter Try.func4, Try.ntmps4
    go_wp2_with fail
    refine H1.out.mono ?_
    rintro e w1 ⟨rfl, rfl⟩
    go_wp2_with fail
    refine H2.out.mono ?_
    rintro e w1 ⟨rfl, rfl⟩
    go_wp2_with (first | (go_at_call 17; refine (num_any _ _).mono ?_; rintro e w' ⟨rfl, rfl⟩) | (go_at_call 18; refine (known_any _).mono ?_; rintro e w' ⟨rfl, hE⟩))
    go_ret
    exact ⟨rfl, hE⟩

end Go.Proofs.Ytojgjmkkcadabaa
