
/-
  Contracts of law04.num, ref04.Same.
-/
import Derived.Test.YtahooohokdbnpaaNetJ
set_option linter.unusedVariables false
set_option linter.unusedSimpArgs false
namespace Go.Proofs.Ytahooohokdbnpaa
open Go.RowKit Go.Shelf Go.Maps Pl

attribute [local go_sem] Oper.semAt_some

theorem num4_any (w : World) (n : Int) : Calls Try.prog 13 #[.int .i64 n] w fun e w' => e = .returned (.int .i64 n) ∧ w = w' := by
  go_enter Try.func13, Try.ntmps13
  go_wp2_with fail
  go_ret
  exact ⟨rfl, rfl⟩

theorem str_any {w : World} {A : Option Addr} {l : List UInt8} (h : By w A l) (c : Nat) : (convert 36 9 (.slice A l.length c)).run Try.prog w = .ok (.string ⟨l.toArray⟩) w :=
  run_string h _ _ _ Try.underlying36 Try.underlying5 Try.underlying9 c
/-- are two flights the same? -/
def sameZ (a b : Int) (l : List UInt8) (c d : Int) (m : List UInt8) : Bool := decide (a = c) && (decide (b = d) && (l == m))
set_option maxRecDepth 100000 in
theorem Same_by (w : World) (a b c d : Int) (Aa Ab : Option Addr) (ca cb : Nat) (la lb : List UInt8) (hya : By w Aa la) (hyb : By w Ab lb) :
    Calls Try.prog 18 #[.agg #[.int .i64 a, .int .i64 b, .slice Aa la.length ca], .agg #[.int .i64 c, .int .i64 d, .slice Ab lb.length cb]] w fun e w' => e = .returned (.bool (sameZ a b la c d lb)) ∧ Ext w w' := by
  have HX := Lib.hid ((ext_new w (.cells #[.int .i64 a, .int .i64 b, .slice Aa la.length ca] 45)).alloc (.cells #[.int .i64 c, .int .i64 d, .slice Ab lb.length cb] 45))
  have hsa := str_any (hya.ext HX.out) ca
  have hsb := str_any (hyb.ext HX.out) cb
  have HS : Hid (sameZ a b la c d lb = (decide (a = c) && (decide (b = d) && (la == lb)))) := Lib.hid rfl
  clear hya hyb
  by_cases h1 : a = c
  · have d1 : (a == c) = true := by rw [beq_iff_eq]; exact h1
    rw [decide_eq_true h1, Bool.true_and] at HS
    clear h1
    by_cases h2 : b = d
    · have d2 : (b == d) = true := by rw [beq_iff_eq]; exact h2
      rw [decide_eq_true h2, Bool.true_and] at HS
      clear h2
      rw [HS.out]
      go_enter Try.func18, Try.ntmps18
      go_wp2_with fail
      go_ret
      exact ⟨rfl, HX.out⟩
    · have d2 : (b == d) = false := by rw [beq_eq_false_iff_ne]; exact h2
      rw [decide_eq_false h2, Bool.false_and] at HS
      clear h2
      rw [HS.out]
      go_enter Try.func18, Try.ntmps18
      go_wp2_with fail
      go_ret
      exact ⟨rfl, HX.out⟩
  · have d1 : (a == c) = false := by rw [beq_eq_false_iff_ne]; exact h1
    rw [decide_eq_false h1, Bool.false_and] at HS
    clear h1
    rw [HS.out]
    go_enter Try.func18, Try.ntmps18
    go_wp2_with fail
    go_ret
    exact ⟨rfl, HX.out⟩

theorem Same_any (w : World) (a b c d : Int) (va vb : Value) (la lb : List UInt8) (ha : Bs 5 w va la) (hb : Bs 5 w vb lb) :
    Calls Try.prog 18 #[.agg #[.int .i64 a, .int .i64 b, va], .agg #[.int .i64 c, .int .i64 d, vb]] w fun e w' => e = .returned (.bool (sameZ a b la c d lb)) ∧ Ext w w' := by
  obtain ⟨Aa, ca, rfl, hya, _, _⟩ := ha.by_
  obtain ⟨Ab, cb, rfl, hyb, _, _⟩ := hb.by_
  exact Same_by w a b c d Aa Ab ca cb la lb hya hyb

end Go.Proofs.Ytahooohokdbnpaa
