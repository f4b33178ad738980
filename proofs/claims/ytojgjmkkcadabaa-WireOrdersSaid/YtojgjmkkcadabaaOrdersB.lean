/-
  The walk of WireOrders: rows of as many bytes, 1 to 8.
-/
import Derived.Test.YtojgjmkkcadabaaOrders
set_option linter.unusedVariables false
namespace Go.Proofs.Ytojgjmkkcadabaa
open Go.RowKit Pl

set_option maxHeartbeats 4000000 in
set_option maxRecDepth 100000 in
theorem orders_like (A B : Option Addr) (a b : List UInt8) (c d : Nat) (h1 : 1 ≤ a.length) (h8 : a.length ≤ 8) (hab : b.length = a.length) (w : World) (ha : By w A a) (hb : By w B b) :
    Calls Try.prog 4 #[.slice A a.length c, .slice B b.length d] w fun e w' => e = .returned (.bool true) ∧ Ext w w' := by
  have K1 := Lib.hid (get_yes A a c h1 h8 w ha)
  have K2 := Lib.hid (get_yes B b d (by omega) (by omega) w hb)
  have K3 := fun W (h : Ext w W) => rget_any A a c h8 W (ha.ext h)
  have K4 := fun W (h : Ext w W) => rget_any B b d (by omega) W (hb.ext h)
  have S1 := fun W (h : Ext w W) => str_any (ha.ext h) c
  have S2 := fun W (h : Ext w W) => str_any (hb.ext h) d
  have q1 : Op.bytesLess a b = decide (num a < num b) := less_num a b hab.symm
  have q2 : (a == b) = (decide (num a = num b)) := by
    rw [Bool.eq_iff_iff]
    simp only [beq_iff_eq, decide_eq_true_eq]
    exact ⟨fun h => by rw [h], fun h => num_inj hab.symm h⟩
  have H3 := Lib.hid K3
  have H4 := Lib.hid K4
  have HS1 := Lib.hid S1
  have HS2 := Lib.hid S2
  have Q1 := Lib.hid q1
  have Q2 := Lib.hid q2
  clear K3 K4 S1 S2 ha hb q1 q2
  rw [hab] at *
  generalize a.length = n at *
  clear hab
  generalize hx : num a = x at *
  generalize hy : num b = y at *
  go_enter Try.func4, Try.ntmps4
  go_wp2_with fail
  refine K1.out.mono ?_
  rintro e w1 ⟨rfl, rfl⟩
  go_wp2_with fail
  refine K2.out.mono ?_
  rintro e w1 ⟨rfl, rfl⟩
  go_wp2_with (first | (go_at_call 17; refine (num_any _ _).mono ?_; rintro e w' ⟨rfl, rfl⟩))
  refine (H3.out _ (Ext.refl _)).mono ?_
  rintro e w3 ⟨rfl, hE3⟩
  go_wp2_with fail
  refine (H4.out _ hE3).mono ?_
  rintro e w4 ⟨rfl, hE4⟩
  have hE04 := hE3.trans hE4
  have s1 := HS1.out _ hE04
  have s2 := HS2.out _ hE04
  have r1 := Q1.out
  have r2 : ((x : Int) == (y : Int)) = (a == b) := by
    rw [Q2.out, Bool.eq_iff_iff]
    simp only [beq_iff_eq, decide_eq_true_eq]
    omega
  go_wp2_with (first | (go_at_call 18; refine (known_any _).mono ?_; rintro e w' ⟨rfl, hE⟩))
  go_ret
  exact ⟨rfl, hE04.trans hE⟩

theorem orders_any {w : World} (A B : Option Addr) (a b : List UInt8) (c d : Nat) (ha : By w A a) (hb : By w B b) (hc : a.length ≤ c) (hd : b.length ≤ d) (hc' : c ≤ 9223372036854775807) (hd' : d ≤ 9223372036854775807) :
    Calls Try.prog 4 #[.slice A a.length c, .slice B b.length d] w fun e w' => e = .returned (.bool true) ∧ Ext w w' := by
  by_cases h1 : 9000 < a.length
  · exact orders_long A B _ _ c d (.inl h1) (by omega) (by omega) w
  by_cases h2 : 9000 < b.length
  · exact orders_long A B _ _ c d (.inr ⟨by omega, h2⟩) (by omega) (by omega) w
  by_cases h3 : (1 ≤ a.length ∧ a.length ≤ 8) ∧ a.length = b.length
  · exact orders_like A B a b c d h3.1.1 h3.1.2 h3.2.symm w ha hb
  · exact orders_unlike A B a b c d (by omega) (by omega) (by omega) w ha hb

end Go.Proofs.Ytojgjmkkcadabaa
