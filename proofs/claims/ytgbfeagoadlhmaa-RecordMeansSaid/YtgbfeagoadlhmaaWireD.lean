
/-
  Contracts of the reference's Put and Get.
-/
import Derived.Test.YtgbfeagoadlhmaaWireC
import Derived.Test.YtgbfeagoadlhmaaOwn
set_option linter.unusedVariables false
set_option linter.unusedSimpArgs false
namespace Go.Proofs.Ytgbfeagoadlhmaa
open Go.RowKit Pl

theorem Try.byt : Byt Try.prog 24 5 := ⟨Try.underlying24, Try.info8⟩

theorem weight_int (a : Int) (h0 : 0 ≤ a) (h7 : a ≤ 7) (w : World) : Calls Try.prog 100 #[.int .i64 a] w fun e w' => e = .returned (.int .u64 (wt a.toNat)) ∧ w = w' := by
  obtain ⟨k, rfl⟩ := Int.eq_ofNat_of_zero_le h0
  rw [Int.toNat_natCast]
  exact weight_any k (by omega) w

/-- what is left of the number when j bytes have been laid -/
def restI (n k j : Nat) : Int := ((n % 256 ^ (k - j) : Nat) : Int)
theorem restI_lo (n k j : Nat) : 0 ≤ restI n k j := by unfold restI; omega
theorem restI_hi (n k j : Nat) (h : n < 18446744073709551616) : restI n k j ≤ 18446744073709551615 := by
  unfold restI
  have := Nat.mod_le n (256 ^ (k - j))
  omega
theorem restI_step (n k j : Nat) (h : j < k) : restI n k j % wt (k - 1 - j) = restI n k (j + 1) := by
  unfold restI wt
  have e : k - (j + 1) = k - 1 - j := by omega
  rw [e]
  have hd : (256 : Nat) ^ (k - 1 - j) ∣ 256 ^ (k - j) := Nat.pow_dvd_pow _ (by omega)
  rw [← Int.natCast_emod, Nat.mod_mod_of_dvd _ hd]
theorem put_byte (n k j : Nat) (h : j < k) : Value.int .u8 (restI n k j / wt (k - 1 - j) % 256) = u8 ((put n k).getD j 0) := by
  rw [put_get n k j h, u8, UInt8.toNat_ofNat']
  unfold restI wt
  congr 1
  rw [← Int.natCast_ediv]
  have e : k - j = (k - 1 - j) + 1 := by omega
  rw [e, Nat.pow_succ, Nat.mod_mul_right_div_self]
  omega

set_option maxHeartbeats 800000 in
theorem rput_any (n k : Nat) (hn : n < 256 ^ k) (h8 : k ≤ 8) (w : World) :
    Calls Try.prog 86 #[.int .u64 n, .int .i64 k] w fun e w' => ∃ A c, e = .returned (.slice A k c) ∧ By w' A (put n k) ∧ k ≤ c ∧ Ext w w' := by
  have hlt : n < 18446744073709551616 := Nat.lt_of_lt_of_le hn (Nat.le_trans (Nat.pow_le_pow_right (by decide) h8) (by decide))
  have hr0 : (n : Int) = restI n k 0 := by unfold restI; rw [Nat.sub_zero, Nat.mod_eq_of_lt hn]
  have HR := Lib.hid hr0
  clear hr0 hn
  go_enter Try.func86, Try.ntmps86
  go_wp2
  go_loopw [0, 5, 6] (fun x v i wr => ∃ j : Nat, j ≤ k ∧ i = .int .i64 j ∧ x = .int .u64 (restI n k j) ∧ Own 5 wr w.heap.size v ((put n k).take j) ∧ Ext w wr) (fun _ _ i _ => k - (intOf i).toNat)
  case atStart => exact ⟨0, Nat.zero_le _, rfl, by rw [HR.out], by rw [List.take_zero]; exact Own.nil _ _ _, Ext.refl _⟩
  case round =>
    obtain ⟨j, hj, rfl, rfl, hO, hE⟩ := hrel
    by_cases hlt2 : j < k
    · have b1 := restI_lo n k j
      have b2 := restI_hi n k j hlt
      have b3 := wt_pos (k - 1 - j)
      have b4 := wt_le (k - 1 - j) (by omega)
      go_wp2_with fail
      refine (weight_int _ (by omega) (by omega) _).mono ?_
      rintro e w1 ⟨rfl, rfl⟩
      rw [show ((k : Int) - 1 - (j : Int)).toNat = k - 1 - j by omega]
      have HB := Lib.hid (put_byte n k j hlt2)
      have HS := Lib.hid (restI_step n k j hlt2)
      have hbound : ((put n k).take j).length + 1 ≤ 70368744177664 := by rw [List.length_take, put_length]; omega
      go_wp2_with (at_builtin; refine wpList_append8 Try.byt rfl _ _ rfl rfl (hO.alloc _) _ _ _ rfl [(put n k).getD j 0] ?c1 rfl hbound ?c2 ?_)
      case c1 => rw [HB.out]; exact By.one _ _ _
      case c2 => have := hE.size; simp; omega
      intro v' w1 hO' hg hl
      have hE' : Ext w w1 := (hE.alloc _).grown hg (fun k hk => (hO.lt k hk).1)
      go_wp2
      refine ⟨⟨j + 1, by omega, by go_num, by rw [HS.out], ?_, hE'⟩, by simp [intOf]; omega⟩
      rw [at8_take _ _ (by rw [put_length]; exact hlt2)]
      exact hO'
    · obtain rfl : j = k := by omega
      obtain ⟨A, c, rfl, hby, hlc, _⟩ := hO.form
      go_wp2
      go_ret
      have e : (put n j).take j = put n j := List.take_of_length_le (by rw [put_length]; omega)
      rw [e] at hby hlc
      exact ⟨A, c, by rw [e, put_length]; rfl, hby, by rwa [put_length] at hlc, hE⟩

end Go.Proofs.Ytgbfeagoadlhmaa
