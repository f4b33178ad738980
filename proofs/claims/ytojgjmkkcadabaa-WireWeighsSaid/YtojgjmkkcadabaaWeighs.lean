/-
  The walk of WireWeighs: for any number and any size the law returns true.
-/
import Derived.Test.YtojgjmkkcadabaaKnownA
import Derived.Test.YtojgjmkkcadabaaEager
import Derived.Deep.RegionHeld3
import Derived.Deep.RegionWith
set_option linter.unusedVariables false
namespace Go.Proofs.Ytojgjmkkcadabaa
open Go.RowKit Pl

set_option maxHeartbeats 2000000 in
set_option maxRecDepth 100000 in
theorem weighs_no (n : Nat) (hn : n < 18446744073709551616) (size : Int) (h : roomB n size = false) (w : World) :
    Calls Try.prog 3 #[.int .u64 n, .int .i64 size] w fun e w' => e = .returned (.bool true) ∧ Ext w w' := by
  have K1 := Lib.hid (put_no n hn size h)
  have K2 := Lib.hid (room_any n hn size)
  have H := Lib.hid h
  clear h
  go_enter Try.func3, Try.ntmps3
  go_wp2_with fail
  refine (K1.out w).mono ?_
  rintro e w1 ⟨rfl, rfl⟩
  go_wp2_with fail
  refine (K2.out w).mono ?_
  rintro e w1 ⟨rfl, rfl⟩
  rw [H.out]
  go_wp2_with (first | (go_at_call 17; refine (num_any _ _).mono ?_; rintro e w' ⟨rfl, rfl⟩) | (go_at_call 18; refine (known_any _).mono ?_; rintro e w' ⟨rfl, hE⟩))
  go_ret
  exact ⟨rfl, hE⟩

set_option maxHeartbeats 4000000 in
set_option maxRecDepth 100000 in
theorem weighs_yes (n k : Nat) (hn : n < 256 ^ k) (h1 : 1 ≤ k) (h8 : k ≤ 8) (w : World) :
    Calls Try.prog 3 #[.int .u64 n, .int .i64 k] w fun e w' => e = .returned (.bool true) ∧ Ext w w' := by
  have hlt : n < 18446744073709551616 := Nat.lt_of_lt_of_le hn (Nat.le_trans (Nat.pow_le_pow_right (by decide) h8) (by decide))
  have hroom : roomB n k = true := by simp [roomB]; exact ⟨by omega, by omega, hn⟩
  have K2 := Lib.hid (room_any n hlt k)
  have H := Lib.hid hroom
  have HN := Lib.hid hn
  clear hroom hn
  go_enter Try.func3, Try.ntmps3
  go_wp2_with fail
  refine (put_yes n k HN.out h1 h8 w).mono ?_
  rintro e w1 ⟨g, rfl, hB1, hg1, hE1⟩
  go_wp2_with fail
  refine (K2.out w1).mono ?_
  rintro e w2 ⟨rfl, rfl⟩
  rw [H.out]
  go_wp2_with fail
  have hby := By.of_blk hB1
  have hg := get_yes _ _ k (by rw [put_length]; exact h1) (by rw [put_length]; exact h8) _ hby
  rw [put_length, num_put n k HN.out] at hg
  refine hg.mono ?_
  rintro e w2 ⟨rfl, rfl⟩
  clear hg
  have HB := Lib.hid hby
  have hs := str_any hby k
  rw [put_length] at hs
  have S1 : ∀ w', Ext w1 w' → (convert 23 9 (.slice (some ⟨g, 0, none⟩) k k)).run Try.prog w' = .ok (.string ⟨(put n k).toArray⟩) w' := fun w' hE => by
    have := str_any (HB.out.ext hE) k
    rwa [put_length] at this
  have HS1 := Lib.hid S1
  have HB1 := Lib.hid hB1
  clear hby S1 hB1
  go_wp2_with fail
  refine wp_eager Ext.pre (n := 20) (by kernel_rfl) (by kernel_rfl) ?_
  refine Eg.batchK Ext.pre (by intro c a d v w h; cases d <;> exact h) (by kernel_rfl) (n := 17) [0, 2, 3] [] _ (by kernel_rfl) (fun K hK => ?_); (simp only [pickOps, List.getElem?_toArray, List.getElem?_cons_zero, List.getElem?_cons_succ, Option.toList_some, List.cons_append, List.nil_append]); (repeat (first | go_big_quiet_step (fail) | quiet_step (fail))); refine wpQuiet_nil (hK _ ?_); clear hK K
  (refine Eg.read Ext.pre (by intro c a d v w h; cases d <;> exact h) (by kernel_rfl) (i := 1) (n := 16) (l := [0, 2, 3]) rfl (by kernel_rfl) (by kernel_rfl) rfl ⟨_, fun w' hR => convert_run rfl (HS1.out w' (((Ext.refl w1).drew).trans hR)), ?_⟩); (simp only [Act.put, List.setIfInBounds_toArray])
  refine Eg.act Ext.pre (i := 4) (n := 15) (l := [0, 2, 3, 1]) rfl (by kernel_rfl) ?_
  go_wp2_with fail
  refine (rput_any n k HN.out h8 _).mono ?_
  rintro e w3 ⟨A3, c3, rfl, hb3, hE3⟩
  go_wp2_with fail
  refine ⟨hE3, ?_⟩
  have HS3 : Hid (∀ w', Ext w3 w' → (convert 23 9 (.slice A3 k c3)).run Try.prog w' = .ok (.string ⟨(put n k).toArray⟩) w') := fun w' hE => by
    have := str_any (hb3.ext hE) c3
    rwa [put_length] at this
  (refine Eg.read Ext.pre (by intro c a d v w h; cases d <;> exact h) (by kernel_rfl) (i := 5) (n := 14) (l := [0, 2, 3, 1, 4]) rfl (by kernel_rfl) (by kernel_rfl) rfl ⟨_, fun w' hR => convert_run rfl (HS3.out w' hR), ?_⟩); (simp only [Act.put, List.setIfInBounds_toArray])
  refine Eg.batchK Ext.pre (by intro c a d v w h; cases d <;> exact h) (by kernel_rfl) (n := 5) [6, 7, 8, 9, 10, 11, 12, 13, 15] [0, 2, 3, 1, 4, 5] _ (by kernel_rfl) (fun K hK => ?_); (simp only [pickOps, List.getElem?_toArray, List.getElem?_cons_zero, List.getElem?_cons_succ, Option.toList_some, List.cons_append, List.nil_append]); (repeat (first | go_big_quiet_step (fail) | quiet_step (fail))); refine wpQuiet_nil (hK _ ?_); clear hK K
  refine Eg.act Ext.pre (i := 14) (n := 4) (l := [0, 2, 3, 1, 4, 5, 6, 7, 8, 9, 10, 11, 12, 13, 15]) rfl (by kernel_rfl) ?_
  go_wp2_with (go_at_call 17; refine (num_any _ _).mono ?_; rintro e w' ⟨rfl, rfl⟩)
  refine ⟨Ext.refl _, ?_⟩
  refine Eg.act Ext.pre (i := 16) (n := 3) (l := [0, 2, 3, 1, 4, 5, 6, 7, 8, 9, 10, 11, 12, 13, 15, 14]) rfl (by kernel_rfl) ?_
  go_wp2_with (go_at_call 17; refine (num_any _ _).mono ?_; rintro e w' ⟨rfl, rfl⟩)
  refine ⟨Ext.refl _, ?_⟩
  refine Eg.batchK Ext.pre (by intro c a d v w h; cases d <;> exact h) (by kernel_rfl) (n := 0) [17, 18, 19] [0, 2, 3, 1, 4, 5, 6, 7, 8, 9, 10, 11, 12, 13, 15, 14, 16] _ (by kernel_rfl) (fun K hK => ?_); (simp only [pickOps, List.getElem?_toArray, List.getElem?_cons_zero, List.getElem?_cons_succ, Option.toList_some, List.cons_append, List.nil_append]); (repeat (first | go_big_quiet_step (fail) | quiet_step (fail))); refine wpQuiet_nil (hK _ ?_); clear hK K
  refine Eg.finish (by kernel_rfl) ?_
  have hE03 : Ext w w3 := (hE1.drew).trans hE3
  have hE13 : Ext w1 w3 := ((Ext.refl w1).drew).trans hE3
  by_cases hk8 : k = 8
  · subst hk8
    have hno : roomB n ((8 : Nat) + 1 : Int) = false := by simp [roomB]
    have K3 := Lib.hid (put_no n hlt _ hno)
    clear hno HS1 HS3 hs hb3 HB HB1
    go_wp2_with (first | (go_at_call 15; refine (K3.out _).mono ?_; rintro e w4 ⟨rfl, rfl⟩) | (go_at_call 17; refine (num_any _ _).mono ?_; rintro e w' ⟨rfl, rfl⟩) | (go_at_call 18; refine (known_any _).mono ?_; rintro e w5 ⟨rfl, hE5⟩))
    go_ret
    exact ⟨rfl, hE03.trans hE5⟩
  · have hk9 : ((k : Int) == 8) = false := by simp; omega
    have K3 := Lib.hid (put_yes n (k + 1) (Nat.lt_of_lt_of_le HN.out (Nat.pow_le_pow_right (by decide) (by omega))) (by omega) (by omega))
    have HK := Lib.hid hk8
    clear hk8 HS3 hs
    go_wp2_with fail
    refine (K3.out _).mono ?_
    rintro e w4 ⟨g4, rfl, hB4, hg4, hE4⟩
    have s4 := str_any (By.of_blk hB4) (k + 1)
    rw [put_length, put_wide n k HN.out] at s4
    have s5 := HS1.out w4 (hE13.trans hE4)
    have hE04 := hE03.trans hE4
    clear HS1 K3 hB4 hb3 HB HB1
    have q1 : (put n k).length = k := put_length n k
    have q2 : (({ data := #[0] } : ByteArray) ++ { data := (put n k).toArray }).toList = 0 :: put n k := by
      rw [ByteArray.toList_eq, ByteArray.data_append]
      simp
    go_wp2_with (first | (go_at_call 17; refine (num_any _ _).mono ?_; rintro e w' ⟨rfl, rfl⟩) | (go_at_call 18; refine (known_any _).mono ?_; rintro e w5 ⟨rfl, hE5⟩))
    go_ret
    exact ⟨rfl, hE04.trans hE5⟩

theorem weighs_any (n : Nat) (hn : n < 18446744073709551616) (size : Int) (w : World) :
    Calls Try.prog 3 #[.int .u64 n, .int .i64 size] w fun e w' => e = .returned (.bool true) ∧ Ext w w' := by
  cases h : roomB n size with
  | false => exact weighs_no n hn size h w
  | true =>
    obtain ⟨k, rfl, h1, h8, hk⟩ := room_true h
    exact weighs_yes n k hk h1 h8 w

end Go.Proofs.Ytojgjmkkcadabaa
