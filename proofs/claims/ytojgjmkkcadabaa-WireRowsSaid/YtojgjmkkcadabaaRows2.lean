/-
  The walk of WireRows.
-/
import Derived.Test.YtojgjmkkcadabaaHexA
import Derived.Test.YtojgjmkkcadabaaRefJoin
import Derived.Test.YtojgjmkkcadabaaOwnB
import Derived.Laws.Concat
set_option linter.unusedVariables false
set_option linter.unusedSimpArgs false
namespace Go.Proofs.Ytojgjmkkcadabaa
open Go.RowKit Pl

theorem xor255 (x : UInt8) : Value.int .u8 (bits .xor .u8 (x.toNat : Int) 255) = u8 (UInt8.ofNat (x.toNat ^^^ 255)) := by
  have h := x.toNat_lt
  have h2 := u8_xor_nat x.toNat 255 (by omega) (by omega)
  rw [show ((255 : Nat) : Int) = 255 from rfl] at h2
  have h3 : x.toNat ^^^ 255 < 256 := Nat.xor_lt_two_pow (n := 8) (by omega) (by omega)
  rw [h2, u8, UInt8.toNat_ofNat', Nat.mod_eq_of_lt h3]

set_option maxHeartbeats 8000000 in
set_option maxRecDepth 100000 in
theorem rows_in (A B C : Option Addr) (a b c : List UInt8) (c1 c2 c3 : Nat) (k : Int) (h1 : a.length ≤ 3000) (h2 : b.length ≤ 3000) (h3 : c.length ≤ 3000) (hc1 : a.length ≤ c1) (hc2 : b.length ≤ c2) (hc3 : c.length ≤ c3) (w : World) (ha : By w A a) (hb : By w B b) (hc : By w C c) :
    Calls Try.prog 9 #[.slice A a.length c1, .slice B b.length c2, .slice C c.length c3, .int .i64 k] w fun e w' => e = .returned (.bool true) ∧ Ext w w' := by
  have hfl : [a, b, c].flatten = a ++ b ++ c := by simp
  have KR := Lib.hid (rjoin_any _ [a, b, c] 3 (by simp) (by rw [hfl]; simp only [List.length_append]; omega) _ (Bys.three ha hc1 hb hc2 hc hc3 23))
  have KA := Lib.hid (fun W (hE : Ext w W) => hex_any A a c1 (by omega) W (ha.ext hE))
  have KB := Lib.hid (fun W (hE : Ext w W) => hex_any B b c2 (by omega) W (hb.ext hE))
  have KC := Lib.hid (fun W (hE : Ext w W) => hex_any C c c3 (by omega) W (hc.ext hE))
  have hal : (a ++ b ++ c).length = a.length + b.length + c.length := by simp only [List.length_append]
  have HXX : Hid (hex (a ++ b ++ c) = hex a ++ hex b ++ hex c) := by rw [hex_app, hex_app]; rfl
  generalize hp : a.length = p at *
  generalize hq : b.length = q at *
  generalize hr : c.length = r at *
  generalize hall : a ++ b ++ c = all at *
  rw [hfl, hal] at KR
  obtain ⟨N, hN⟩ : ∃ N, N = p + q + r := ⟨_, rfl⟩
  rw [← hN] at KR hal
  have hN9 : N ≤ 9000 := by omega
  have HP := Lib.hid hp
  have HQ := Lib.hid hq
  have HR := Lib.hid hr
  have HA := Lib.hid ha
  have HB := Lib.hid hb
  have HC := Lib.hid hc
  have HFL := Lib.hid hfl
  have HAL := Lib.hid hal
  clear hp hq hr hall ha hb hc hfl hal hN
  have hd1 : decide ((3000 : Int) < (p : Int)) = false := by simp; omega
  have hd2 : decide ((3000 : Int) < (q : Int)) = false := by simp; omega
  have hd3 : decide ((3000 : Int) < (r : Int)) = false := by simp; omega
  go_enter Try.func9, Try.ntmps9
  go_wp2_with fail
  refine KR.out.mono ?_
  rintro e w1 ⟨g, rfl, hB1, hg1, hE1'⟩
  have hE1 : Ext w w1 := ((Ext.refl w).alloc _).trans hE1'
  have SAL := Lib.hid (fun W (hE : Ext w1 W) => (by have h := str_any ((By.of_blk hB1).ext hE) N; rwa [HAL.out] at h : (convert 23 9 (.slice (some ⟨g, 0, none⟩) N N)).run Try.prog W = .ok (.string ⟨all.toArray⟩) W))
  have HB1 := Lib.hid hB1
  have hglt := hB1.lt
  clear hE1' KR hB1
  have hE1d : Ext w w1.drew := hE1.drew
  go_wp2_with fail
  have la : (hex a).length = 2 * p := by rw [hex_length, HP.out]
  have lb : (hex b).length = 2 * q := by rw [hex_length, HQ.out]
  have lc : (hex c).length = 2 * r := by rw [hex_length, HR.out]
  have ad1 := fun w => run_string_add_lists (P := Try.prog) w (hex a) (hex b) (by omega) (by omega)
  have ad2 := fun w => run_string_add_lists (P := Try.prog) w (hex a ++ hex b) (hex c) (by rw [List.length_append]; omega) (by omega)
  clear la lb lc
  refine wp_eager Ext.pre (n := 31) (by kernel_rfl) (by kernel_rfl) ?_
  refine Eg.batchK Ext.pre (by intro c a d v w h; cases d <;> exact h) (by kernel_rfl) (n := 27) [0, 1, 2, 6] [] _ (by kernel_rfl) (fun K hK => ?_); (simp only [pickOps, List.getElem?_toArray, List.getElem?_cons_zero, List.getElem?_cons_succ, Option.toList_some, List.cons_append, List.nil_append]); (repeat (first | go_big_quiet_step (fail) | quiet_step (fail))); refine wpQuiet_nil (hK _ ?_); clear hK K
  (refine Eg.read Ext.pre (by intro c a d v w h; cases d <;> exact h) (by kernel_rfl) (i := 7) (n := 26) (l := [0, 1, 2, 6]) rfl (by kernel_rfl) (by kernel_rfl) rfl ⟨_, fun w' hR => convert_run rfl (SAL.out w' ((Ext.refl w1).drew.trans hR)), ?_⟩); (simp only [Act.put, List.setIfInBounds_toArray])
  refine Eg.act Ext.pre (i := 3) (n := 25) (l := [0, 1, 2, 6, 7]) rfl (by kernel_rfl) ?_
  go_wp2_with fail
  refine ⟨(Ext.refl _).alloc _, ?_⟩
  have hB3 := Bys.three (c := c1) (d := c2) (e := c3) (HA.out.ext hE1d) (by rw [HP.out]; exact hc1) (HB.out.ext hE1d) (by rw [HQ.out]; exact hc2) (HC.out.ext hE1d) (by rw [HR.out]; exact hc3) 23
  rw [HP.out, HQ.out, HR.out] at hB3
  have hE2 : Ext w (w1.drew.alloc (.cells #[.slice A p c1, .slice B q c2, .slice C r c3] 23)) := hE1d.alloc _
  refine Eg.act Ext.pre (i := 4) (n := 24) (l := [0, 1, 2, 6, 7, 3]) rfl (by kernel_rfl) ?_
  go_wp2_with fail
  refine (join_any _ [a, b, c] 3 (by simp) (by rw [HFL.out, HAL.out]; omega) _ hB3).mono ?_
  rintro e w3 ⟨v3, rfl, hO3, hE3⟩
  rw [HFL.out] at hO3
  obtain ⟨A3, d3, rfl, hb3, hd3, hd3'⟩ := hO3.form
  have SJ := Lib.hid (fun W (hE : Ext w3 W) => str_any (hb3.ext hE) d3)
  rw [HAL.out] at SJ ⊢
  have hE03 : Ext w w3 := hE2.trans hE3
  clear hO3 hb3 hd3 hd3' hB3
  go_wp2_with fail
  refine ⟨hE3, ?_⟩
  (refine Eg.read Ext.pre (by intro c a d v w h; cases d <;> exact h) (by kernel_rfl) (i := 5) (n := 23) (l := [0, 1, 2, 6, 7, 3, 4]) rfl (by kernel_rfl) (by kernel_rfl) rfl ⟨_, fun w' hR => convert_run rfl (SJ.out w' hR), ?_⟩); (simp only [Act.put, List.setIfInBounds_toArray])
  refine Eg.batchK Ext.pre (by intro c a d v w h; cases d <;> exact h) (by kernel_rfl) (n := 15) [8, 9, 10, 11, 12, 16, 18, 21] [0, 1, 2, 6, 7, 3, 4, 5] _ (by kernel_rfl) (fun K hK => ?_); (simp only [pickOps, List.getElem?_toArray, List.getElem?_cons_zero, List.getElem?_cons_succ, Option.toList_some, List.cons_append, List.nil_append]); (repeat (first | go_big_quiet_step (fail) | quiet_step (fail))); refine wpQuiet_nil (hK _ ?_); clear hK K
  refine Eg.act Ext.pre (i := 13) (n := 14) (l := [0, 1, 2, 6, 7, 3, 4, 5, 8, 9, 10, 11, 12, 16, 18, 21]) rfl (by kernel_rfl) ?_
  go_wp2_with fail
  refine ⟨(Ext.refl _).alloc _, ?_⟩
  have hB4 := Bys.three (c := c1) (d := c2) (e := c3) (HA.out.ext hE03) (by rw [HP.out]; exact hc1) (HB.out.ext hE03) (by rw [HQ.out]; exact hc2) (HC.out.ext hE03) (by rw [HR.out]; exact hc3) 23
  rw [HP.out, HQ.out, HR.out] at hB4
  have hE4 : Ext w (w3.alloc (.cells #[.slice A p c1, .slice B q c2, .slice C r c3] 23)) := hE03.alloc _
  refine Eg.act Ext.pre (i := 14) (n := 13) (l := [0, 1, 2, 6, 7, 3, 4, 5, 8, 9, 10, 11, 12, 16, 18, 21, 13]) rfl (by kernel_rfl) ?_
  go_wp2_with fail
  refine (join_any _ [a, b, c] 3 (by simp) (by rw [HFL.out, HAL.out]; omega) _ hB4).mono ?_
  rintro e w5 ⟨v5, rfl, hO5, hE5⟩
  rw [HFL.out] at hO5
  obtain ⟨A5, d5, rfl, hb5, hd5, hd5'⟩ := hO5.form
  have KH := Lib.hid (hex_any A5 all d5 (by rw [HAL.out]; omega) w5 hb5)
  rw [HAL.out] at KH ⊢
  have hE05 : Ext w w5 := hE4.trans hE5
  clear hO5 hb5 hd5 hd5' hB4
  go_wp2_with fail
  refine ⟨hE5, ?_⟩
  refine Eg.act Ext.pre (i := 15) (n := 12) (l := [0, 1, 2, 6, 7, 3, 4, 5, 8, 9, 10, 11, 12, 16, 18, 21, 13, 14]) rfl (by kernel_rfl) ?_
  go_wp2_with fail
  refine KH.out.mono ?_
  rintro e w6 ⟨rfl, hE6⟩
  rw [HXX.out]
  go_wp2_with fail
  refine ⟨hE6, ?_⟩
  have hE06 := hE05.trans hE6
  refine Eg.act Ext.pre (i := 17) (n := 11) (l := [0, 1, 2, 6, 7, 3, 4, 5, 8, 9, 10, 11, 12, 16, 18, 21, 13, 14, 15]) rfl (by kernel_rfl) ?_
  go_wp2_with fail
  refine (KA.out _ hE06).mono ?_
  rintro e w7 ⟨rfl, hE7⟩
  go_wp2_with fail
  refine ⟨hE7, ?_⟩
  have hE07 := hE06.trans hE7
  refine Eg.act Ext.pre (i := 19) (n := 10) (l := [0, 1, 2, 6, 7, 3, 4, 5, 8, 9, 10, 11, 12, 16, 18, 21, 13, 14, 15, 17]) rfl (by kernel_rfl) ?_
  go_wp2_with fail
  refine (KB.out _ hE07).mono ?_
  rintro e w8 ⟨rfl, hE8⟩
  go_wp2_with fail
  refine ⟨hE8, ?_⟩
  have hE08 := hE07.trans hE8
  refine Eg.batchK Ext.pre (by intro c a d v w h; cases d <;> exact h) (by kernel_rfl) (n := 9) [20] [0, 1, 2, 6, 7, 3, 4, 5, 8, 9, 10, 11, 12, 16, 18, 21, 13, 14, 15, 17, 19] _ (by kernel_rfl) (fun K hK => ?_); (simp only [pickOps, List.getElem?_toArray, List.getElem?_cons_zero, List.getElem?_cons_succ, Option.toList_some, List.cons_append, List.nil_append]); (repeat (first | go_big_quiet_step (fail) | quiet_step (fail))); refine wpQuiet_nil (hK _ ?_); clear hK K
  refine Eg.act Ext.pre (i := 22) (n := 8) (l := [0, 1, 2, 6, 7, 3, 4, 5, 8, 9, 10, 11, 12, 16, 18, 21, 13, 14, 15, 17, 19, 20]) rfl (by kernel_rfl) ?_
  go_wp2_with fail
  refine (KC.out _ hE08).mono ?_
  rintro e w9 ⟨rfl, hE9⟩
  go_wp2_with fail
  refine ⟨hE9, ?_⟩
  have hE09 := hE08.trans hE9
  refine Eg.batchK Ext.pre (by intro c a d v w h; cases d <;> exact h) (by kernel_rfl) (n := 4) [23, 24, 25, 26] [0, 1, 2, 6, 7, 3, 4, 5, 8, 9, 10, 11, 12, 16, 18, 21, 13, 14, 15, 17, 19, 20, 22] _ (by kernel_rfl) (fun K hK => ?_); (simp only [pickOps, List.getElem?_toArray, List.getElem?_cons_zero, List.getElem?_cons_succ, Option.toList_some, List.cons_append, List.nil_append]); (repeat (first | go_big_quiet_step (fail) | quiet_step (fail))); refine wpQuiet_nil (hK _ ?_); clear hK K
  refine Eg.act Ext.pre (i := 27) (n := 3) (l := [0, 1, 2, 6, 7, 3, 4, 5, 8, 9, 10, 11, 12, 16, 18, 21, 13, 14, 15, 17, 19, 20, 22, 23, 24, 25, 26]) rfl (by kernel_rfl) ?_
  go_wp2_with fail
  refine (join_any none [] 0 (by simp) (by simp) _ (.inl rfl)).mono ?_
  rintro e w10 ⟨v10, rfl, hO10, hE10⟩
  obtain ⟨A10, d10, rfl, hb10, hd10, hd10'⟩ := hO10.form
  clear hO10 hb10 hd10 hd10'
  go_wp2_with fail
  refine ⟨hE10, ?_⟩
  refine Eg.batchK Ext.pre (by intro c a d v w h; cases d <;> exact h) (by kernel_rfl) (n := 0) [28, 29, 30] [0, 1, 2, 6, 7, 3, 4, 5, 8, 9, 10, 11, 12, 16, 18, 21, 13, 14, 15, 17, 19, 20, 22, 23, 24, 25, 26, 27] _ (by kernel_rfl) (fun K hK => ?_); (simp only [pickOps, List.getElem?_toArray, List.getElem?_cons_zero, List.getElem?_cons_succ, Option.toList_some, List.cons_append, List.nil_append]); (repeat (first | go_big_quiet_step (fail) | quiet_step (fail))); refine wpQuiet_nil (hK _ ?_); clear hK K
  refine Eg.finish (by kernel_rfl) ?_
  have HE10 := Lib.hid (hE09.trans hE10)
  have HE110 := Lib.hid ((((((((((((Ext.refl w1).drew).alloc _).trans hE3).alloc _).trans hE5).trans hE6).trans hE7).trans hE8).trans hE9).trans hE10))
  clear hE1d ad1 ad2 hE2 hE3 SJ hE03 hE4 hE5 KH hE05 hE6 hE06 hE7 hE07 hE8 hE08 hE9 hE09 hE10 KA KB KC
  by_cases hk : 0 ≤ k ∧ k ≤ N
  · obtain ⟨hk0, hk1⟩ := hk
    obtain ⟨j, rfl⟩ := Int.eq_ofNat_of_zero_le hk0
    have hjN : j ≤ N := by omega
    have HBA := Lib.hid (By.of_blk (HB1.out.ext HE110.out))
    have hs10 := HE110.out.size
    go_wp2_with (at_builtin; refine wpList_append8 Try.byt rfl _ _ rfl rfl (Own.nil _ _ w10.heap.size) _ _ _ rfl all HBA.out HAL.out.symm ?c1 ?c2 ?_)
    case c1 => rw [HAL.out]; simp; omega
    case c2 => exact Nat.le_refl _
    intro v11 w11 hO11 hg11 hl11
    have hE11 : Ext w10 w11 := (Ext.refl w10).append hg11 (Own.nil 5 _ _)
    obtain ⟨A11, c11, rfl, hb11, hc11, hc11', hlie⟩ := hO11.lies
    have HBT := Lib.hid (hb11.take j)
    have HBD := Lib.hid (hb11.drop (c := c11) (k := j) (by rw [HAL.out]; exact hjN) hc11)
    have HB11 := Lib.hid hb11
    rw [show cutA A11 c11 j = if c11 = j then A11 else A11.map (fun x => x.add j) from rfl] at HBD
    rw [HAL.out] at hc11 hlie ⊢
    have HLie := Lib.hid hlie
    have hjc : j ≤ c11 := by omega
    have hs11 := hE11.size
    clear hg11 hl11 hb11 hO11 hlie
    go_wp2_with fail
    refine wp_eager Ext.pre (n := 9) (by kernel_rfl) (by kernel_rfl) ?_
    refine Eg.batchK Ext.pre (by intro c a d v w h; cases d <;> exact h) (by kernel_rfl) (n := 3) [0, 1, 2, 3, 4, 5] [] _ (by kernel_rfl) (fun K hK => ?_); (simp only [pickOps, List.getElem?_toArray, List.getElem?_cons_zero, List.getElem?_cons_succ, Option.toList_some, List.cons_append, List.nil_append]); (repeat (first | go_big_quiet_step (fail) | quiet_step (fail))); refine wpQuiet_nil (hK _ ?_); clear hK K
    generalize (if c11 = j then A11 else Option.map (fun x => x.add j) A11) = Aj at *
    refine Eg.act Ext.pre (i := 6) (n := 2) (l := [0, 1, 2, 3, 4, 5]) rfl (by kernel_rfl) ?_
    go_wp2_with fail
    refine ⟨(Ext.refl _).alloc _, ?_⟩
    have hB2 := Bys.two (c := c11) (d := c11 - j) HBT.out.drew (by rw [List.length_take, HAL.out]; omega) HBD.out.drew (by rw [List.length_drop, HAL.out]; omega) 23
    rw [List.length_take, List.length_drop, HAL.out, Nat.min_eq_left hjN] at hB2
    refine Eg.act Ext.pre (i := 7) (n := 1) (l := [0, 1, 2, 3, 4, 5, 6]) rfl (by kernel_rfl) ?_
    go_wp2_with fail
    refine (join_any _ [all.take j, all.drop j] 2 (by simp) (by simp only [List.flatten_cons, List.flatten_nil, List.append_nil, List.take_append_drop, HAL.out]; omega) _ hB2).mono ?_
    rintro e w12 ⟨v12, rfl, hO12, hE12⟩
    rw [show [all.take j, all.drop j].flatten = all by simp] at hO12
    go_wp2_with fail
    refine ⟨hE12, ?_⟩
    refine Eg.batchK Ext.pre (by intro c a d v w h; cases d <;> exact h) (by kernel_rfl) (n := 0) [8] [0, 1, 2, 3, 4, 5, 6, 7] _ (by kernel_rfl) (fun K hK => ?_); (simp only [pickOps, List.getElem?_toArray, List.getElem?_cons_zero, List.getElem?_cons_succ, Option.toList_some, List.cons_append, List.nil_append]); (repeat (first | go_big_quiet_step (fail) | quiet_step (fail))); refine wpQuiet_nil (hK _ ?_); clear hK K
    refine Eg.finish (by kernel_rfl) ?_
    have HO12 := Lib.hid (hO12.down (B' := w11.heap.size) (by show w11.heap.size ≤ (w11.drew.alloc _).heap.size; simp))
    have HE1112 := Lib.hid ((((Ext.refl w11).drew).alloc _).trans hE12)
    have HE12 := Lib.hid ((HE10.out.trans hE11).trans HE1112.out)
    have HBL := Lib.hid (((HB1.out.ext HE110.out).ext hE11).ext HE1112.out)
    have HL12 : Hid (N = 0 ∨ ∃ g1 cur, A11 = some ⟨g1, 0, none⟩ ∧ w10.heap.size ≤ g1 ∧ g1 < w11.heap.size ∧ Blk w12 g1 5 cur ∧ N ≤ cur.size ∧ (∀ i, i < N → ∃ x : UInt8, cur[i]? = some (u8 x)) ∧ w12.grownBy w12 (some g1)) := by
      rcases HLie.out with h | ⟨g1, cur, h1, h2, h3, h4, h5⟩
      · exact .inl h
      · refine .inr ⟨g1, cur, h1, h2, h3, h4.ext HE1112.out, h5, fun i hi => ?_, World.grownBy.refl _ _⟩
        subst h1
        rcases HB11.out with h6 | ⟨b6, o6, e6, h6⟩
        · have h7 := HAL.out; rw [h6] at h7; simp at h7; omega
        · cases e6
          have h7 := h6 i (by rw [HAL.out]; exact hi)
          rw [Nat.zero_add, h4.cell] at h7
          exact ⟨_, h7⟩
    clear hB2 hO12 hE12 HLie HBT HBD hE11
    obtain ⟨A12, c12, rfl, hb12, hc12, hc12'⟩ := HO12.out.form
    have HC12 := Lib.hid hc12
    clear hb12 hc12 hc12'
    rw [HAL.out] at HO12 ⊢
    go_wp2_with fail
    go_loopw [12] (fun i wr => ∃ jj : Nat, jj ≤ N ∧ i = .int .i64 jj ∧ (wr = w12 ∨ ∃ g1, w10.heap.size ≤ g1 ∧ g1 < w11.heap.size ∧ w12.grownBy wr (some g1)) ∧ (N = 0 ∨ ∃ g1 cur, A11 = some ⟨g1, 0, none⟩ ∧ w10.heap.size ≤ g1 ∧ g1 < w11.heap.size ∧ Blk wr g1 5 cur ∧ N ≤ cur.size ∧ (∀ i, i < N → ∃ x : UInt8, cur[i]? = some (u8 x)) ∧ w12.grownBy wr (some g1))) (fun i _ => N - (intOf i).toNat)
    case atStart => exact ⟨0, Nat.zero_le _, rfl, .inl rfl, HL12.out⟩
    case round =>
      obtain ⟨jj, hj, rfl, hW, hO⟩ := hrel
      by_cases hlt : jj < N
      · have hjd : decide ((jj : Int) < (N : Int)) = true := by simp; omega
        rcases hO with h0 | ⟨g1, cur, rfl, hg1', hg2', hB, hsz, hx, hG⟩
        · omega
        obtain ⟨x, hxx⟩ := hx jj hlt
        have hv : wr.cell? ⟨g1, jj, none⟩ = some (.int .u8 (x.toNat : Int)) := by rw [hB.cell]; exact hxx
        have hf := hB.frozen jj
        have HBB := Lib.hid hB
        have HG := Lib.hid hG
        have HXX2 := Lib.hid hx
        have hxl := x.toNat_lt
        have HXR := Lib.hid (xor255 x)
        clear hB hG hW hx hxx
        go_wp2_with fail
        rw [HXR.out]
        have hG2 := HG.out.trans (Upd.set wr g1 jj (u8 (UInt8.ofNat (x.toNat ^^^ 255)))).grown
        refine ⟨⟨jj + 1, by omega, by go_num, .inr ⟨g1, hg1', hg2', hG2⟩, .inr ⟨g1, _, rfl, hg1', hg2', HBB.out.set jj _, by simpa using hsz, fun i hi => ?_, hG2⟩⟩, by simp [intOf]; omega⟩
        rw [Array.getElem?_setIfInBounds]
        split
        · rename_i e; subst e; rw [if_pos (by omega)]; exact ⟨_, rfl⟩
        · exact HXX2.out i hi
      · obtain rfl : jj = N := by omega
        have hK : Own 5 wr w11.heap.size (.slice A12 jj c12) all ∧ Blk wr g 5 (cells8 all) ∧ Ext w wr := by
          rcases hW with rfl | ⟨g1, h1, h2, h3⟩
          · exact ⟨HO12.out, HBL.out, HE12.out⟩
          · exact ⟨zero_other HO12.out h3 h2, HBL.out.grown h3 (by simp; omega), HE12.out.grown h3 (fun i hi => by cases hi; have := HE10.out.size; omega)⟩
        obtain ⟨hK1, hK2, hK3⟩ := hK
        obtain ⟨A', c', h1, hbK, _⟩ := hK1.form
        cases h1
        have s1 := str_any hbK c12
        have s2 := str_any (By.of_blk hK2) all.length
        have HK3 := Lib.hid hK3
        rw [HAL.out] at s1 s2
        clear hW hO hK1 hK2 hK3 hbK
        go_wp2_with (go_at_call 18; refine (known_any _).mono ?_; rintro e w15 ⟨rfl, hE15⟩)
        go_ret
        exact ⟨rfl, HK3.out.trans hE15⟩
  · have hk' : k < 0 ∨ 0 ≤ k ∧ (N : Int) < k := by omega
    clear hk
    rcases hk' with hk | ⟨hk0, hk⟩
    all_goals
      go_wp2_with (go_at_call 18; refine (known_any _).mono ?_; rintro e w15 ⟨rfl, hE15⟩)
      go_ret
      exact ⟨rfl, HE10.out.trans hE15⟩

set_option maxHeartbeats 1000000 in
theorem rows_long (A B C : Option Addr) (p q r c1 c2 c3 : Nat) (k : Int) (h : 3000 < p ∨ p ≤ 3000 ∧ (3000 < q ∨ q ≤ 3000 ∧ 3000 < r)) (h1 : p ≤ 9223372036854775807) (h2 : q ≤ 9223372036854775807) (h3 : r ≤ 9223372036854775807) (w : World) :
    Calls Try.prog 9 #[.slice A p c1, .slice B q c2, .slice C r c3, .int .i64 k] w fun e w' => e = .returned (.bool true) ∧ Ext w w' := by
  rcases h with h | ⟨h4, h | ⟨h5, h⟩⟩
  all_goals
    go_enter Try.func9, Try.ntmps9
    go_wp2_with (go_at_call 18; refine (known_any _).mono ?_; rintro e w5 ⟨rfl, hE5⟩)
    go_ret
    exact ⟨rfl, hE5⟩

theorem rows_any {w : World} (A B C : Option Addr) (a b c : List UInt8) (c1 c2 c3 : Nat) (k : Int) (ha : By w A a) (hb : By w B b) (hc : By w C c) (hc1 : a.length ≤ c1) (hc2 : b.length ≤ c2) (hc3 : c.length ≤ c3) (hd1 : c1 ≤ 9223372036854775807) (hd2 : c2 ≤ 9223372036854775807) (hd3 : c3 ≤ 9223372036854775807) :
    Calls Try.prog 9 #[.slice A a.length c1, .slice B b.length c2, .slice C c.length c3, .int .i64 k] w fun e w' => e = .returned (.bool true) ∧ Ext w w' := by
  by_cases h : a.length ≤ 3000 ∧ b.length ≤ 3000 ∧ c.length ≤ 3000
  · exact rows_in A B C a b c c1 c2 c3 k h.1 h.2.1 h.2.2 hc1 hc2 hc3 w ha hb hc
  · exact rows_long A B C _ _ _ c1 c2 c3 k (by omega) (by omega) (by omega) (by omega) w

end Go.Proofs.Ytojgjmkkcadabaa
