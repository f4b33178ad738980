/-
  The walk of CrcPages.
-/
import Derived.Test.YtojgjmkkcadabaaKnownB
import Derived.Test.YtojgjmkkcadabaaPar
set_option linter.unusedVariables false
set_option linter.unusedSimpArgs false
namespace Go.Proofs.Ytojgjmkkcadabaa
open Go.RowKit Pl

def StV.bys (L : List (List UInt8)) : StV Ext := ⟨fun v w => ∃ g, v = .slice (some ⟨g, 0, none⟩) 1 1 ∧ Bys w (some ⟨g, 0, none⟩) L, fun v w w' hR ⟨g, h1, h2⟩ => ⟨g, h1, h2.ext hR⟩⟩
theorem as32 (s : Int) (hs : 0 ≤ s ∧ s ≤ 4294967295) : ∃ r : BitVec 32, s = (r.toNat : Int) := by
  refine ⟨BitVec.ofNat 32 s.toNat, ?_⟩
  rw [BitVec.toNat_ofNat, Nat.mod_eq_of_lt (by omega)]
  omega
theorem hold_eq (a s : BitVec 32) : decide (a = s) = ((s.toNat : Int) == (a.toNat : Int)) := by
  rw [eq32, Bool.eq_iff_iff]; simp [eq_comm]
theorem cut_any (A : Option Addr) (c k : Nat) : cutA A c k = if c = k then A else A.map (fun x => x.add k) := rfl

set_option maxHeartbeats 1000000 in
theorem pages_long (A B : Option Addr) (n m c d : Nat) (k : Int) (s : Int) (h : 20000 < n ∨ n ≤ 20000 ∧ 20000 < m) (hn : n ≤ 9223372036854775807) (hm : m ≤ 9223372036854775807) (w : World) :
    Calls Try.prog 11 #[.slice A n c, .slice B m d, .int .i64 k, .int .u32 s] w fun e w' => e = .returned (.bool true) ∧ Ext w w' := by
  rcases h with h | ⟨h1, h⟩
  all_goals
    go_enter Try.func11, Try.ntmps11
    go_wp2_with (go_at_call 40; refine (known2_any _).mono ?_; rintro e w5 ⟨rfl, hE5⟩)
    go_ret
    exact ⟨rfl, hE5⟩

set_option maxHeartbeats 4000000 in
set_option maxRecDepth 100000 in
theorem pages_out (A B : Option Addr) (a b : List UInt8) (c d : Nat) (k : Int) (s : BitVec 32) (hk : k < 0 ∨ 0 ≤ k ∧ (a.length : Int) < k ∨ 0 ≤ k ∧ k ≤ a.length ∧ (b.length : Int) < k) (hn : a.length ≤ 20000) (hm : b.length ≤ 20000) (hc : a.length ≤ c) (hd : b.length ≤ d) (hc' : c ≤ 9223372036854775807) (hd' : d ≤ 9223372036854775807) (w : World) (ha : By w A a) (hb : By w B b) :
    Calls Try.prog 11 #[.slice A a.length c, .slice B b.length d, .int .i64 k, .int .u32 (s.toNat : Int)] w fun e w' => e = .returned (.bool true) ∧ Ext w w' := by
  generalize hna : a.length = n at *
  generalize hmb : b.length = m at *
  have HN := Lib.hid hna
  have HM := Lib.hid hmb
  have HA := Lib.hid ha
  have HB := Lib.hid hb
  clear hna hmb ha hb

  rcases hk with hk | ⟨hk0, hk⟩ | ⟨hk0, hk1, hk⟩
  · go_enter Try.func11, Try.ntmps11
    go_wp2_with (at_builtin; refine wpList_append8 Try.byt rfl _ _ rfl rfl (Own.nil _ _ w.heap.size) _ _ _ rfl a HA.out HN.out.symm ?c1 ?c2 ?_)
    case c1 => rw [HN.out]; simp; omega
    case c2 => exact Nat.le_refl _
    intro v1 w1 hO1 hg1 hl1
    have hE1 : Ext w w1 := (Ext.refl w).append hg1 (Own.nil 5 _ _)
    obtain ⟨A1, c1, rfl, hb1, hc1, hc1'⟩ := hO1.form
    have hc1m : c1 ≤ 9223372036854775807 := by unfold maxLen at hc1'; omega
    have KS := Lib.hid (rsum_any A a c (by rw [HN.out]; omega) w1 (HA.out.ext hE1))
    have KC := Lib.hid (csum_one A1 a c1 (by rw [HN.out]; omega) hc1 w1 hb1 23)
    have KH := Lib.hid (fun W (hE : Ext w1 W) (s : BitVec 32) => holds_any A1 a c1 s (by rw [HN.out]; omega) hc1 W (hb1.ext hE))
    have SO := Lib.hid (fun W (hE : Ext w1 W) => str_any (hb1.ext hE) c1)
    have SA := Lib.hid (fun W (hE : Ext w1 W) => str_any (HA.out.ext (hE1.trans hE)) c)
    rw [HN.out]
    rw [HN.out] at KS KC KH SO SA hc1
    clear hg1 hl1 hb1 hO1 hc1'
    go_wp2_with fail
    refine KS.out.mono ?_
    rintro e w' ⟨rfl, rfl⟩
    go_wp2_with fail
    refine KC.out.mono ?_
    rintro e w2 ⟨rfl, hE2⟩
    go_wp2_with fail
    refine (KH.out w2 hE2 (crc a)).mono ?_
    rintro e w3 ⟨rfl, hE3⟩
    rw [decide_eq_true (rfl : crc a = crc a)]
    go_wp2_with fail
    refine (KH.out w3 (hE2.trans hE3) s).mono ?_
    rintro e w4 ⟨rfl, hE4⟩
    rw [hold_eq]
    have hE14 : Ext w1 w4 := (hE2.trans hE3).trans hE4
    have s1 := SO.out w4 hE14
    have s2 := SA.out w4 hE14
    have hE04 := hE1.trans hE14
    clear KS KC KH SO SA hE2 hE3 hE4 hE14
    go_wp2_with (go_at_call 40; refine (known2_any _).mono ?_; rintro e w5 ⟨rfl, hE5⟩)
    go_ret
    exact ⟨rfl, hE04.trans hE5⟩
  · go_enter Try.func11, Try.ntmps11
    go_wp2_with (at_builtin; refine wpList_append8 Try.byt rfl _ _ rfl rfl (Own.nil _ _ w.heap.size) _ _ _ rfl a HA.out HN.out.symm ?c1 ?c2 ?_)
    case c1 => rw [HN.out]; simp; omega
    case c2 => exact Nat.le_refl _
    intro v1 w1 hO1 hg1 hl1
    have hE1 : Ext w w1 := (Ext.refl w).append hg1 (Own.nil 5 _ _)
    obtain ⟨A1, c1, rfl, hb1, hc1, hc1'⟩ := hO1.form
    have hc1m : c1 ≤ 9223372036854775807 := by unfold maxLen at hc1'; omega
    have KS := Lib.hid (rsum_any A a c (by rw [HN.out]; omega) w1 (HA.out.ext hE1))
    have KC := Lib.hid (csum_one A1 a c1 (by rw [HN.out]; omega) hc1 w1 hb1 23)
    have KH := Lib.hid (fun W (hE : Ext w1 W) (s : BitVec 32) => holds_any A1 a c1 s (by rw [HN.out]; omega) hc1 W (hb1.ext hE))
    have SO := Lib.hid (fun W (hE : Ext w1 W) => str_any (hb1.ext hE) c1)
    have SA := Lib.hid (fun W (hE : Ext w1 W) => str_any (HA.out.ext (hE1.trans hE)) c)
    rw [HN.out]
    rw [HN.out] at KS KC KH SO SA hc1
    clear hg1 hl1 hb1 hO1 hc1'
    go_wp2_with fail
    refine KS.out.mono ?_
    rintro e w' ⟨rfl, rfl⟩
    go_wp2_with fail
    refine KC.out.mono ?_
    rintro e w2 ⟨rfl, hE2⟩
    go_wp2_with fail
    refine (KH.out w2 hE2 (crc a)).mono ?_
    rintro e w3 ⟨rfl, hE3⟩
    rw [decide_eq_true (rfl : crc a = crc a)]
    go_wp2_with fail
    refine (KH.out w3 (hE2.trans hE3) s).mono ?_
    rintro e w4 ⟨rfl, hE4⟩
    rw [hold_eq]
    have hE14 : Ext w1 w4 := (hE2.trans hE3).trans hE4
    have s1 := SO.out w4 hE14
    have s2 := SA.out w4 hE14
    have hE04 := hE1.trans hE14
    clear KS KC KH SO SA hE2 hE3 hE4 hE14
    go_wp2_with (go_at_call 40; refine (known2_any _).mono ?_; rintro e w5 ⟨rfl, hE5⟩)
    go_ret
    exact ⟨rfl, hE04.trans hE5⟩
  · go_enter Try.func11, Try.ntmps11
    go_wp2_with (at_builtin; refine wpList_append8 Try.byt rfl _ _ rfl rfl (Own.nil _ _ w.heap.size) _ _ _ rfl a HA.out HN.out.symm ?c1 ?c2 ?_)
    case c1 => rw [HN.out]; simp; omega
    case c2 => exact Nat.le_refl _
    intro v1 w1 hO1 hg1 hl1
    have hE1 : Ext w w1 := (Ext.refl w).append hg1 (Own.nil 5 _ _)
    obtain ⟨A1, c1, rfl, hb1, hc1, hc1'⟩ := hO1.form
    have hc1m : c1 ≤ 9223372036854775807 := by unfold maxLen at hc1'; omega
    have KS := Lib.hid (rsum_any A a c (by rw [HN.out]; omega) w1 (HA.out.ext hE1))
    have KC := Lib.hid (csum_one A1 a c1 (by rw [HN.out]; omega) hc1 w1 hb1 23)
    have KH := Lib.hid (fun W (hE : Ext w1 W) (s : BitVec 32) => holds_any A1 a c1 s (by rw [HN.out]; omega) hc1 W (hb1.ext hE))
    have SO := Lib.hid (fun W (hE : Ext w1 W) => str_any (hb1.ext hE) c1)
    have SA := Lib.hid (fun W (hE : Ext w1 W) => str_any (HA.out.ext (hE1.trans hE)) c)
    rw [HN.out]
    rw [HN.out] at KS KC KH SO SA hc1
    clear hg1 hl1 hb1 hO1 hc1'
    go_wp2_with fail
    refine KS.out.mono ?_
    rintro e w' ⟨rfl, rfl⟩
    go_wp2_with fail
    refine KC.out.mono ?_
    rintro e w2 ⟨rfl, hE2⟩
    go_wp2_with fail
    refine (KH.out w2 hE2 (crc a)).mono ?_
    rintro e w3 ⟨rfl, hE3⟩
    rw [decide_eq_true (rfl : crc a = crc a)]
    go_wp2_with fail
    refine (KH.out w3 (hE2.trans hE3) s).mono ?_
    rintro e w4 ⟨rfl, hE4⟩
    rw [hold_eq]
    have hE14 : Ext w1 w4 := (hE2.trans hE3).trans hE4
    have s1 := SO.out w4 hE14
    have s2 := SA.out w4 hE14
    have hE04 := hE1.trans hE14
    clear KS KC KH SO SA hE2 hE3 hE4 hE14
    go_wp2_with (go_at_call 40; refine (known2_any _).mono ?_; rintro e w5 ⟨rfl, hE5⟩)
    go_ret
    exact ⟨rfl, hE04.trans hE5⟩

set_option maxHeartbeats 4000000 in
set_option maxRecDepth 100000 in
theorem pages_in (A B : Option Addr) (a b : List UInt8) (c d : Nat) (k : Nat) (s : BitVec 32) (hkn : k ≤ a.length) (hkm : k ≤ b.length) (hn : a.length ≤ 20000) (hm : b.length ≤ 20000) (hc : a.length ≤ c) (hd : b.length ≤ d) (hc' : c ≤ 9223372036854775807) (hd' : d ≤ 9223372036854775807) (w : World) (ha : By w A a) (hb : By w B b) :
    Calls Try.prog 11 #[.slice A a.length c, .slice B b.length d, .int .i64 k, .int .u32 (s.toNat : Int)] w fun e w' => e = .returned (.bool true) ∧ Ext w w' := by
  generalize hna : a.length = n at *
  generalize hmb : b.length = m at *
  have HN := Lib.hid hna
  have HM := Lib.hid hmb
  have HA := Lib.hid ha
  have HB := Lib.hid hb
  clear hna hmb ha hb
  go_enter Try.func11, Try.ntmps11
  go_wp2_with (at_builtin; refine wpList_append8 Try.byt rfl _ _ rfl rfl (Own.nil _ _ w.heap.size) _ _ _ rfl a HA.out HN.out.symm ?c1 ?c2 ?_)
  case c1 => rw [HN.out]; simp; omega
  case c2 => exact Nat.le_refl _
  intro v1 w1 hO1 hg1 hl1
  have hE1 : Ext w w1 := (Ext.refl w).append hg1 (Own.nil 5 _ _)
  obtain ⟨A1, c1, rfl, hb1, hc1, hc1'⟩ := hO1.form
  have hc1m : c1 ≤ 9223372036854775807 := by unfold maxLen at hc1'; omega
  have KS := Lib.hid (rsum_any A a c (by rw [HN.out]; omega) w1 (HA.out.ext hE1))
  have KC := Lib.hid (csum_one A1 a c1 (by rw [HN.out]; omega) hc1 w1 hb1 23)
  have KH := Lib.hid (fun W (hE : Ext w1 W) (s : BitVec 32) => holds_any A1 a c1 s (by rw [HN.out]; omega) hc1 W (hb1.ext hE))
  have SO := Lib.hid (fun W (hE : Ext w1 W) => str_any (hb1.ext hE) c1)
  have SA := Lib.hid (fun W (hE : Ext w1 W) => str_any (HA.out.ext (hE1.trans hE)) c)
  rw [HN.out]
  rw [HN.out] at KS KC KH SO SA hc1
  clear hg1 hl1 hb1 hO1 hc1'
  go_wp2_with fail
  refine KS.out.mono ?_
  rintro e w' ⟨rfl, rfl⟩
  go_wp2_with fail
  refine KC.out.mono ?_
  rintro e w2 ⟨rfl, hE2⟩
  go_wp2_with fail
  refine (KH.out w2 hE2 (crc a)).mono ?_
  rintro e w3 ⟨rfl, hE3⟩
  rw [decide_eq_true (rfl : crc a = crc a)]
  go_wp2_with fail
  refine (KH.out w3 (hE2.trans hE3) s).mono ?_
  rintro e w4 ⟨rfl, hE4⟩
  rw [hold_eq]
  have hE14 : Ext w1 w4 := (hE2.trans hE3).trans hE4
  have s1 := SO.out w4 hE14
  have s2 := SA.out w4 hE14
  have hE04 := hE1.trans hE14
  clear KS KC KH SO SA hE2 hE3 hE4 hE14
  go_wp2_with fail
  clear s1 s2
  have HAk := Lib.hid ((HA.out.take k).ext hE04)
  have HBk := Lib.hid ((HB.out.drop (c := d) (k := k) (by rw [HM.out]; exact hkm) (by rw [HM.out]; exact hd)).ext hE04)
  rw [cut_any] at HBk
  have HLa : Hid (k = (a.take k).length) := by rw [List.length_take, HN.out, Nat.min_eq_left hkn]; rfl
  have HLb : Hid (m - k = (b.drop k).length) := by rw [List.length_drop, HM.out]; rfl
  have hkc : k ≤ c := by omega
  refine wp_eager (below_pre w4.heap.size) (n := 9) (by kernel_rfl) (by kernel_rfl) ?_
  refine Eg.batchK (below_pre w4.heap.size) (by intro c a d v w h; cases d <;> exact h) (by kernel_rfl) (n := 3) [0, 1, 2, 4, 5, 6] [] _ (by kernel_rfl) (fun K hK => ?_); (simp only [pickOps, List.getElem?_toArray, List.getElem?_cons_zero, List.getElem?_cons_succ, Option.toList_some, List.cons_append, List.nil_append]); (repeat (first | go_big_quiet_step (fail) | quiet_step (fail))); refine wpQuiet_nil (hK _ ?_); clear hK K
  generalize hBk : (if d = k then B else Option.map (fun x => x.add k) B) = Bk at *
  have HBK := Lib.hid hBk
  clear hBk
  refine Eg.act (below_pre w4.heap.size) (i := 3) (n := 2) (l := [0, 1, 2, 4, 5, 6]) rfl (by kernel_rfl) ?_
  refine wpList_append8 Try.byt rfl _ _ rfl rfl (Own.nil _ _ w4.heap.size) _ _ _ rfl (a.take k) HAk.out.drew HLa.out ?c3 ?c4 ?_
  case c3 => (have := HLa.out; simp only [List.length_nil]; omega)
  case c4 => exact Nat.le_refl _
  intro v5 w5 hO5 hg5 hl5
  have hE5 : Ext w4.drew w5 := (Ext.refl w4.drew).append hg5 (Own.nil 5 _ _)
  go_wp2_with fail
  refine ⟨hE5, ?_⟩
  have HB5 := Lib.hid (HBk.out.drew.ext hE5)
  have HAE := Lib.hid (HAk.out.drew.ext hE5)
  refine Eg.act (below_pre w4.heap.size) (i := 7) (n := 1) (l := [0, 1, 2, 4, 5, 6, 3]) rfl (by kernel_rfl) ?_
  refine wpList_append8 Try.byt rfl _ _ rfl rfl hO5 _ _ _ rfl (b.drop k) HB5.out HLb.out ?c5 ?c6 ?_
  case c5 => (have h1 := HLa.out; have h2 := HLb.out; simp only [List.nil_append]; omega)
  case c6 => exact hE5.size
  intro v6 w6 hO6 hg6 hl6
  have hE6 : Below w4.heap.size w5 w6 := Below.grown (Below.refl _ _) hg6 hE5.size (fun k hk => (hO5.lt k hk).1)
  go_wp2_with fail
  refine ⟨hE6, ?_⟩
  refine Eg.batchK (below_pre w4.heap.size) (by intro c a d v w h; cases d <;> exact h) (by kernel_rfl) (n := 0) [8] [0, 1, 2, 4, 5, 6, 3, 7] _ (by kernel_rfl) (fun K hK => ?_); (simp only [pickOps, List.getElem?_toArray, List.getElem?_cons_zero, List.getElem?_cons_succ, Option.toList_some, List.cons_append, List.nil_append]); (repeat (first | go_big_quiet_step (fail) | quiet_step (fail))); refine wpQuiet_nil (hK _ ?_); clear hK K
  refine Eg.finish (by kernel_rfl) ?_
  have hO7 : Own 5 w6 w4.heap.size v6 (a.take k ++ b.drop k) := hO6
  obtain ⟨A6, c6, rfl, hb6, hc6, hc6'⟩ := hO7.form
  have hc6m : c6 ≤ 9223372036854775807 := by unfold maxLen at hc6'; omega
  have hE46 : Ext w4 w6 := Below.trans (Ext.drew (Ext.refl w4) : Below w4.heap.size w4 w4.drew) (Below.trans hE5 hE6)
  have HTA := Lib.hid (HAk.out.ext hE46)
  have HTB := Lib.hid (HBk.out.ext hE46)
  have HT0 := Lib.hid hb6
  have HE6 := Lib.hid (hE04.trans hE46)
  have HJ : Hid (crcJoin (crc (a.take k)) (crc (b.drop k)) (m - k) = crc (a.take k ++ b.drop k)) := by rw [crc_app, ← HLb.out]; rfl
  have HLT : Hid ((a.take k ++ b.drop k).length = m) := by rw [List.length_append, ← HLa.out, ← HLb.out]; show _ = _; omega
  rw [HLT.out] at hc6 ⊢
  generalize a.take k ++ b.drop k = T0 at *
  generalize a.take k = ta at *
  generalize b.drop k = tb at *
  have HLT0 : Hid (T0.length ≤ 70368744177664) := by rw [HLT.out]; show _ ≤ _; omega
  have HLta : Hid (ta.length ≤ 70368744177664) := by rw [← HLa.out]; show _ ≤ _; omega
  have HLtb : Hid (tb.length ≤ 70368744177664) := by rw [← HLb.out]; show _ ≤ _; omega
  have KR := Lib.hid (fun W (hE : Ext w6 W) => rsum_any A6 T0 c6 HLT0.out W (HT0.out.ext hE))
  have KHo := Lib.hid (fun W (hE : Ext w6 W) => holds_any A6 T0 c6 (crc T0) HLT0.out (by rw [HLT.out]; exact hc6) W (HT0.out.ext hE))
  rw [HLT.out] at KR KHo
  clear hE5 hE6 hO5 hO6 hO7 hg5 hg6 hl5 hl6 hb6 HB5 HAE hE46 hE04 HAk HBk hc6'
  have q1 : (((crc T0).toNat : Int) == ((crc T0).toNat : Int)) = true := by simp
  go_wp2_with fail
  refine wp_eager Ext.pre (n := 29) (by kernel_rfl) (by kernel_rfl) ?_
  refine Eg.batchK Ext.pre (by intro c a d v w h; cases d <;> exact h) (by kernel_rfl) (n := 18) [0, 3, 4, 5, 8, 9, 10, 13, 14, 15, 16] [] _ (by kernel_rfl) (fun K hK => ?_); (simp only [pickOps, List.getElem?_toArray, List.getElem?_cons_zero, List.getElem?_cons_succ, Option.toList_some, List.cons_append, List.nil_append]); (repeat (first | go_big_quiet_step (fail) | quiet_step (fail))); refine wpQuiet_nil (hK _ ?_); clear hK K
  rw [HBK.out]
  rw [show (m : Int) - (k : Int) = ((m - k : Nat) : Int) by omega]
  refine Eg.parV (Ext.pre) (n := 12) (l := [0, 3, 4, 5, 8, 9, 10, 13, 14, 15, 16]) [1, 2, 6, 7, 11, 12] [(1, some 76), (2, some 77), (6, some 81), (7, some 82), (11, some 86), (12, some 87)] (fun i => match i with | 1 => StV.bys [T0] | 2 => StV.is Ext (.int .u32 ((crc T0).toNat : Int)) | 6 => StV.bys [ta] | 7 => StV.is Ext (.int .u32 ((crc ta).toNat : Int)) | 11 => StV.bys [tb] | 12 => StV.is Ext (.int .u32 ((crc tb).toNat : Int)) | _ => StV.any Ext) (by kernel_rfl) (by kernel_rfl) rfl ?_ ?_
  · refine steps_cons rfl ?_ (steps_cons rfl ?_ (steps_cons rfl ?_ (steps_cons rfl ?_ (steps_cons rfl ?_ (steps_cons rfl ?_ (steps_nil))))))
    · intro vals w' hR hd
      simp only [putL, Act.put, List.setIfInBounds_toArray, List.set_cons_succ, List.set_cons_zero]
      go_wp2_with fail
      (have hB1 := Bys.one (HT0.out.drew.ext hR) (c := c6) (by rw [HLT.out]; exact hc6) 23)
      rw [HLT.out] at hB1
      exact StepPost.of _ rfl ((Ext.refl _).alloc _) ⟨_, rfl, hB1⟩
    · intro vals w' hR hd
      simp only [putL, Act.put, List.setIfInBounds_toArray, List.set_cons_succ, List.set_cons_zero]
      obtain ⟨g, hv, hB⟩ := hd 1 (by kernel_rfl)
      rw [hv]
      go_wp2_with fail
      refine (csum_any _ [T0] 1 (by simp) (by simpa using HLT0.out) _ hB).mono ?_
      rintro e w9 ⟨rfl, hE9⟩
      rw [show [T0].flatten = T0 by simp]
      go_wp2_with fail
      exact StepPost.of _ rfl hE9 rfl
    · intro vals w' hR hd
      simp only [putL, Act.put, List.setIfInBounds_toArray, List.set_cons_succ, List.set_cons_zero]
      go_wp2_with fail
      (have hB1 := Bys.one (HTA.out.drew.ext hR) (c := c) (by rw [← HLa.out]; exact hkc) 23)
      rw [← HLa.out] at hB1
      exact StepPost.of _ rfl ((Ext.refl _).alloc _) ⟨_, rfl, hB1⟩
    · intro vals w' hR hd
      simp only [putL, Act.put, List.setIfInBounds_toArray, List.set_cons_succ, List.set_cons_zero]
      obtain ⟨g, hv, hB⟩ := hd 6 (by kernel_rfl)
      rw [hv]
      go_wp2_with fail
      refine (csum_any _ [ta] 1 (by simp) (by simpa using HLta.out) _ hB).mono ?_
      rintro e w9 ⟨rfl, hE9⟩
      rw [show [ta].flatten = ta by simp]
      go_wp2_with fail
      exact StepPost.of _ rfl hE9 rfl
    · intro vals w' hR hd
      simp only [putL, Act.put, List.setIfInBounds_toArray, List.set_cons_succ, List.set_cons_zero]
      go_wp2_with fail
      (have hB1 := Bys.one (HTB.out.drew.ext hR) (c := d - k) (by rw [← HLb.out]; omega) 23)
      rw [← HLb.out] at hB1
      exact StepPost.of _ rfl ((Ext.refl _).alloc _) ⟨_, rfl, hB1⟩
    · intro vals w' hR hd
      simp only [putL, Act.put, List.setIfInBounds_toArray, List.set_cons_succ, List.set_cons_zero]
      obtain ⟨g, hv, hB⟩ := hd 11 (by kernel_rfl)
      rw [hv]
      go_wp2_with fail
      refine (csum_any _ [tb] 1 (by simp) (by simpa using HLtb.out) _ hB).mono ?_
      rintro e w9 ⟨rfl, hE9⟩
      rw [show [tb].flatten = tb by simp]
      go_wp2_with fail
      exact StepPost.of _ rfl hE9 rfl
  intro vals w' hR hV
  simp only [putL, Act.put, List.setIfInBounds_toArray, List.set_cons_succ, List.set_cons_zero]
  have e2 : vals 2 = .int .u32 ((crc T0).toNat : Int) := hV 2 (by kernel_rfl)
  have e7 : vals 7 = .int .u32 ((crc ta).toNat : Int) := hV 7 (by kernel_rfl)
  have e12 : vals 12 = .int .u32 ((crc tb).toNat : Int) := hV 12 (by kernel_rfl)
  rw [e2, e7, e12]
  generalize vals 1 = u1
  generalize vals 6 = u6
  generalize vals 11 = u11
  clear e2 e7 e12 hV
  refine Eg.act Ext.pre (i := 17) (n := 11) (l := [0, 3, 4, 5, 8, 9, 10, 13, 14, 15, 16, 1, 2, 6, 7, 11, 12]) rfl (by kernel_rfl) ?_
  go_wp2_with fail
  refine (cjoin_any (crc ta) (crc tb) (m - k) (by omega) _).mono ?_
  rintro e w7 ⟨rfl, hE7⟩
  rw [HJ.out]
  go_wp2_with fail
  refine ⟨hE7, ?_⟩
  have hE67 : Ext w6 w7 := ((Ext.refl w6).drew.trans hR).trans hE7
  refine Eg.batchK Ext.pre (by intro c a d v w h; cases d <;> exact h) (by kernel_rfl) (n := 7) [18, 19, 20, 21] [0, 3, 4, 5, 8, 9, 10, 13, 14, 15, 16, 1, 2, 6, 7, 11, 12, 17] _ (by kernel_rfl) (fun K hK => ?_); (simp only [pickOps, List.getElem?_toArray, List.getElem?_cons_zero, List.getElem?_cons_succ, Option.toList_some, List.cons_append, List.nil_append]); (repeat (first | go_big_quiet_step (fail) | quiet_step (fail))); refine wpQuiet_nil (hK _ ?_); clear hK K
  refine Eg.act Ext.pre (i := 22) (n := 6) (l := [0, 3, 4, 5, 8, 9, 10, 13, 14, 15, 16, 1, 2, 6, 7, 11, 12, 17, 18, 19, 20, 21]) rfl (by kernel_rfl) ?_
  go_wp2_with fail
  refine (KR.out _ hE67).mono ?_
  rintro e w' ⟨rfl, rfl⟩
  go_wp2_with fail
  refine ⟨Ext.refl _, ?_⟩
  refine Eg.act Ext.pre (i := 23) (n := 5) (l := [0, 3, 4, 5, 8, 9, 10, 13, 14, 15, 16, 1, 2, 6, 7, 11, 12, 17, 18, 19, 20, 21, 22]) rfl (by kernel_rfl) ?_
  go_wp2_with fail
  refine (KHo.out _ hE67).mono ?_
  rintro e w8 ⟨rfl, hE8⟩
  go_wp2_with fail
  refine ⟨hE8, ?_⟩
  refine Eg.batchK Ext.pre (by intro c a d v w h; cases d <;> exact h) (by kernel_rfl) (n := 3) [24, 25] [0, 3, 4, 5, 8, 9, 10, 13, 14, 15, 16, 1, 2, 6, 7, 11, 12, 17, 18, 19, 20, 21, 22, 23] _ (by kernel_rfl) (fun K hK => ?_); (simp only [pickOps, List.getElem?_toArray, List.getElem?_cons_zero, List.getElem?_cons_succ, Option.toList_some, List.cons_append, List.nil_append]); (repeat (first | go_big_quiet_step (fail) | quiet_step (fail))); refine wpQuiet_nil (hK _ ?_); clear hK K
  refine Eg.act Ext.pre (i := 26) (n := 2) (l := [0, 3, 4, 5, 8, 9, 10, 13, 14, 15, 16, 1, 2, 6, 7, 11, 12, 17, 18, 19, 20, 21, 22, 23, 24, 25]) rfl (by kernel_rfl) ?_
  go_wp2_with (go_at_call 40; refine (known2_any _).mono ?_; rintro e w10 ⟨rfl, hE10⟩)
  refine ⟨hE10, ?_⟩
  refine Eg.batchK Ext.pre (by intro c a d v w h; cases d <;> exact h) (by kernel_rfl) (n := 0) [27, 28] [0, 3, 4, 5, 8, 9, 10, 13, 14, 15, 16, 1, 2, 6, 7, 11, 12, 17, 18, 19, 20, 21, 22, 23, 24, 25, 26] _ (by kernel_rfl) (fun K hK => ?_); (simp only [pickOps, List.getElem?_toArray, List.getElem?_cons_zero, List.getElem?_cons_succ, Option.toList_some, List.cons_append, List.nil_append]); (repeat (first | go_big_quiet_step (fail) | quiet_step (fail))); refine wpQuiet_nil (hK _ ?_); clear hK K
  refine Eg.finish (by kernel_rfl) ?_
  go_wp2
  go_ret
  exact ⟨rfl, (((HE6.out).trans hE67).trans hE8).trans hE10⟩


theorem pages_any {w : World} (A B : Option Addr) (a b : List UInt8) (c d : Nat) (k : Int) (s : Int) (hs : 0 ≤ s ∧ s ≤ 4294967295) (ha : By w A a) (hb : By w B b) (hc : a.length ≤ c) (hd : b.length ≤ d) (hc' : c ≤ 9223372036854775807) (hd' : d ≤ 9223372036854775807) :
    Calls Try.prog 11 #[.slice A a.length c, .slice B b.length d, .int .i64 k, .int .u32 s] w fun e w' => e = .returned (.bool true) ∧ Ext w w' := by
  obtain ⟨r, rfl⟩ := as32 s hs
  by_cases h1 : 20000 < a.length
  · exact pages_long A B _ _ c d k _ (.inl h1) (by omega) (by omega) w
  by_cases h2 : 20000 < b.length
  · exact pages_long A B _ _ c d k _ (.inr ⟨by omega, h2⟩) (by omega) (by omega) w
  by_cases hk : 0 ≤ k ∧ k ≤ a.length ∧ k ≤ b.length
  · obtain ⟨hk0, hk1, hk2⟩ := hk
    obtain ⟨j, rfl⟩ := Int.eq_ofNat_of_zero_le hk0
    exact pages_in A B a b c d j r (by omega) (by omega) (by omega) (by omega) hc hd hc' hd' w ha hb
  · exact pages_out A B a b c d k r (by omega) (by omega) (by omega) hc hd hc' hd' w ha hb

end Go.Proofs.Ytojgjmkkcadabaa
