
/-
  The law RecordSame, walked.
-/
import Derived.Test.YtgbfeagoadlhmaaRecK
set_option linter.unusedVariables false
set_option linter.unusedSimpArgs false
namespace Go.Proofs.Ytgbfeagoadlhmaa
open Go.RowKit Pl

attribute [local go_sem] Oper.semAt_some

set_option maxHeartbeats 3200000 in
set_option maxRecDepth 100000 in
theorem same_law (w : World) (r s : Rec) (A B S T : Option Addr) (ca cb cs ct : Nat) (hA : By w A r.b) (hB : By w B s.b) (hS : Nums w S r.subs) (hT : Nums w T s.subs) :
    Calls Try.prog 8 #[.agg (recC r A ca S cs), .agg (recC s B cb T ct)] w fun e w' => e = .returned (.bool true) ∧ Ext w w' := by
  have HP0 := Lib.hid ((Blk.new w 65 (recC r A ca S cs)).alloc (.cells (recC s B cb T ct) 65))
  have HQ0 := Lib.hid (Blk.new (w.alloc (.cells (recC r A ca S cs) 65)) 65 (recC s B cb T ct))
  have HE0 := Lib.hid ((ext_fresh w (.cells (recC r A ca S cs) 65)).alloc (.cells (recC s B cb T ct) 65))
  rw [World.size_alloc] at HQ0
  have HA0 := Lib.hid (hA.ext HE0.out)
  have HB0 := Lib.hid (hB.ext HE0.out)
  have HS0 := Lib.hid (hS.ext HE0.out)
  have HT0 := Lib.hid (hT.ext HE0.out)
  have KM := Lib.hid (fun W => Much6_any W r A S ca cs)
  have KM2 := Lib.hid (fun W => Much6_any W s B T cb ct)
  have KS := Lib.hid (fun W a b c d e => Same_any W r s A B S T ca cb cs ct a b c d e)
  have KS2 := Lib.hid (fun W a b c d e => Same_any W s r B A T S cb ca ct cs a b c d e)
  have KS3 := Lib.hid (fun W a b c d e => Same_any W r r A A S S ca ca cs cs a b c d e)
  have KR := Lib.hid (fun W a b c d e => Same_ref W r s A B S T ca cb cs ct a b c d e)
  rw [sameR_symm s r] at KS2
  rw [sameR_self r] at KS3
  generalize sameR r s = sb at *
  have e1 : (sb == sb) = true := by simp
  have hl1 := load_rec HP0.out
  have hl2 := load_rec HQ0.out
  have HC1 := Lib.hid (fun W (h : Blk W w.heap.size 65 (recC r A ca S cs)) => load_rec h)
  have HC2 := Lib.hid (fun W (h : Blk W (w.heap.size + 1) 65 (recC s B cb T ct)) => load_rec h)
  clear hA hB hS hT
  generalize recC r A ca S cs = C at *
  generalize recC s B cb T ct = D at *
  cases hm : (decide (70000 < r.b.length) || decide (9000 < r.subs.length)) with
  | true =>
    rw [hm] at KM
    clear hm
    go_enter Try.func8, Try.ntmps8
    go_wp2_with (refine wpList_load_gR rfl 65 _ rfl _ rfl _ hl1 ?_)
    refine (KM.out _).mono ?_
    rintro e w1 ⟨rfl, hE1⟩
    go_wp2_with fail
    refine (known6_any _).mono ?_
    rintro e w2 ⟨rfl, hE2⟩
    go_wp2_with fail
    go_ret
    exact ⟨rfl, (HE0.out.trans hE1).trans hE2⟩
  | false =>
    rw [hm] at KM
    have hrl : r.subs.length < 2 ^ 62 := by
      simp only [Bool.or_eq_false_iff, decide_eq_false_iff_not] at hm
      omega
    have HRL := Lib.hid hrl
    clear hm hrl
    cases hm : (decide (70000 < s.b.length) || decide (9000 < s.subs.length)) with
    | true =>
      rw [hm] at KM2
      clear hm
      go_enter Try.func8, Try.ntmps8
      go_wp2_with (refine wpList_load_gR rfl 65 _ rfl _ rfl _ hl1 ?_)
      refine (KM.out _).mono ?_
      rintro e w1 ⟨rfl, hE1⟩
      have hl3 := HC2.out _ (HQ0.out.ext hE1)
      go_wp2_with (refine wpList_load_gR rfl 65 _ rfl _ rfl _ hl3 ?_)
      refine (KM2.out _).mono ?_
      rintro e w2 ⟨rfl, hE2⟩
      go_wp2_with fail
      refine (known6_any _).mono ?_
      rintro e w3 ⟨rfl, hE3⟩
      go_wp2_with fail
      go_ret
      exact ⟨rfl, ((HE0.out.trans hE1).trans hE2).trans hE3⟩
    | false =>
      rw [hm] at KM2
      have hsl : s.subs.length < 2 ^ 62 := by
        simp only [Bool.or_eq_false_iff, decide_eq_false_iff_not] at hm
        omega
      have HSL := Lib.hid hsl
      clear hm hsl
      go_enter Try.func8, Try.ntmps8
      go_wp2_with (refine wpList_load_gR rfl 65 _ rfl _ rfl _ hl1 ?_)
      refine (KM.out _).mono ?_
      rintro e w1 ⟨rfl, hE1⟩
      have hl3 := HC2.out _ (HQ0.out.ext hE1)
      go_wp2_with (refine wpList_load_gR rfl 65 _ rfl _ rfl _ hl3 ?_)
      refine (KM2.out _).mono ?_
      rintro e w2 ⟨rfl, hE2⟩
      have HX := Lib.hid (hE1.trans hE2)
      have HP2 := Lib.hid (HP0.out.ext HX.out)
      have HQ2 := Lib.hid (HQ0.out.ext HX.out)
      have HA2 := Lib.hid (HA0.out.ext HX.out)
      have HB2 := Lib.hid (HB0.out.ext HX.out)
      have HS2 := Lib.hid (HS0.out.ext HX.out)
      have HT2 := Lib.hid (HT0.out.ext HX.out)
      have HE2 := Lib.hid (HE0.out.trans HX.out)
      clear hE1 hE2 hl1 hl2 hl3 HP0 HQ0 HA0 HB0 HS0 HT0 HE0 HX KM KM2
      go_upto_region 3 with fail
      have HR2 := Lib.hid ((Ext.refl w2).drew)
      refine wp_eager Ext.pre (n := 25) (by kernel_rfl) (by kernel_rfl) ?_
      (refine Eg.read Ext.pre (by intro c a d v w h; cases d <;> exact h) (by kernel_rfl) (i := 0) (n := 24) (l := []) rfl (by kernel_rfl) (by kernel_rfl) rfl ⟨_, fun w' hR => load_run rfl (HC1.out w' (HP2.out.ext (HR2.out.trans hR))), ?_⟩); (simp only [Act.put, List.setIfInBounds_toArray, List.getElem_toArray, List.getElem_cons_succ, List.getElem_cons_zero, List.set_cons_succ, List.set_cons_zero])
      (refine Eg.read Ext.pre (by intro c a d v w h; cases d <;> exact h) (by kernel_rfl) (i := 1) (n := 23) (l := [0]) rfl (by kernel_rfl) (by kernel_rfl) rfl ⟨_, fun w' hR => load_run rfl (HC2.out w' (HQ2.out.ext (HR2.out.trans hR))), ?_⟩); (simp only [Act.put, List.setIfInBounds_toArray, List.getElem_toArray, List.getElem_cons_succ, List.getElem_cons_zero, List.set_cons_succ, List.set_cons_zero])
      (refine Eg.read Ext.pre (by intro c a d v w h; cases d <;> exact h) (by kernel_rfl) (i := 3) (n := 22) (l := [0, 1]) rfl (by kernel_rfl) (by kernel_rfl) rfl ⟨_, fun w' hR => load_run rfl (HC1.out w' (HP2.out.ext (HR2.out.trans hR))), ?_⟩); (simp only [Act.put, List.setIfInBounds_toArray, List.getElem_toArray, List.getElem_cons_succ, List.getElem_cons_zero, List.set_cons_succ, List.set_cons_zero])
      (refine Eg.read Ext.pre (by intro c a d v w h; cases d <;> exact h) (by kernel_rfl) (i := 4) (n := 21) (l := [0, 1, 3]) rfl (by kernel_rfl) (by kernel_rfl) rfl ⟨_, fun w' hR => load_run rfl (HC2.out w' (HQ2.out.ext (HR2.out.trans hR))), ?_⟩); (simp only [Act.put, List.setIfInBounds_toArray, List.getElem_toArray, List.getElem_cons_succ, List.getElem_cons_zero, List.set_cons_succ, List.set_cons_zero])
      refine Eg.act Ext.pre (i := 2) (n := 20) (l := [0, 1, 3, 4]) rfl (by kernel_rfl) ?_
      go_wp2_with fail
      refine (KS.out _ (HA2.out.ext HR2.out) (HB2.out.ext HR2.out) (HS2.out.ext HR2.out) (HT2.out.ext HR2.out) HRL.out).mono ?_
      rintro e w3 ⟨rfl, hE3⟩
      have HR3 := Lib.hid (HR2.out.trans hE3)
      go_wp2_with fail
      refine ⟨hE3, ?_⟩
      clear hE3
      refine Eg.act Ext.pre (i := 5) (n := 19) (l := [0, 1, 3, 4, 2]) rfl (by kernel_rfl) ?_
      go_wp2_with fail
      refine (KR.out _ (HA2.out.ext HR3.out) (HB2.out.ext HR3.out) (HS2.out.ext HR3.out) (HT2.out.ext HR3.out) HRL.out).mono ?_
      rintro e w4 ⟨rfl, hE4⟩
      have HR4 := Lib.hid (HR3.out.trans hE4)
      go_wp2_with fail
      refine ⟨hE4, ?_⟩
      clear hE4
      refine Eg.batchK Ext.pre (by intro c a d v w h; cases d <;> exact h) (by kernel_rfl) (n := 17) [6, 7] [0, 1, 3, 4, 2, 5] _ (by kernel_rfl) (fun K hK => ?_); (simp only [pickOps, List.getElem?_toArray, List.getElem?_cons_zero, List.getElem?_cons_succ, Option.toList_some, List.cons_append, List.nil_append]); (repeat (first | go_big_quiet_step (fail) | quiet_step (fail))); refine wpQuiet_nil (hK _ ?_); clear hK K
      (refine Eg.read Ext.pre (by intro c a d v w h; cases d <;> exact h) (by kernel_rfl) (i := 8) (n := 16) (l := [0, 1, 3, 4, 2, 5, 6, 7]) rfl (by kernel_rfl) (by kernel_rfl) rfl ⟨_, fun w' hR => load_run rfl (HC2.out w' (HQ2.out.ext (HR4.out.trans hR))), ?_⟩); (simp only [Act.put, List.setIfInBounds_toArray, List.getElem_toArray, List.getElem_cons_succ, List.getElem_cons_zero, List.set_cons_succ, List.set_cons_zero])
      (refine Eg.read Ext.pre (by intro c a d v w h; cases d <;> exact h) (by kernel_rfl) (i := 9) (n := 15) (l := [0, 1, 3, 4, 2, 5, 6, 7, 8]) rfl (by kernel_rfl) (by kernel_rfl) rfl ⟨_, fun w' hR => load_run rfl (HC1.out w' (HP2.out.ext (HR4.out.trans hR))), ?_⟩); (simp only [Act.put, List.setIfInBounds_toArray, List.getElem_toArray, List.getElem_cons_succ, List.getElem_cons_zero, List.set_cons_succ, List.set_cons_zero])
      (refine Eg.read Ext.pre (by intro c a d v w h; cases d <;> exact h) (by kernel_rfl) (i := 11) (n := 14) (l := [0, 1, 3, 4, 2, 5, 6, 7, 8, 9]) rfl (by kernel_rfl) (by kernel_rfl) rfl ⟨_, fun w' hR => load_run rfl (HC1.out w' (HP2.out.ext (HR4.out.trans hR))), ?_⟩); (simp only [Act.put, List.setIfInBounds_toArray, List.getElem_toArray, List.getElem_cons_succ, List.getElem_cons_zero, List.set_cons_succ, List.set_cons_zero])
      (refine Eg.read Ext.pre (by intro c a d v w h; cases d <;> exact h) (by kernel_rfl) (i := 12) (n := 13) (l := [0, 1, 3, 4, 2, 5, 6, 7, 8, 9, 11]) rfl (by kernel_rfl) (by kernel_rfl) rfl ⟨_, fun w' hR => load_run rfl (HC2.out w' (HQ2.out.ext (HR4.out.trans hR))), ?_⟩); (simp only [Act.put, List.setIfInBounds_toArray, List.getElem_toArray, List.getElem_cons_succ, List.getElem_cons_zero, List.set_cons_succ, List.set_cons_zero])
      refine Eg.act Ext.pre (i := 10) (n := 12) (l := [0, 1, 3, 4, 2, 5, 6, 7, 8, 9, 11, 12]) rfl (by kernel_rfl) ?_
      go_wp2_with fail
      refine (KS2.out _ (HB2.out.ext HR4.out) (HA2.out.ext HR4.out) (HT2.out.ext HR4.out) (HS2.out.ext HR4.out) HSL.out).mono ?_
      rintro e w5 ⟨rfl, hE5⟩
      have HR5 := Lib.hid (HR4.out.trans hE5)
      go_wp2_with fail
      refine ⟨hE5, ?_⟩
      clear hE5
      refine Eg.act Ext.pre (i := 13) (n := 11) (l := [0, 1, 3, 4, 2, 5, 6, 7, 8, 9, 11, 12, 10]) rfl (by kernel_rfl) ?_
      go_wp2_with fail
      refine (KR.out _ (HA2.out.ext HR5.out) (HB2.out.ext HR5.out) (HS2.out.ext HR5.out) (HT2.out.ext HR5.out) HRL.out).mono ?_
      rintro e w6 ⟨rfl, hE6⟩
      have HR6 := Lib.hid (HR5.out.trans hE6)
      go_wp2_with fail
      refine ⟨hE6, ?_⟩
      clear hE6
      refine Eg.batchK Ext.pre (by intro c a d v w h; cases d <;> exact h) (by kernel_rfl) (n := 8) [14, 15, 16] [0, 1, 3, 4, 2, 5, 6, 7, 8, 9, 11, 12, 10, 13] _ (by kernel_rfl) (fun K hK => ?_); (simp only [pickOps, List.getElem?_toArray, List.getElem?_cons_zero, List.getElem?_cons_succ, Option.toList_some, List.cons_append, List.nil_append]); (repeat (first | go_big_quiet_step (fail) | quiet_step (fail))); refine wpQuiet_nil (hK _ ?_); clear hK K
      (refine Eg.read Ext.pre (by intro c a d v w h; cases d <;> exact h) (by kernel_rfl) (i := 17) (n := 7) (l := [0, 1, 3, 4, 2, 5, 6, 7, 8, 9, 11, 12, 10, 13, 14, 15, 16]) rfl (by kernel_rfl) (by kernel_rfl) rfl ⟨_, fun w' hR => load_run rfl (HC1.out w' (HP2.out.ext (HR6.out.trans hR))), ?_⟩); (simp only [Act.put, List.setIfInBounds_toArray, List.getElem_toArray, List.getElem_cons_succ, List.getElem_cons_zero, List.set_cons_succ, List.set_cons_zero])
      (refine Eg.read Ext.pre (by intro c a d v w h; cases d <;> exact h) (by kernel_rfl) (i := 18) (n := 6) (l := [0, 1, 3, 4, 2, 5, 6, 7, 8, 9, 11, 12, 10, 13, 14, 15, 16, 17]) rfl (by kernel_rfl) (by kernel_rfl) rfl ⟨_, fun w' hR => load_run rfl (HC1.out w' (HP2.out.ext (HR6.out.trans hR))), ?_⟩); (simp only [Act.put, List.setIfInBounds_toArray, List.getElem_toArray, List.getElem_cons_succ, List.getElem_cons_zero, List.set_cons_succ, List.set_cons_zero])
      refine Eg.act Ext.pre (i := 19) (n := 5) (l := [0, 1, 3, 4, 2, 5, 6, 7, 8, 9, 11, 12, 10, 13, 14, 15, 16, 17, 18]) rfl (by kernel_rfl) ?_
      go_wp2_with fail
      refine (KS3.out _ (HA2.out.ext HR6.out) (HA2.out.ext HR6.out) (HS2.out.ext HR6.out) (HS2.out.ext HR6.out) HRL.out).mono ?_
      rintro e w7 ⟨rfl, hE7⟩
      have HR7 := Lib.hid (HR6.out.trans hE7)
      go_wp2_with fail
      refine ⟨hE7, ?_⟩
      clear hE7
      refine Eg.batchK Ext.pre (by intro c a d v w h; cases d <;> exact h) (by kernel_rfl) (n := 3) [20, 21] [0, 1, 3, 4, 2, 5, 6, 7, 8, 9, 11, 12, 10, 13, 14, 15, 16, 17, 18, 19] _ (by kernel_rfl) (fun K hK => ?_); (simp only [pickOps, List.getElem?_toArray, List.getElem?_cons_zero, List.getElem?_cons_succ, Option.toList_some, List.cons_append, List.nil_append]); (repeat (first | go_big_quiet_step (fail) | quiet_step (fail))); refine wpQuiet_nil (hK _ ?_); clear hK K
      refine Eg.act Ext.pre (i := 22) (n := 2) (l := [0, 1, 3, 4, 2, 5, 6, 7, 8, 9, 11, 12, 10, 13, 14, 15, 16, 17, 18, 19, 20, 21]) rfl (by kernel_rfl) ?_
      go_wp2_with fail
      refine (known6_any _).mono ?_
      rintro e w8 ⟨rfl, hE8⟩
      have HR8 := Lib.hid (HR7.out.trans hE8)
      go_wp2_with fail
      refine ⟨hE8, ?_⟩
      clear hE8
      refine Eg.batchK Ext.pre (by intro c a d v w h; cases d <;> exact h) (by kernel_rfl) (n := 0) [23, 24] [0, 1, 3, 4, 2, 5, 6, 7, 8, 9, 11, 12, 10, 13, 14, 15, 16, 17, 18, 19, 20, 21, 22] _ (by kernel_rfl) (fun K hK => ?_); (simp only [pickOps, List.getElem?_toArray, List.getElem?_cons_zero, List.getElem?_cons_succ, Option.toList_some, List.cons_append, List.nil_append]); (repeat (first | go_big_quiet_step (fail) | quiet_step (fail))); refine wpQuiet_nil (hK _ ?_); clear hK K
      refine Eg.finish (by kernel_rfl) ?_
      go_wp2_with fail
      go_ret
      exact ⟨rfl, HE2.out.trans HR8.out⟩

end Go.Proofs.Ytgbfeagoadlhmaa
