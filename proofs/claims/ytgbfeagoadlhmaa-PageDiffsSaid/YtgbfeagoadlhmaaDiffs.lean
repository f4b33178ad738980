
/-
  The law PageDiffs, walked.
-/
import Derived.Test.YtgbfeagoadlhmaaPageL
set_option linter.unusedVariables false
set_option linter.unusedSimpArgs false
namespace Go.Proofs.Ytgbfeagoadlhmaa
open Go.RowKit Pl

set_option maxHeartbeats 4000000 in
set_option maxRecDepth 100000 in
theorem diffs_any (w : World) (P Q : List UInt8) (h : P.length = 1024) (hq : Q.length = 1024) :
    Calls Try.prog 3 #[.agg (cells8 P), .agg (cells8 Q)] w fun e w' => e = .returned (.bool true) ∧ Ext w w' := by
  have hz := (zero_of_info Try.page0).1
  have HZ := Lib.hid zeroP_length
  generalize zeroP = Z at *
  have HP0 := Lib.hid ((Pg.new w P h).ext (ext_new _ (.cells (cells8 Q) 23)))
  have HQ0 := Lib.hid (Pg.new (w.alloc (.cells (cells8 P) 23)) Q hq)
  rw [World.size_alloc] at HQ0
  have HE0 := Lib.hid (((Ext.refl w).alloc (.cells (cells8 P) 23)).alloc (.cells (cells8 Q) 23))
  generalize hw0 : (w.alloc (.cells (cells8 P) 23)).alloc (.cells (cells8 Q) 23) = w0 at *
  have HPL := Lib.hid h
  have HQL := Lib.hid hq
  have hl1 := load_pg HP0.out.blk h
  have hl2 := load_pg HQ0.out.blk hq
  clear h hq
  have hQQ := fun W => eql_pg HQL.out HQL.out W
  rw [decide_eq_true (rfl : Q = Q)] at hQQ
  go_enter Try.func3, Try.ntmps3
  go_wp2_with (first | (refine wpList_load_g rfl 23 _ rfl _ rfl _ hl1 ?_) | (refine wpList_load_g rfl 23 _ rfl _ rfl _ hl2 ?_))
  clear hw0 hl1 hl2
  refine (Diff_pg w0 P Q HPL.out HQL.out).mono ?_
  rintro e w1 ⟨f, t, v, hD, rfl, hO, hE1⟩
  obtain ⟨A, c, rfl, hby, hc1, hc2⟩ := hO.form
  have hft : f ≤ t ∧ t ≤ 1024 ∧ 12 ≤ f := by rcases hD.1 with h1 | h1 <;> omega
  have hLn : ((Q.drop f).take (t - f)).length = t - f := by rw [List.length_take, List.length_drop, HQL.out]; omega
  have HM := Lib.hid (mix_all HPL.out HQL.out hD)
  have HCL : Hid ((over P f ((Q.drop f).take (t - f))).length = 1024) := Lib.hid (by rw [over_length _ _ _ (by rw [hLn, HPL.out]; omega), HPL.out])
  generalize hL : (Q.drop f).take (t - f) = L at *
  clear hL
  obtain ⟨n, rfl⟩ : ∃ n, t = f + n := ⟨t - f, by omega⟩
  rw [show f + n - f = n by omega] at hLn
  rw [hLn] at hc1 ⊢
  have HLn := Lib.hid hLn
  have HD := Lib.hid hD
  have HBY := Lib.hid (hby.ext (((Ext.refl w1).alloc (.cells (cells8 Z) 23)).setRow (Nat.le_refl _) (cells8 P)))
  have HB2 := Lib.hid (Blk.new w1 23 (cells8 Z))
  have HE1 := Lib.hid (HE0.out.trans hE1)
  have HP1 := Lib.hid (HP0.out.ext hE1)
  have HQ1 := Lib.hid (HQ0.out.ext hE1)
  have hl1 := load_pg HP1.out.blk HPL.out
  have hsz := HE1.out.size
  have hqlt := HQ1.out.blk.lt
  clear hby hO hE1 hLn hD HP0 HQ0 HE0
  have HPn := Lib.hid (HB2.out.row (cells8 P))
  have HX := Lib.hid (((Ext.refl w1).alloc (.cells (cells8 Z) 23)).setRow (Nat.le_refl _) (cells8 P))
  obtain ⟨Ad, hsl, hAd⟩ := slice_any w1.heap.size f (by omega)
  have HML : Hid (L.length = min n (1024 - f)) := Lib.hid (by rw [HLn.out]; omega)
  have HC5 : Hid (f + L.length ≤ P.length) := Lib.hid (by rw [HLn.out, HPL.out]; omega)
  have HAd : Hid (0 < L.length → Ad = some ⟨w1.heap.size, f, none⟩) := Lib.hid (fun h => hAd (by rw [HLn.out] at h; omega))
  clear hAd
  go_wp2_with (first | (refine wpList_load_g rfl 23 _ rfl _ rfl _ hl1 ?_) | (refine wpList_store_row rfl 23 _ _ rfl _ _ rfl rfl _ _ HB2.out (pgSize HPL.out) (by rw [cells8_size, cells8_size, HPL.out, HZ.out]) (cells8_one P) ?_; generalize (w1.alloc (.cells (cells8 Z) 23)).setRow w1.heap.size (cells8 P) = w2 at *; clear HB2) | (refine wpList_copy8g (w := w2) Try.byt rfl (.tmp 20) (.tmp 21) rfl HPn.out HBY.out f (1024 - f) (1024 - f) n c HML.out Ad rfl rfl HC5.out HAd.out ?_; intro w3 hB3 hU3))
  have HC3 := Lib.hid hB3
  have HP3 := Lib.hid ((HP1.out.ext HX.out).blk.grown hU3.grown (by simp; omega))
  have HQ3 := Lib.hid ((HQ1.out.ext HX.out).blk.grown hU3.grown (by simp; omega))
  have HE3 := Lib.hid ((HE1.out.trans HX.out).grown hU3.grown (by simp; omega))
  have hgc : w.heap.size + 1 < w1.heap.size := hqlt
  clear hB3 hU3 HX HPn HBY HAd HC5 HML hsl hl1 HP1 HQ1 HE1 hqlt hsz
  generalize w1.heap.size = gc at *
  generalize over P f L = C at *
  go_loopw [8] (fun i wr => ∃ j : Nat, j ≤ 12 ∧ i = .int .i64 j ∧ Pg wr gc (mix j C Q) ∧ Blk wr w.heap.size 23 (cells8 P) ∧ Blk wr (w.heap.size + 1) 23 (cells8 Q) ∧ Ext w wr) (fun i _ => 12 - (intOf i).toNat)
  case atStart => exact ⟨0, by omega, rfl, ⟨by simpa [mix] using HC3.out, by simpa [mix] using HCL.out⟩, HP3.out, HQ3.out, HE3.out⟩
  case round =>
    obtain ⟨j, hj, rfl, hC, hP, hQ, hE⟩ := hrel
    have HC := Lib.hid hC
    have HP := Lib.hid hP
    have HQ := Lib.hid hQ
    have HE := Lib.hid hE
    clear HC3 HP3 HQ3 HE3 hE
    by_cases hlt : j < 12
    · have hjd : decide ((j : Int) < 12) = true := by simp; omega
      have hcQ : wr.cell? ⟨w.heap.size + 1, j, none⟩ = some (.int .u8 (at8 Q j)) := by rw [hQ.cell]; exact cells8_get Q j (by rw [HQL.out]; omega)
      have hv : wr.cell? ⟨gc, j, none⟩ = some (.int .u8 (at8 (mix j C Q) j)) := by rw [hC.blk.cell]; exact cells8_get _ j (by rw [hC.len]; omega)
      have hf := hC.blk.frozen j
      clear hC hP hQ
      go_wp2_with fail
      have HN := HC.out.setByte j (Q.getD j 0)
      rw [mix_set HCL.out HQL.out (by omega)] at HN
      exact ⟨⟨j + 1, by omega, by go_num, HN, HP.out.far (by show w.heap.size ≠ gc; omega) _, HQ.out.far (by show w.heap.size + 1 ≠ gc; omega) _, HE.out.setCell (by show _ ≤ gc; omega) _⟩, by simp [intOf]; omega⟩
    · obtain rfl : j = 12 := by omega
      rw [HM.out] at HC
      have hl2 := load_pg HQ.out HQL.out
      clear hC hP hQ HM HCL
      go_wp2_with (refine wpList_load_g rfl 23 _ rfl _ rfl _ hl2 ?_)
      refine (Diff_pg wr Q Q HQL.out HQL.out).mono ?_
      rintro e w4 ⟨f2, t2, v2, hD2, rfl, hO2, hE4⟩
      obtain ⟨rfl, rfl⟩ := hD2.self
      rw [show (Q.drop 1024).take (1024 - 1024) = [] by simp] at hO2
      obtain ⟨A2, c2, rfl, _, _, _⟩ := hO2.form
      rw [show ([] : List UInt8).length = 0 from rfl]
      have HC4 := Lib.hid (HC.out.ext hE4)
      have HP4 := Lib.hid (HP.out.ext hE4)
      have HQ4 := Lib.hid (HQ.out.ext hE4)
      have HE4 := Lib.hid (HE.out.trans hE4)
      have hlC := load_pg HC4.out.blk.drew HQL.out
      have hlQ := load_pg HQ4.out.drew HQL.out
      have HK := Lib.hid (known5_any w4.drew)
      clear hO2 hD2 hE4 hl2 HC HP HQ HE hc2 HLn
      obtain ⟨hft1, hft2, hft3⟩ := hft
      have hfd : decide ((12 : Int) ≤ (f : Int)) = true := by simp; omega
      by_cases hn : n = 0
      · subst hn
        have hfe : decide ((f : Int) ≤ 1024) = true := by simp; omega
        go_wp2_with fail
        refine wp_eager Ext.pre (n := 30) (by kernel_rfl) (by kernel_rfl) ?_
        refine Eg.batchK Ext.pre (by intro c a d v w h; cases d <;> exact h) (by kernel_rfl) (n := 22) [0, 1, 2, 3, 4, 5, 7, 8] [] _ (by kernel_rfl) (fun K hK => ?_); (simp only [pickOps, List.getElem?_toArray, List.getElem?_cons_zero, List.getElem?_cons_succ, Option.toList_some, List.cons_append, List.nil_append]); (repeat (first | go_big_quiet_step (fail) | quiet_step (fail))); refine wpQuiet_nil (hK _ ?_); clear hK K
        (refine Eg.skip Ext.pre (by intro c a d v w h; cases d <;> exact h) (by kernel_rfl) (i := 6) (n := 21) (l := [0, 1, 2, 3, 4, 5, 7, 8]) rfl (by kernel_rfl) (by kernel_rfl) rfl ?_); (simp only [Act.put, List.setIfInBounds_toArray, List.getElem_toArray, List.getElem_cons_succ, List.getElem_cons_zero, List.set_cons_succ, List.set_cons_zero])
        (refine Eg.skip Ext.pre (by intro c a d v w h; cases d <;> exact h) (by kernel_rfl) (i := 9) (n := 20) (l := [0, 1, 2, 3, 4, 5, 7, 8, 6]) rfl (by kernel_rfl) (by kernel_rfl) rfl ?_); (simp only [Act.put, List.setIfInBounds_toArray, List.getElem_toArray, List.getElem_cons_succ, List.getElem_cons_zero, List.set_cons_succ, List.set_cons_zero])
        refine Eg.batchK Ext.pre (by intro c a d v w h; cases d <;> exact h) (by kernel_rfl) (n := 6) [10, 11, 12, 13, 14, 15, 16, 17, 19, 20, 21, 22, 23, 24] [0, 1, 2, 3, 4, 5, 7, 8, 6, 9] _ (by kernel_rfl) (fun K hK => ?_); (simp only [pickOps, List.getElem?_toArray, List.getElem?_cons_zero, List.getElem?_cons_succ, Option.toList_some, List.cons_append, List.nil_append]); (repeat (first | go_big_quiet_step (fail) | quiet_step (fail))); refine wpQuiet_nil (hK _ ?_); clear hK K
        (refine Eg.skip Ext.pre (by intro c a d v w h; cases d <;> exact h) (by kernel_rfl) (i := 18) (n := 5) (l := [0, 1, 2, 3, 4, 5, 7, 8, 6, 9, 10, 11, 12, 13, 14, 15, 16, 17, 19, 20, 21, 22, 23, 24]) rfl (by kernel_rfl) (by kernel_rfl) rfl ?_); (simp only [Act.put, List.setIfInBounds_toArray, List.getElem_toArray, List.getElem_cons_succ, List.getElem_cons_zero, List.set_cons_succ, List.set_cons_zero])
        (refine Eg.skip Ext.pre (by intro c a d v w h; cases d <;> exact h) (by kernel_rfl) (i := 25) (n := 4) (l := [0, 1, 2, 3, 4, 5, 7, 8, 6, 9, 10, 11, 12, 13, 14, 15, 16, 17, 19, 20, 21, 22, 23, 24, 18]) rfl (by kernel_rfl) (by kernel_rfl) rfl ?_); (simp only [Act.put, List.setIfInBounds_toArray, List.getElem_toArray, List.getElem_cons_succ, List.getElem_cons_zero, List.set_cons_succ, List.set_cons_zero])
        refine Eg.batchK Ext.pre (by intro c a d v w h; cases d <;> exact h) (by kernel_rfl) (n := 0) [26, 27, 28, 29] [0, 1, 2, 3, 4, 5, 7, 8, 6, 9, 10, 11, 12, 13, 14, 15, 16, 17, 19, 20, 21, 22, 23, 24, 18, 25] _ (by kernel_rfl) (fun K hK => ?_); (simp only [pickOps, List.getElem?_toArray, List.getElem?_cons_zero, List.getElem?_cons_succ, Option.toList_some, List.cons_append, List.nil_append]); (repeat (first | go_big_quiet_step (fail) | quiet_step (fail))); refine wpQuiet_nil (hK _ ?_); clear hK K
        refine Eg.finish (by kernel_rfl) ?_
        go_wp2_with (first | (refine wpList_load_g rfl 23 _ rfl _ rfl _ hlC ?_) | (refine wpList_load_g rfl 23 _ rfl _ rfl _ hlQ ?_))
        refine HK.out.mono ?_
        rintro e w5 ⟨rfl, hE5⟩
        go_wp2_with fail
        go_ret
        exact ⟨rfl, HE4.out.drew.trans hE5⟩
      · have hdf : at8 P f ≠ at8 Q f ∧ at8 P (f + n - 1) ≠ at8 Q (f + n - 1) := by rcases HD.out.1 with h1 | h1; omega; exact ⟨h1.2.2.2.1, h1.2.2.2.2⟩
        have hp1 : w4.drew.cell? ⟨w.heap.size, f, none⟩ = some (.int .u8 (at8 P f)) := by show w4.cell? _ = _; rw [HP4.out.cell]; exact cells8_get P f (by rw [HPL.out]; omega)
        have hq1 : w4.drew.cell? ⟨w.heap.size + 1, f, none⟩ = some (.int .u8 (at8 Q f)) := by show w4.cell? _ = _; rw [HQ4.out.cell]; exact cells8_get Q f (by rw [HQL.out]; omega)
        have hp2 : w4.drew.cell? ⟨w.heap.size, f + n - 1, none⟩ = some (.int .u8 (at8 P (f + n - 1))) := by show w4.cell? _ = _; rw [HP4.out.cell]; exact cells8_get P (f + n - 1) (by rw [HPL.out]; omega)
        have hq2 : w4.drew.cell? ⟨w.heap.size + 1, f + n - 1, none⟩ = some (.int .u8 (at8 Q (f + n - 1))) := by show w4.cell? _ = _; rw [HQ4.out.cell]; exact cells8_get Q (f + n - 1) (by rw [HQL.out]; omega)
        have hb1 : (at8 P f != at8 Q f) = true := by rw [bne_iff_ne]; exact hdf.1
        have hb2 : (at8 P (f + n - 1) != at8 Q (f + n - 1)) = true := by rw [bne_iff_ne]; exact hdf.2
        have hfe : decide ((f : Int) + (n : Int) ≤ 1024) = true := by simp; omega
        have hnb : ((n : Int) == 0) = false := by rw [beq_eq_false_iff_ne]; omega
        have htn : ((f : Int) + (n : Int) - 1).toNat = f + n - 1 := by omega
        generalize at8 P f = x1 at *
        generalize at8 Q f = y1 at *
        generalize at8 P (f + n - 1) = x2 at *
        generalize at8 Q (f + n - 1) = y2 at *
        generalize hln : f + n - 1 = ln at *
        clear hdf HD
        go_wp2_with fail
        refine wp_eager Ext.pre (n := 30) (by kernel_rfl) (by kernel_rfl) ?_
        refine Eg.batchK Ext.pre (by intro c a d v w h; cases d <;> exact h) (by kernel_rfl) (n := 22) [0, 1, 2, 3, 4, 5, 7, 8] [] _ (by kernel_rfl) (fun K hK => ?_); (simp only [pickOps, List.getElem?_toArray, List.getElem?_cons_zero, List.getElem?_cons_succ, Option.toList_some, List.cons_append, List.nil_append]); (repeat (first | go_big_quiet_step (fail) | quiet_step (fail))); refine wpQuiet_nil (hK _ ?_); clear hK K
        (refine Eg.read Ext.pre (by intro c a d v w h; cases d <;> exact h) (by kernel_rfl) (i := 6) (n := 21) (l := [0, 1, 2, 3, 4, 5, 7, 8]) rfl (by kernel_rfl) (by kernel_rfl) rfl ⟨_, fun w' hR => load_run rfl (load_u8p (hR.cell hp1)), ?_⟩); (simp only [Act.put, List.setIfInBounds_toArray])
        (refine Eg.read Ext.pre (by intro c a d v w h; cases d <;> exact h) (by kernel_rfl) (i := 9) (n := 20) (l := [0, 1, 2, 3, 4, 5, 7, 8, 6]) rfl (by kernel_rfl) (by kernel_rfl) rfl ⟨_, fun w' hR => load_run rfl (load_u8p (hR.cell hq1)), ?_⟩); (simp only [Act.put, List.setIfInBounds_toArray])
        refine Eg.batchK Ext.pre (by intro c a d v w h; cases d <;> exact h) (by kernel_rfl) (n := 6) [10, 11, 12, 13, 14, 15, 16, 17, 19, 20, 21, 22, 23, 24] [0, 1, 2, 3, 4, 5, 7, 8, 6, 9] _ (by kernel_rfl) (fun K hK => ?_); (simp only [pickOps, List.getElem?_toArray, List.getElem?_cons_zero, List.getElem?_cons_succ, Option.toList_some, List.cons_append, List.nil_append]); (repeat (first | go_big_quiet_step (fail) | quiet_step (fail))); refine wpQuiet_nil (hK _ ?_); clear hK K
        (refine Eg.read Ext.pre (by intro c a d v w h; cases d <;> exact h) (by kernel_rfl) (i := 18) (n := 5) (l := [0, 1, 2, 3, 4, 5, 7, 8, 6, 9, 10, 11, 12, 13, 14, 15, 16, 17, 19, 20, 21, 22, 23, 24]) rfl (by kernel_rfl) (by kernel_rfl) rfl ⟨_, fun w' hR => load_run rfl (load_u8p (hR.cell hp2)), ?_⟩); (simp only [Act.put, List.setIfInBounds_toArray])
        (refine Eg.read Ext.pre (by intro c a d v w h; cases d <;> exact h) (by kernel_rfl) (i := 25) (n := 4) (l := [0, 1, 2, 3, 4, 5, 7, 8, 6, 9, 10, 11, 12, 13, 14, 15, 16, 17, 19, 20, 21, 22, 23, 24, 18]) rfl (by kernel_rfl) (by kernel_rfl) rfl ⟨_, fun w' hR => load_run rfl (load_u8p (hR.cell hq2)), ?_⟩); (simp only [Act.put, List.setIfInBounds_toArray])
        refine Eg.batchK Ext.pre (by intro c a d v w h; cases d <;> exact h) (by kernel_rfl) (n := 0) [26, 27, 28, 29] [0, 1, 2, 3, 4, 5, 7, 8, 6, 9, 10, 11, 12, 13, 14, 15, 16, 17, 19, 20, 21, 22, 23, 24, 18, 25] _ (by kernel_rfl) (fun K hK => ?_); (simp only [pickOps, List.getElem?_toArray, List.getElem?_cons_zero, List.getElem?_cons_succ, Option.toList_some, List.cons_append, List.nil_append]); (repeat (first | go_big_quiet_step (fail) | quiet_step (fail))); refine wpQuiet_nil (hK _ ?_); clear hK K
        refine Eg.finish (by kernel_rfl) ?_
        go_wp2_with (first | (refine wpList_load_g rfl 23 _ rfl _ rfl _ hlC ?_) | (refine wpList_load_g rfl 23 _ rfl _ rfl _ hlQ ?_))
        refine HK.out.mono ?_
        rintro e w5 ⟨rfl, hE5⟩
        go_wp2_with fail
        go_ret
        exact ⟨rfl, HE4.out.drew.trans hE5⟩

end Go.Proofs.Ytgbfeagoadlhmaa
