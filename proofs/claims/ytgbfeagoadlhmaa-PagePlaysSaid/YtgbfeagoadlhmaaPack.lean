
/-
  Contract of page.Pack.
-/
import Derived.Test.YtgbfeagoadlhmaaItems
import Derived.Test.YtgbfeagoadlhmaaRangeB
import Derived.Test.YtgbfeagoadlhmaaPackP
import Derived.Test.YtgbfeagoadlhmaaTwo
set_option linter.unusedVariables false
set_option linter.unusedSimpArgs false
namespace Go.Proofs.Ytgbfeagoadlhmaa
open Go.RowKit Go.Shelf Pl

attribute [local go_sem] Oper.semAt_some

theorem itX_firm (P : List UInt8) (N s : Nat) (args : Array Value) (s' : Nat) : Firm (itX P N s args s') := by
  rintro A B row ⟨h1, k, v, a1, a2, a3, a4, a5, a6, a7⟩ hg hr
  exact ⟨h1, k, v, a1, a2, a3, a4, a5, a6, a7.firm hg hr⟩
/-- q[:] -/
theorem slice_pga (g : Nat) (w : World) : (Instr.sliceAt 23 (.pointer (some ⟨g, 0, none⟩)) none none none).run Try.prog w = .ok (.slice (some ⟨g, 0, none⟩) 1024 1024) w := by
  rw [run_sliceAt_array_all w 23 ⟨g, 0, none⟩ Try.pgUnd, Try.pgElem, Try.pgLen]
  simp [slicedAt, Addr.add]

set_option maxHeartbeats 3200000 in
set_option maxRecDepth 100000 in
theorem Pack_pg (w : World) (P : List UInt8) (h : P.length = 1024) :
    Calls Try.prog 12 #[.agg (cells8 P)] w fun e w' => e = .returned (.tuple #[.agg (cells8 (packR P)), .int .i64 (packE P : Int)]) ∧ Ext w w' := by
  have hz := (zero_of_info Try.page0).1
  have HP0 := Lib.hid ((Pg.new w P h).ext (ext_new _ (.cells (cells8 zeroP) 23)))
  have HB0 := Lib.hid (Blk.new (w.alloc (.cells (cells8 P) 23)) 23 (cells8 zeroP))
  rw [World.size_alloc] at HB0
  have HE0 := Lib.hid (((Ext.refl w).alloc (.cells (cells8 P) 23)).alloc (.cells (cells8 zeroP) 23))
  generalize hw0 : (w.alloc (.cells (cells8 P) 23)).alloc (.cells (cells8 zeroP) 23) = w0 at *
  have KR := Lib.hid (right_pg _ _ P HP0.out)
  have HZ := Lib.hid zeroP_length
  have HIE : Hid (packE P = if rightB P then 0 else 4) := Lib.hid rfl
  have HIR : Hid (packR P = if rightB P then packP P else zeroP) := Lib.hid rfl
  refine callsIn_wide.1 (callsIn_of_wp_marks (n := 3) Try.func12 rfl trivial (wpIn_wide.2 (wp_quiet ?_)) rfl)
  simp only [Try.ntmps12, List.size_toArray, List.length_cons, List.length_nil, Nat.reduceAdd, Nat.reduceSub, Array.replicate_succ, Array.replicate_zero, List.push_toArray, List.append_toArray, List.nil_append, List.cons_append]
  cases hr : rightB P with
  | false =>
    rw [hr] at KR HIE HIR
    simp only [Bool.false_eq_true, if_false] at HIE HIR
    rw [HIE.out, HIR.out]
    clear hr
    generalize zeroP = Z at *
    go_wp2_with fail
    refine KR.out.mono ?_
    rintro e w1 ⟨rfl, hE1⟩
    have HBk := Lib.hid (HB0.out.ext (hE1))
    have HEk := Lib.hid (HE0.out.trans (hE1))
    go_wp2_with (refine wpList_store_row rfl 23 _ _ rfl _ _ rfl rfl _ _ HBk.out (pgSize HZ.out) rfl (cells8_one Z) ?_)
    exact postM_ret (results_row2 Try.results12 _ _ (w.heap.size + 1) _ (cells8 Z) (0, 0) _ rfl (HBk.out.row (cells8 Z)) Try.pgUnd rfl (pgSize HZ.out)) ⟨rfl, HEk.out.setRow (by omega) _⟩
  | true =>
    have hle := right_le hr
    rw [hr] at KR HIE HIR
    simp only [if_true] at HIE HIR
    rw [HIE.out, HIR.out]
    have HQL := Lib.hid (packP_length h hr)
    have HPK : Hid (packP P = set2 (pkP P (num2 P 14)) 16 (1024 - sumS P (num2 P 14))) := Lib.hid rfl
    have HPL := Lib.hid h
    have HRR := Lib.hid hr
    have HKL := Lib.hid (fun k hk => pkP_length h hr k hk)
    have HSM := Lib.hid (fun k hk => sumS_le hr (k := k) hk)
    have HSLT := Lib.hid (fun n hn hs => right_slot hr (n := n) hn hs)
    have HILN := Lib.hid (fun k hk => itemL_length h hr (k := k) hk)
    have HPK0 : Hid (pkP P 0 = over zeroP 0 (P.take (18 + 4 * num2 P 14))) := Lib.hid rfl
    have HNX : Hid (∀ k, slotS P k ≠ 0 → pkP P (k + 1) = point2 (over (pkP P k) (1024 - sumS P (k + 1)) (itemL P k)) k (1024 - sumS P (k + 1)) (slotS P k)) := Lib.hid (fun k hk => by rw [show pkP P (k + 1) = if slotS P k = 0 then pkP P k else _ from rfl, if_neg hk])
    clear hr
    generalize packP P = Q at *
    generalize hZ : zeroP = Z at *
    go_wp2_with fail
    refine KR.out.mono ?_
    rintro e w1 ⟨rfl, hE1⟩
    have KS := Lib.hid (slots_pg (w1.alloc (.cells (cells8 Z) 23)).drew _ P ⟨((HP0.out.ext hE1).blk.alloc _).drew, HPL.out⟩)
    generalize hm : num2 P 14 = m at *
    have HP1 := Lib.hid (((HP0.out.ext hE1).ext ((Ext.refl w1).alloc (.cells (cells8 Z) 23))).ext ((Ext.refl _).drew))
    have HB1 := Lib.hid (((HB0.out.ext hE1).alloc (.cells (cells8 Z) 23)).drew)
    have HE1 := Lib.hid (((HE0.out.trans hE1).alloc (.cells (cells8 Z) 23)).drew)
    have HQ1 := Lib.hid ((Blk.new w1 23 (cells8 Z)).drew)
    have hlt1 : w.heap.size + 1 < w1.heap.size := (HB0.out.ext hE1).lt
    have hsl1 := fun W => slice_pga w1.heap.size W
    have hsl2 := fun W => slice_pgh w.heap.size (18 + 4 * m) (by omega) W
    rw [show ((18 + 4 * m : Nat) : Int) = 18 + 4 * (m : Int) by omega] at hsl2
    clear hE1 KR HP0 HB0 HE0 hw0
    have HBY := Lib.hid (HP1.out.by_ 0 (18 + 4 * m) (by omega))
    rw [List.drop_zero] at HBY
    have HTL : Hid ((P.take (18 + 4 * m)).length = 18 + 4 * m) := Lib.hid (by rw [List.length_take, HPL.out]; omega)
    have HML : Hid ((P.take (18 + 4 * m)).length = min (18 + 4 * m) 1024) := Lib.hid (by rw [HTL.out]; omega)
    have HC5 : Hid (0 + (P.take (18 + 4 * m)).length ≤ Z.length) := Lib.hid (by rw [HTL.out, HZ.out]; omega)
    go_wp2_with fail
    refine wp_eager (grow_pre w1.heap.size) (n := 6) (by kernel_rfl) (by kernel_rfl) ?_
    refine Eg.batchK (grow_pre w1.heap.size) (by intro c a d v w h; cases d <;> exact h) (by kernel_rfl) (n := 5) [0] [] _ (by kernel_rfl) (fun K hK => ?_); (simp only [pickOps, List.getElem?_toArray, List.getElem?_cons_zero, List.getElem?_cons_succ, Option.toList_some, List.cons_append, List.nil_append]); (repeat (first | go_big_quiet_step (fail) | quiet_step (fail))); refine wpQuiet_nil (hK _ ?_); clear hK K
    refine Eg.act (grow_pre w1.heap.size) (i := 1) (n := 4) (l := [0]) rfl (by kernel_rfl) ?_
    go_wp2_with fail
    refine KS.out.mono ?_
    rintro e w' ⟨rfl, rfl⟩
    go_wp2_with fail
    refine ⟨(grow_pre w1.heap.size).refl _, ?_⟩
    refine Eg.batchK (grow_pre w1.heap.size) (by intro c a d v w h; cases d <;> exact h) (by kernel_rfl) (n := 1) [2, 3, 4] [0, 1] _ (by kernel_rfl) (fun K hK => ?_); (simp only [pickOps, List.getElem?_toArray, List.getElem?_cons_zero, List.getElem?_cons_succ, Option.toList_some, List.cons_append, List.nil_append]); (repeat (first | go_big_quiet_step (fail) | quiet_step (fail))); refine wpQuiet_nil (hK _ ?_); clear hK K
    refine Eg.act (grow_pre w1.heap.size) (i := 5) (n := 0) (l := [0, 1, 2, 3, 4]) rfl (by kernel_rfl) ?_
    go_wp2_with (refine wpList_copy8g Try.byt rfl (.tmp 11) (.tmp 15) rfl HQ1.out HBY.out 0 1024 1024 (18 + 4 * m) 1024 HML.out (some ⟨w1.heap.size, 0, none⟩) rfl rfl HC5.out (fun _ => rfl) ?_; intro w2 hB2 hU2)
    refine ⟨hU2.grown, ?_⟩
    refine Eg.finish (by kernel_rfl) ?_
    rw [← HPK0.out] at hB2
    have HQ2 := Lib.hid hB2
    have HP2 := Lib.hid (HP1.out.blk.grown hU2.grown (by simp; omega))
    have HB2 := Lib.hid (HB1.out.grown hU2.grown (by simp; omega))
    have HE2 := Lib.hid (HE1.out.grown hU2.grown (fun k e => by cases e; omega))
    have hlt2 := hB2.lt
    clear hB2 hU2 HP1 HB1 HE1 HQ1 HBY HTL HML HC5 KS hsl1 hsl2
    generalize w1.heap.size = gq at *
    have hlp := load_pg (HP2.out.alloc (.cells #[.int .i64 1024] 3)) HPL.out
    go_wp2_with (refine wpList_load_g rfl 23 _ rfl _ rfl _ hlp ?_)
    refine (Items_pg _ P HPL.out).mono ?_
    rintro e w3 ⟨gfn, gp, rfl, hP3, hF3, hg3, hg4, hE3⟩
    have HA3 := Lib.hid ((Blk.new w2 3 #[.int .i64 1024]).ext hE3)
    have HQ3 := Lib.hid ((HQ2.out.alloc (.cells #[.int .i64 1024] 3)).ext hE3)
    have HB3 := Lib.hid ((HB2.out.alloc (.cells #[.int .i64 1024] 3)).ext hE3)
    have HE3 := Lib.hid ((HE2.out.alloc (.cells #[.int .i64 1024] 3)).trans hE3)
    have HP3 := Lib.hid hP3
    have HF3 := Lib.hid hF3
    rw [World.size_alloc] at hg3
    have hs3 := hE3.size
    rw [World.size_alloc] at hs3
    have hfl := hF3.lt
    clear hE3 hP3 hF3 HQ2 HB2 HE2 HP2 hlp
    generalize w2.heap.size = ga at *
    go_wp2_with fail
    have HI0 : Hid (1024 - sumS P 0 = 1024) := Lib.hid rfl
    refine wp_rangeX (σ := Nat) 3 (by omega) (gf := 46) (lb := #[.pointer (some ⟨gfn, 0, none⟩), .pointer (some ⟨gp, 0, none⟩)]) rfl (enters_of Try.func46 (by kernel_rfl) rfl) (items_seq P HPL.out gfn gp 2 (by omega))
      (fun W hg => ⟨⟨HP3.out.blk.grown hg (by simp), HPL.out⟩, HF3.out.grown hg (by simp)⟩) (fun k hk => by rcases hk with rfl | rfl <;> omega)
      (fun N s args s' A hx => by obtain ⟨_, k, v, _, _, _, _, _, rfl, _⟩ := hx; rfl) (fun N s args s' => itX_firm P N s args s')
      (fun s W => Pg W gq (pkP P s) ∧ Blk W ga 3 #[.int .i64 ((1024 - sumS P s : Nat) : Int)] ∧ Blk W (w.heap.size + 1) 23 (cells8 Z) ∧ Ext w W)
      (fun _ _ _ => False)
      (fun s A B row h hg hr => ⟨⟨h.1.blk.firm hg (fun r e => (hr r e).2), h.1.len⟩, h.2.1.firm hg (fun r e => (hr r e).2), h.2.2.1.firm hg (fun r e => (hr r e).2), h.2.2.2.grown hg (fun k e => by have := (hr k e).1; have := HE3.out.size; omega)⟩)
      (fun c s A B row h hg hr => h) ⟨⟨HQ3.out, HKL.out 0 (by omega)⟩, HA3.out, HB3.out, HE3.out⟩
      (fun args a' W => a' = { tmps := #[.agg (cells8 P), .pointer (some ⟨w.heap.size, 0, none⟩), .pointer (some ⟨w.heap.size + 1, 0, none⟩), .int .i64 0, .pointer (some ⟨gq, 0, none⟩), .pointer (some ⟨ga, 0, none⟩), args.getD 0 undef, args.getD 1 undef, .bool true, .bool false, undef, .slice (some ⟨gq, 0, none⟩) 1024 1024, .int .i64 (m : Int), .int .i64 (4 * (m : Int)), .int .i64 (18 + 4 * (m : Int)), .slice (some ⟨w.heap.size, 0, none⟩) (18 + 4 * m) 1024, .int .i64 ((min (18 + 4 * m) 1024 : Nat) : Int), .agg (cells8 P), itemsV gfn gp, args.getD 0 undef, args.getD 1 undef, undef, undef, undef, undef, undef, undef, undef, undef, undef, undef, undef, undef, undef, undef, undef, undef], defers := [] })
      (fun args a' A B row h _ _ => h) ?assign ?body ?done ?stop
    case assign =>
      rintro l s args s' W K ⟨_, k, v, _, _, _, _, _, rfl, _⟩ hK
      gi_wp2_with fail
      exact hK _ _ rfl (World.grownBy.refl W none)
    case body =>
      rintro l s args s' a' W ⟨hQw, hAw, hBw, hEw⟩ ⟨_, k, v, hsk, hkm, hem, hnz, rfl, rfl, hO⟩ rfl
      have hkm' : k < m := by omega
      obtain ⟨q1, q2, q3, q4⟩ := HSLT.out k hkm' hnz
      have hs1 := HSM.out (k + 1) (by omega)
      have HNXk := Lib.hid (HNX.out k hnz)
      rw [sumS_succ] at hs1 HNXk
      have HSS : Hid (sumS P (k + 1) = sumS P k + slotS P k) := Lib.hid rfl
      rw [← sumS_same P s k hsk hem] at hAw
      rw [← pkP_same P s k hsk hem] at hQw
      have HLN := Lib.hid (HILN.out k hkm')
      have HKLk := Lib.hid (HKL.out k (by omega))
      have HKL1 := Lib.hid (HKL.out (k + 1) (by omega))
      obtain ⟨a1, ha1⟩ : ∃ a1 : Nat, a1 + slotS P k = 1024 - sumS P k := ⟨1024 - sumS P k - slotS P k, by omega⟩
      rw [show 1024 - (sumS P k + slotS P k) = a1 by omega] at HNXk
      have HA1 : Hid (1024 - sumS P (k + 1) = a1) := Lib.hid (by rw [HSS.out]; omega)
      rw [← ha1] at hAw
      have hb2 : a1 + slotS P k ≤ 1024 := by omega
      have hb3 : 18 + 4 * m ≤ a1 := by omega
      clear ha1 hs1 hem hnz HNX HSLT HSM HILN HKL HSS
      generalize slotS P k = sn at *
      have hO2 := hO.kept (grown_set W ⟨ga, 0, none⟩ (.int .i64 (a1 : Int))) (.inr (fun e => by have := (hO.lt _ e).1; simp at this; omega))
      obtain ⟨A, c, rfl, hby, hc1, hc2⟩ := hO2.form
      rw [HLN.out] at hO hO2 hc1
      try rw [HLN.out]
      have hca : W.cell? ⟨ga, 0, none⟩ = some (.int .i64 ((a1 : Int) + (sn : Int))) := by rw [hAw.cell]; simp
      have hfa := hAw.frozen 0
      have hai : (a1 : Int) + (sn : Int) - (sn : Int) = (a1 : Int) := by omega
      have hsl := fun W => slice_pgl gq a1 (by omega) W
      have HQ1 := Lib.hid (hQw.blk.far (p := ⟨ga, 0, none⟩) (by show gq ≠ ga; omega) (.int .i64 (a1 : Int)))
      have HB1 := Lib.hid (hBw.far (p := ⟨ga, 0, none⟩) (by show w.heap.size + 1 ≠ ga; omega) (.int .i64 (a1 : Int)))
      have HA2 := Lib.hid (hAw.set 0 (.int .i64 (a1 : Int)))
      have HE1 := Lib.hid (hEw.setCell (p := ⟨ga, 0, none⟩) (by show _ ≤ ga; have := HE3.out.size; omega) (.int .i64 (a1 : Int)))
      have HAw := Lib.hid hAw
      have HBY := Lib.hid hby
      have HML : Hid ((itemL P k).length = min sn (1024 - a1)) := Lib.hid (by rw [HLN.out]; omega)
      have HC5 : Hid (a1 + (itemL P k).length ≤ (pkP P k).length) := Lib.hid (by rw [HLN.out, HKLk.out]; omega)
      have HG1 := Lib.hid (grown_set W ⟨ga, 0, none⟩ (.int .i64 (a1 : Int)))
      have hca1 : (W.setCell ⟨ga, 0, none⟩ (.int .i64 (a1 : Int))).cell? ⟨ga, 0, none⟩ = some (.int .i64 (a1 : Int)) := by rw [HA2.out.cell]; rfl
      generalize hW1 : W.setCell ⟨ga, 0, none⟩ (.int .i64 (a1 : Int)) = W1 at *
      clear hby hO2 hO hQw hAw hBw hEw HQ3 HB3 HA3 HP3 HF3 HPK0 HPK HI0
      gi_wp2_with (refine wpListIn_copy8g (w := W1) Try.byt rfl (.tmp 26) (.tmp 27) rfl HQ1.out HBY.out a1 (1024 - a1) (1024 - a1) sn c HML.out (some ⟨gq, a1, none⟩) rfl rfl HC5.out (fun _ => rfl) ?_; intro W5 hB5 hU5; have hA5 := HA2.out.grown hU5.grown (by simp; omega); have hca5 : W5.cell? ⟨ga, 0, none⟩ = some (.int .i64 (a1 : Int)) := (by rw [hA5.cell]; rfl))
      refine ⟨trivial, (CallsIn.inRound l (callsIn_wide.2 (point_pg W5 gq _ k a1 sn (by omega) (by omega) (by omega) ⟨hB5, by rw [over_length _ _ _ HC5.out]; exact HKLk.out⟩))).mono ?_⟩
      rintro e w6 ⟨⟨v6, rfl⟩, hP6, hg6⟩
      gi_wp2_with fail
      have hA6 := hA5.grown hg6 (by simp; omega)
      have hB6 := ((HB1.out.grown hU5.grown (by simp; omega)).grown hg6 (by simp; omega))
      have hE6 := (HE1.out.grown hU5.grown (fun k e => by cases e; omega)).grown hg6 (fun k e => by cases e; omega)
      rw [← HNXk.out] at hP6
      refine ⟨?_, ?_, hP6, ?_, hB6, hE6⟩
      · exact ((KeepsFrom.cells HG1.out HAw.out).trans (KeepsFrom.cells hU5.grown HQ1.out)).trans (KeepsFrom.cells hg6 hB5)
      · refine ((Keeps.grown HG1.out (fun r e => ?_)).trans (Keeps.grown hU5.grown (fun r e => ?_))).trans (Keeps.grown hg6 (fun r e => ?_)) <;> (cases e; refine ⟨by simp; omega, .inl (by omega)⟩)
      · rw [HA1.out]; exact hA6
    case done =>
      rintro D s W hD ⟨hS, _⟩ ⟨hQw, hAw, hBw, hEw⟩ hK
      obtain ⟨hs1, hs2⟩ := hS HRR.out
      rw [hm] at hs1 hs2
      have hs3 := HSM.out m (Nat.le_refl _)
      have hQw2 := hQw
      rw [← pkP_same P s m hs1 hs2] at hQw
      rw [← sumS_same P s m hs1 hs2] at hAw
      have HPK2 := Lib.hid HPK.out
      generalize hat : 1024 - sumS P m = at_ at *
      have hca : W.cell? ⟨ga, 0, none⟩ = some (.int .i64 (at_ : Int)) := by rw [hAw.cell]; rfl
      have KS := Lib.hid (set_pg W gq _ 16 at_ (by omega) (by omega) hQw)
      rw [← HPK.out] at KS
      have HBw := Lib.hid hBw
      have HEw := Lib.hid hEw
      have HKw := Lib.hid hK
      clear hQw hQw2 hBw hEw hK HQ3 HB3 HA3 HP3 HF3 HPK0 HPK HI0 HNX HSLT HSM HILN HKL
      rw [show ((16 : Nat) : Int) = 16 from rfl] at KS
      go_wp2_with fail
      refine KS.out.mono ?_
      rintro e w7 ⟨⟨v7, rfl⟩, hP7, hg7⟩
      have HB7 := Lib.hid (HBw.out.grown hg7 (by simp; omega))
      have HE7 := Lib.hid (HEw.out.grown hg7 (fun k e => by cases e; omega))
      have HK7 : Hid (w7.heap[D]? = some (.deferred (some []))) := Lib.hid ((hg7.block D (Array.getElem?_eq_some_iff.1 HKw.out).1 (by simp; omega)).trans HKw.out)
      have hlp := load_pg hP7.blk hP7.len
      have HP7 := Lib.hid hP7
      clear hP7 hg7 HBw HEw HKw KS
      go_wp2_with (first | (refine wpList_load_g rfl 23 _ rfl _ rfl _ hlp ?_) | (refine wpList_store_row rfl 23 _ _ rfl _ _ rfl rfl _ _ HB7.out (pgSize HQL.out) (by rw [cells8_size, cells8_size, HQL.out, HZ.out]) (cells8_one Q) ?_))
      have hKs : (w7.setRow (w.heap.size + 1) (cells8 Q)).heap[D]? = some (.deferred (some [])) := (setRow_other _ _ _ _ (by omega)).trans HK7.out
      exact postM_mark hKs (results_row2 Try.results12 _ _ (w.heap.size + 1) _ (cells8 Q) (0, 0) _ rfl (Blk.mark (HB7.out.row (cells8 Q)) hKs) Try.pgUnd rfl (pgSize HQL.out)) ⟨rfl, (HE7.out.setRow (by omega) _).mark (by have := HE3.out.size; omega)⟩
    case stop =>
      rintro D c s W _ _ h _
      exact h.elim

end Go.Proofs.Ytgbfeagoadlhmaa
