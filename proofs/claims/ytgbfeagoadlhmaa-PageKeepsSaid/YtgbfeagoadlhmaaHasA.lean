
/-
  The law PageKeeps, walked.
-/
import Derived.Test.YtgbfeagoadlhmaaHasP
import Derived.Test.YtgbfeagoadlhmaaMap
import Derived.Test.YtgbfeagoadlhmaaRooms
import Derived.Deep.CutBlock
set_option linter.unusedVariables false
set_option linter.unusedSimpArgs false
namespace Go.Proofs.Ytgbfeagoadlhmaa
open Go.RowKit Go.Shelf Go.Maps Pl

attribute [local go_sem] Oper.semAt_some

theorem Try.intKeys : Keyed Try.prog 3 := int_keyed Try.underlying3
theorem load_map {w : World} {p : Addr} {b : Nat} (h : w.cell? p = some (.map (some b))) : (Instr.loadAt 43 (.pointer (some p))).run Try.prog w = .ok (.map (some b)) w := by
  simp [go_sem, h]

theorem Try.eltZero (w : World) : (zeroValue 48).run Try.prog w = .ok (.agg #[.string ⟨#[]⟩]) w := by kernel_rfl
theorem key_int {n : Int} (h1 : -9223372036854775808 ≤ n) (h2 : n ≤ 9223372036854775807) : keyOf Try.prog 3 (.int .i64 n) = some (.int .i64 n) :=
  keyOf_int_mk Try.underlying3 (WalkArith.wf_i64 ⟨h1, h2⟩)
theorem load_sl8 {w : World} {p : Addr} {A : Option Addr} {n c : Nat} (h : w.cell? p = some (.slice A n c)) : (Instr.loadAt 24 (.pointer (some p))).run Try.prog w = .ok (.slice A n c) w := by
  simp [go_sem, h]
theorem results_cell1 {P : Program} {fn : Func} {p : Tmp} {ty : TypeId} (h : fn.results = #[.cell p ty]) (tmps : Array Value) (w : World) (g : Nat) (v : Value) (hp : tmps.getD p undef = .pointer (some ⟨g, 0, none⟩)) (hl : (loadVar ty ⟨g, 0, none⟩).run P w = .ok v w) :
    (results fn tmps).run P w = .ok v w := by
  have hp' : tmps[p]?.getD undef = .pointer (some ⟨g, 0, none⟩) := by simpa using hp
  simp [results, h, hp', asAddr, hl]
theorem load_bool {w : World} {g : Nat} {x : Bool} (h : Blk w g 4 #[.bool x]) : (loadVar 4 ⟨g, 0, none⟩).run Try.prog w = .ok (.bool x) w := by
  have hc : w.cell? ⟨g, 0, none⟩ = some (.bool x) := by rw [h.cell]; rfl
  simp [go_sem, hc]

set_option maxHeartbeats 8000000 in
set_option maxRecDepth 100000 in
theorem hases_any (w : World) (A : Option Addr) (fs : List Stp) (c : Nat) (lsn : Nat) (z0 z1 z2 : Int) (hF : Stps w A fs) (hlc : fs.length ≤ c) (hc : c ≤ 9223372036854775807) (hls : lsn < 18446744073709551616)
    (hok : ∀ i, i < fs.length → -9223372036854775808 ≤ (fs.getD i stp0).n ∧ (fs.getD i stp0).n ≤ 9223372036854775807 ∧ (fs.getD i stp0).lsn < 18446744073709551616) :
    Calls Try.prog 5 #[.slice A fs.length c, .int .u64 (lsn : Int), .agg #[.int .i64 z0, .int .i64 z1, .int .i64 z2]] w fun e w' => e = .returned (.bool true) ∧ Ext w w' := by
  have HF := Lib.hid hF
  have HNO : Hid (muchB fs 150 = false → fs.length ≤ 150 ∧ ∀ i, i < fs.length → (fs.getD i stp0).b.length ≤ 60000) := Lib.hid (fun h => much_no h)
  have HOK := Lib.hid hok
  have hz := (zero_of_info Try.page0).1
  have HZ := Lib.hid zeroP_length
  have HB0 := Lib.hid (Blk.new w 40 #[.int .i64 z0, .int .i64 z1, .int .i64 z2])
  have HR0 := Lib.hid (Blk.new (w.alloc (.cells #[.int .i64 z0, .int .i64 z1, .int .i64 z2] 40)) 4 #[.bool false])
  rw [World.size_alloc] at HR0
  have HE0 := Lib.hid ((ext_new w (.cells #[.int .i64 z0, .int .i64 z1, .int .i64 z2] 40)).alloc (.cells #[.bool false] 4))
  clear hok hF
  refine callsIn_wide.1 (callsIn_of_wp_marks (n := 3) Try.func5 rfl trivial (wpIn_wide.2 (wp_quiet ?_)) rfl)
  simp only [Try.ntmps5, List.size_toArray, List.length_cons, List.length_nil, Nat.reduceAdd, Nat.reduceSub, Array.replicate_succ, Array.replicate_zero, List.push_toArray, List.append_toArray, List.nil_append, List.cons_append]
  go_wp2_with fail
  have HB1 := Lib.hid (HB0.out.alloc (.cells #[.bool false] 4))
  generalize (w.alloc (.cells #[.int .i64 z0, .int .i64 z1, .int .i64 z2] 40)).alloc (.cells #[.bool false] 4) = w0 at *
  refine (known5_any w0).mono ?_
  rintro e w1 ⟨rfl, hE1⟩
  have HB1 := Lib.hid (HB1.out.ext hE1)
  have HR1 := Lib.hid (HR0.out.ext hE1)
  have HE1 := Lib.hid (HE0.out.trans hE1)
  clear hE1 HB0 HR0 HE0
  have KM := Lib.hid (much_any w1 A fs c 150 (HF.out.ext HE1.out) (by omega) (by omega))
  rw [show ((150 : Nat) : Int) = 150 from rfl] at KM
  cases hmb : muchB fs 150 with
  | true =>
    rw [hmb] at KM
    clear HNO hmb
    go_wp2_with fail
    refine KM.out.mono ?_
    rintro e w2 ⟨rfl, hE2⟩
    have HR2 := Lib.hid (HR1.out.ext hE2)
    have hcr : ∃ v, w2.cell? ⟨w.heap.size + 1, 0, none⟩ = some v := ⟨_, by rw [HR2.out.cell]; rfl⟩
    have hfr := HR2.out.frozen 0
    obtain ⟨v0, hcr⟩ := hcr
    go_wp2_with fail
    exact postM_ret (results_cell1 Try.results5 _ _ (w.heap.size + 1) (.bool true) rfl (load_bool (HR2.out.set 0 (.bool true)))) ⟨rfl, (HE1.out.trans hE2).setCell (by show _ ≤ w.heap.size + 1; omega) _⟩
  | false =>
    rw [hmb] at KM
    obtain ⟨hn, hbl⟩ := HNO.out hmb
    have HST : Hid (∀ i, i < fs.length → StpOk (fs.getD i stp0)) := Lib.hid (fun i hi => ⟨(HOK.out i hi).1, (HOK.out i hi).2.1, by have := hbl i hi; omega, (HOK.out i hi).2.2⟩)
    have HRN : Hid (∀ k, (runP (initP 1) (fs.take k)).length = 1024 ∧ RightV (runP (initP 1) (fs.take k))) := Lib.hid (fun k => runP_right (initP_length 1) init_right _)
    have HRS : Hid (∀ k, k < fs.length → runP (initP 1) (fs.take (k + 1)) = if (fs.getD k stp0).kind = 5 then runP (initP 1) (fs.take k) else doQ (runP (initP 1) (fs.take k)) (fs.getD k stp0)) := Lib.hid (fun k hk => runP_succ _ fs k hk)
    have HR0 : Hid (runP (initP 1) (fs.take 0) = initP 1) := Lib.hid rfl
    have HPL0 := Lib.hid (initP_length 1)
    have HI0 : Hid (IsHas (fun _ => none) (initP 1) ∧ itemsN (initP 1) = 0) := Lib.hid ⟨IsHas.start (fun _ => rfl) (by decide +kernel), by decide +kernel⟩
    have KI := Lib.hid (fun W => Init_pg W 1)
    rw [show (((1 : UInt8).toNat : Nat) : Int) = 1 from rfl] at KI
    generalize initP 1 = P0 at *
    clear HNO hmb HOK hbl
    generalize hln : fs.length = len at *
    generalize zeroP = Z at *
    go_wp2_with fail
    refine KM.out.mono ?_
    rintro e w2 ⟨rfl, hE2⟩
    have HB2 := Lib.hid (HB1.out.ext hE2)
    have HR2 := Lib.hid (HR1.out.ext hE2)
    have HE2 := Lib.hid (HE1.out.trans hE2)
    clear hE2 KM HB1 HR1 HE1
    go_wp2_with fail
    refine (KI.out w2).mono ?_
    rintro e w3 ⟨rfl, hE3⟩
    have HN3 := Lib.hid (Blk.new w3 23 (cells8 Z))
    have HX3 := Lib.hid (((Ext.refl w3).alloc (.cells (cells8 Z) 23)).setRow (Nat.le_refl _) (cells8 P0))
    have HB3 := Lib.hid ((HB2.out.ext hE3).ext HX3.out)
    have HR3 := Lib.hid ((HR2.out.ext hE3).ext HX3.out)
    have HE3 := Lib.hid ((HE2.out.trans hE3).trans HX3.out)
    have HP3 : Hid (Pg ((w3.alloc (.cells (cells8 Z) 23)).setRow w3.heap.size (cells8 P0)) w3.heap.size P0) := Lib.hid ⟨HN3.out.row _, HPL0.out⟩
    have hg3 : w.heap.size + 1 < w3.heap.size := (HR2.out.ext hE3).lt
    clear hE3 HB2 HR2 HE2 KI
    have hmm := @run_makeMap Try.prog
    go_wp2_with (refine wpList_store_row rfl 23 _ _ rfl _ _ rfl rfl _ _ HN3.out (pgSize HPL0.out) (by rw [cells8_size, cells8_size, HPL0.out, HZ.out]) (cells8_one _) ?_; generalize (w3.alloc (.cells (cells8 Z) 23)).setRow w3.heap.size (cells8 P0) = w4 at *)
    have HM5 := Lib.hid ((Mp.made w4 Try.prog 3).ext (ext_new _ (.cells #[.map (some w4.heap.size)] 43)))
    have HV5 := Lib.hid (Blk.new (w4.alloc (.map #[] 0)) 43 #[.map (some w4.heap.size)])
    rw [World.size_alloc] at HV5
    have HX5 := Lib.hid (((Ext.refl w4).alloc (.map #[] 0)).alloc (.cells #[.map (some w4.heap.size)] 43))
    have HB5 := Lib.hid (HB3.out.ext HX5.out)
    have HR5 := Lib.hid (HR3.out.ext HX5.out)
    have HE5 := Lib.hid (HE3.out.trans HX5.out)
    have HP5 := Lib.hid (HP3.out.ext HX5.out)
    have hgp : w3.heap.size < w4.heap.size := HP3.out.blk.lt
    clear HB3 HR3 HE3 HP3 HN3 HX3 HX5 hmm
    generalize (w4.alloc (.map #[] 0)).alloc (.cells #[.map (some w4.heap.size)] 43) = w5 at *
    generalize w4.heap.size = gm at *
    generalize w3.heap.size = gp at *
    go_loopw [9] (fun i wr => ∃ (k : Nat) (F : Lit → Option Value), k ≤ len ∧ i = .int .i64 k ∧ Pg wr gp (runP P0 (fs.take k)) ∧ Mp Try.prog 3 wr gm k F (itemsN (runP P0 (fs.take k))) ∧ IsHas F (runP P0 (fs.take k)) ∧ Blk wr (gm + 1) 43 #[.map (some gm)] ∧
      Blk wr w.heap.size 40 #[.int .i64 z0, .int .i64 z1, .int .i64 z2] ∧ Blk wr (w.heap.size + 1) 4 #[.bool false] ∧ Ext w wr) (fun i _ => len - (intOf i).toNat)
    case atStart => exact ⟨0, _, by omega, rfl, (by rw [HR0.out]; exact HP5.out), (by rw [HR0.out, HI0.out.2]; exact HM5.out), (by rw [HR0.out]; exact HI0.out.1), HV5.out, HB5.out, HR5.out, HE5.out⟩
    case round =>
      obtain ⟨k, F, hk, rfl, hP, hM, hI, hV, hB, hR, hE⟩ := hrel
      have HP := Lib.hid hP
      have HM := Lib.hid hM
      have HI := Lib.hid hI
      have HV := Lib.hid hV
      have HB := Lib.hid hB
      have HR := Lib.hid hR
      have HE := Lib.hid hE
      clear hP hM hI hV hB hR hE HP5 HM5 HV5 HB5 HR5 HE5 HR0 HI0 HPL0
      by_cases hlt : k < len
      ·
        -- DONE
        have hld : decide ((k : Int) < (len : Int)) = true := by simp; omega
        obtain ⟨g, o, rfl, d0, d1, ⟨Ai, ci, d2, hbw, _, _⟩, d3, d4⟩ := HF.out.at_ (i := k) (by omega)
        have HGL : Hid (g < w.heap.size) := Lib.hid (block_lt_of_cell d0)
        have HBW := Lib.hid hbw
        have hby := hbw.ext HE.out
        have c0 := HE.out.cell d0
        have c1 := HE.out.cell d1
        have c2 := HE.out.cell d2
        have c3 := HE.out.cell d3
        have c4 := HE.out.cell d4
        clear d0 d1 d2 d3 d4 hbw
        have HSk := Lib.hid (HRS.out k hlt)
        have HOk := Lib.hid (HST.out k hlt)
        have HLS : Hid (∀ W, Ext wr W → (Instr.loadAt 45 (.pointer (some ⟨g, o + k * 5, none⟩))).run Try.prog W = .ok (.agg (stepC (fs.getD k stp0) Ai ci)) W) := Lib.hid (fun W hW => load_stp (hW.cell c0) (hW.cell c1) (hW.cell c2) (hW.cell c3) (hW.cell c4))
        have HBY := Lib.hid hby
        have HC0 : Hid (∀ W, Ext wr W → W.cell? ⟨g, o + k * 5, none⟩ = some (.int .i64 (fs.getD k stp0).kind) ∧ W.cell? ⟨g, o + k * 5 + 1, none⟩ = some (.int .i64 (fs.getD k stp0).n) ∧ W.cell? ⟨g, o + k * 5 + 2, none⟩ = some (.slice Ai (fs.getD k stp0).b.length ci)) := Lib.hid (fun W hW => ⟨hW.cell c0, hW.cell c1, hW.cell c2⟩)
        have HRk := Lib.hid (HRN.out k)
        generalize hsk : fs.getD k stp0 = s at *
        clear hsk c1 c2 c3 c4 hby
        by_cases h5 : s.kind = 5
        · rw [if_pos h5] at HSk
          rw [h5] at c0
          clear HLS HBY HOk h5 HC0
          go_wp2_with fail
          exact ⟨⟨k + 1, F, by omega, by go_num, by rw [HSk.out]; exact HP.out, by rw [HSk.out]; exact HM.out.mono (by omega), by rw [HSk.out]; exact HI.out, HV.out, HB.out, HR.out, HE.out⟩, by simp [intOf]; omega⟩
        · rw [if_neg h5] at HSk
          have h5b : (s.kind == 5) = false := by rw [beq_eq_false_iff_ne]; exact h5
          have HND := Lib.hid h5
          have HQL := Lib.hid (HRN.out (k + 1))
          obtain ⟨Q, hQd⟩ : ∃ Q, runP P0 (fs.take (k + 1)) = Q := ⟨_, rfl⟩
          rw [hQd] at HQL HSk
          have HQD := Lib.hid hQd
          clear hQd h5
          generalize runP P0 (fs.take k) = P at *
          have HKD := Lib.hid (fun W (hW : Ext wr W) => do_stp W P HRk.out.1 s Ai ci (HBY.out.ext hW) HOk.out HND.out)
          rw [← HSk.out] at HKD
          go_upto_region 11 with fail
          clear h5b
          go_cut [10, 11, 12] from 32 to 105 (fun s5 s6 s7 wx => ∃ gq, s5 = .pointer (some ⟨gq, 0, none⟩) ∧ s6 = .int .i64 (rawN P s : Int) ∧ s7 = .int .i64 (rawE P s : Int) ∧ Blk wx gq 23 (cells8 Q) ∧ wr.heap.size ≤ gq ∧ Ext wr wx)
          case first =>
            have HX := Ext.refl wr.drew
            refine wp_eager (rs_pre 23 wr.drew.heap.size) (n := 14) (by kernel_rfl) (by kernel_rfl) ?_
            refine Eg.batchK (rs_pre 23 wr.drew.heap.size) (by intro c a d v w h; cases d <;> exact h) (by kernel_rfl) (n := 11) [1, 2, 3] [] _ (by kernel_rfl) (fun K hK => ?_); (simp only [pickOps, List.getElem?_toArray, List.getElem?_cons_zero, List.getElem?_cons_succ, Option.toList_some, List.cons_append, List.nil_append]); (repeat (first | go_big_quiet_step (fail) | quiet_step (fail))); refine wpQuiet_nil (hK _ ?_); clear hK K
            (refine Eg.read (rs_pre 23 wr.drew.heap.size) (by intro c a d v w h; cases d <;> exact h) (by kernel_rfl) (i := 0) (n := 10) (l := [1, 2, 3]) rfl (by kernel_rfl) (by kernel_rfl) rfl ⟨_, fun w' hR => load_run rfl (load_pg (HP.out.ext ((Ext.refl wr).drew.trans hR.1)).blk HRk.out.1), ?_⟩); (simp only [Act.put, List.setIfInBounds_toArray, List.getElem_toArray, List.getElem_cons_succ, List.getElem_cons_zero, List.set_cons_succ, List.set_cons_zero])
            (refine Eg.read (rs_pre 23 wr.drew.heap.size) (by intro c a d v w h; cases d <;> exact h) (by kernel_rfl) (i := 4) (n := 9) (l := [1, 2, 3, 0]) rfl (by kernel_rfl) (by kernel_rfl) rfl ⟨_, fun w' hR => load_run rfl (HLS.out w' ((Ext.refl wr).drew.trans hR.1)), ?_⟩); (simp only [Act.put, List.setIfInBounds_toArray, List.getElem_toArray, List.getElem_cons_succ, List.getElem_cons_zero, List.set_cons_succ, List.set_cons_zero])
            refine Eg.two ((rs_pre 23 wr.drew.heap.size)) (i := 5) (j := 10) (n := 8) (l := [1, 2, 3, 0, 4]) rfl rfl (by kernel_rfl) ?_ ?_
            · go_wp2_with fail
              refine (HKD.out _ ((Ext.refl wr).drew.trans HX)).mono ?_
              rintro e w9 ⟨rfl, hEc⟩
              go_wp2_with fail
              refine ⟨Rs.of_ext hEc HX.size, ?_⟩
              replace HX := HX.trans hEc
              try replace hBq := hBq.ext hEc
              refine Eg.batchK (rs_pre 23 wr.drew.heap.size) (by intro c a d v w h; cases d <;> exact h) (by kernel_rfl) (n := 4) [6, 7, 8, 9] [1, 2, 3, 0, 4, 5] _ (by kernel_rfl) (fun K hK => ?_); (simp only [pickOps, List.getElem?_toArray, List.getElem?_cons_zero, List.getElem?_cons_succ, Option.toList_some, List.cons_append, List.nil_append]); (repeat (first | go_big_quiet_step (fail) | quiet_step (fail))); refine wpQuiet_nil (hK _ ?_); clear hK K
              refine Eg.act (rs_pre 23 wr.drew.heap.size) (i := 10) (n := 3) (l := [1, 2, 3, 0, 4, 5, 6, 7, 8, 9]) rfl (by kernel_rfl) ?_
              go_wp2_with fail
              generalize hwn : World.alloc _ (.cells (cells8 Z) 23) = wn
              obtain ⟨hBq, hEn⟩ := alloc_facts hwn
              have hgq := HX.size
              first | (refine ⟨Rs.of_ext hEn hgq, ?_⟩) | (replace hEn := ext_drew2 hEn; replace hBq := Blk.drew hBq; refine ⟨Rs.of_ext hEn hgq, ?_⟩)
              replace HX := HX.trans hEn
              clear hwn
              refine Eg.act (rs_pre 23 wr.drew.heap.size) (i := 11) (n := 2) (l := [1, 2, 3, 0, 4, 5, 6, 7, 8, 9, 10]) rfl (by kernel_rfl) ?_
              go_wp2_with (refine wpList_store_row rfl 23 _ _ rfl _ _ rfl rfl _ _ hBq (pgSize HQL.out.1) (by rw [cells8_size, cells8_size, HQL.out.1, HZ.out]) (cells8_one _) ?_)
              refine ⟨Rs.setRow hgq hBq _ (by rw [cells8_size, cells8_size, HQL.out.1, HZ.out]), ?_⟩
              refine Eg.batchK (rs_pre 23 wr.drew.heap.size) (by intro c a d v w h; cases d <;> exact h) (by kernel_rfl) (n := 0) [12, 13] [1, 2, 3, 0, 4, 5, 6, 7, 8, 9, 10, 11] _ (by kernel_rfl) (fun K hK => ?_); (simp only [pickOps, List.getElem?_toArray, List.getElem?_cons_zero, List.getElem?_cons_succ, Option.toList_some, List.cons_append, List.nil_append]); (repeat (first | go_big_quiet_step (fail) | quiet_step (fail))); refine wpQuiet_nil (hK _ ?_); clear hK K
              refine Eg.finish (by kernel_rfl) ?_
              go_wp2_with fail
              go_meet
              exact ⟨_, rfl, rfl, rfl, hBq.row _, hgq, ((Ext.refl wr).drew.trans HX).setRow hgq _⟩
            · go_wp2_with fail
              generalize hwn : World.alloc _ (.cells (cells8 Z) 23) = wn
              obtain ⟨hBq, hEn⟩ := alloc_facts hwn
              have hgq := HX.size
              first | (refine ⟨Rs.of_ext hEn hgq, ?_⟩) | (replace hEn := ext_drew2 hEn; replace hBq := Blk.drew hBq; refine ⟨Rs.of_ext hEn hgq, ?_⟩)
              replace HX := HX.trans hEn
              clear hwn
              refine Eg.act (rs_pre 23 wr.drew.heap.size) (i := 5) (n := 7) (l := [1, 2, 3, 0, 4, 10]) rfl (by kernel_rfl) ?_
              go_wp2_with fail
              refine (HKD.out _ ((Ext.refl wr).drew.trans HX)).mono ?_
              rintro e w9 ⟨rfl, hEc⟩
              go_wp2_with fail
              refine ⟨Rs.of_ext hEc HX.size, ?_⟩
              replace HX := HX.trans hEc
              try replace hBq := hBq.ext hEc
              refine Eg.batchK (rs_pre 23 wr.drew.heap.size) (by intro c a d v w h; cases d <;> exact h) (by kernel_rfl) (n := 3) [6, 7, 8, 9] [1, 2, 3, 0, 4, 10, 5] _ (by kernel_rfl) (fun K hK => ?_); (simp only [pickOps, List.getElem?_toArray, List.getElem?_cons_zero, List.getElem?_cons_succ, Option.toList_some, List.cons_append, List.nil_append]); (repeat (first | go_big_quiet_step (fail) | quiet_step (fail))); refine wpQuiet_nil (hK _ ?_); clear hK K
              refine Eg.act (rs_pre 23 wr.drew.heap.size) (i := 11) (n := 2) (l := [1, 2, 3, 0, 4, 10, 5, 6, 7, 8, 9]) rfl (by kernel_rfl) ?_
              go_wp2_with (refine wpList_store_row rfl 23 _ _ rfl _ _ rfl rfl _ _ hBq (pgSize HQL.out.1) (by rw [cells8_size, cells8_size, HQL.out.1, HZ.out]) (cells8_one _) ?_)
              refine ⟨Rs.setRow hgq hBq _ (by rw [cells8_size, cells8_size, HQL.out.1, HZ.out]), ?_⟩
              refine Eg.batchK (rs_pre 23 wr.drew.heap.size) (by intro c a d v w h; cases d <;> exact h) (by kernel_rfl) (n := 0) [12, 13] [1, 2, 3, 0, 4, 10, 5, 6, 7, 8, 9, 11] _ (by kernel_rfl) (fun K hK => ?_); (simp only [pickOps, List.getElem?_toArray, List.getElem?_cons_zero, List.getElem?_cons_succ, Option.toList_some, List.cons_append, List.nil_append]); (repeat (first | go_big_quiet_step (fail) | quiet_step (fail))); refine wpQuiet_nil (hK _ ?_); clear hK K
              refine Eg.finish (by kernel_rfl) ?_
              go_wp2_with fail
              go_meet
              exact ⟨_, rfl, rfl, rfl, hBq.row _, hgq, ((Ext.refl wr).drew.trans HX).setRow hgq _⟩
          case rest =>
          obtain ⟨gq, rfl, rfl, rfl, hBq, hgp2, hEq⟩ := hcut
          obtain ⟨w6, rfl⟩ : ∃ w6 : World, w6 = wc := ⟨_, rfl⟩
          have HBq := Lib.hid hBq
          have HP6 := Lib.hid (HP.out.ext hEq)
          have HM6 := Lib.hid (HM.out.ext hEq)
          have HV6 := Lib.hid (HV.out.ext hEq)
          have HB6 := Lib.hid (HB.out.ext hEq)
          have HR6 := Lib.hid (HR.out.ext hEq)
          have HE6 := Lib.hid (HE.out.trans hEq)
          have HEq := Lib.hid hEq
          have hgl := HV.out.lt
          clear hBq hEq HP HM HV HB HR HE HLS HKD
          have HDQ : Hid (doQ P s = if rawE P s = 0 then rawQ P s else P) := Lib.hid rfl
          rw [← HSk.out] at HDQ
          by_cases hz0 : rawE P s = 0
          · rw [if_pos hz0] at HDQ
            rw [hz0, show ((0 : Nat) : Int) = 0 from rfl]
            have hcv : w6.cell? ⟨gm + 1, 0, none⟩ = some (.map (some gm)) := by rw [HV6.out.cell]; rfl
            obtain ⟨c0, c1, c2⟩ := HC0.out w6 HEq.out
            go_upto_block 2 with fail
            go_cut [] from 32 to 105 (fun wx => ∃ F', Mp Try.prog 3 wx gm (k + 1) F' (itemsN Q) ∧ IsHas F' Q ∧ Pg wx gp P ∧ Blk wx gq 23 (cells8 Q) ∧ Blk wx (gm + 1) 43 #[.map (some gm)] ∧
              Blk wx w.heap.size 40 #[.int .i64 z0, .int .i64 z1, .int .i64 z2] ∧ Blk wx (w.heap.size + 1) 4 #[.bool false] ∧ Ext w wx)
            case first =>
              by_cases k1 : s.kind = 1
              · have hE : insE P s.b.length = 0 := by unfold rawE at hz0; rw [if_pos k1] at hz0; exact hz0
                have hQ : rawQ P s = insR P s.b := by unfold rawQ; rw [if_pos k1]
                have hN : rawN P s = insN P s.b.length := by unfold rawN; rw [if_pos k1]
                obtain ⟨hFn, hI', hcnt⟩ := ins_has HRk.out.1 HRk.out.2 hE HI.out
                rw [← hN] at hFn hI'
                rw [← hQ, ← HDQ.out] at hI' hcnt
                have hsn : rawN P s ≤ 65536 := by rw [hN]; unfold insN; split <;> first | (have := emptyN_le P (num2 P 14); have := num2_lt P 14; omega) | omega
                have hkey := key_int (n := (rawN P s : Int)) (by omega) (by omega)
                have HI' := Lib.hid hI'
                rw [k1]
                rw [k1] at c0
                generalize rawN P s = sn at *
                clear hI' hE hQ hN HOk HDQ HSk HND HI
                go_upto_region 18 with (refine wpList_run_g rfl _ (lookup_none HM6.out Try.intKeys Try.underlying43 (Try.eltZero _) hkey hFn rfl rfl rfl) ?_)
                have HX7 := Lib.hid (ext_new w6 (.cells #[.string ⟨#[]⟩] 48))
                have HM7 := Lib.hid (HM6.out.ext HX7.out)
                have HP7 := Lib.hid (HP6.out.ext HX7.out)
                have HQ7 := Lib.hid (HBq.out.ext HX7.out)
                have HV7 := Lib.hid (HV6.out.ext HX7.out)
                have HB7 := Lib.hid (HB6.out.ext HX7.out)
                have HR7 := Lib.hid (HR6.out.ext HX7.out)
                have HE7 := Lib.hid (HE6.out.trans HX7.out)
                have hcv7 := HX7.out.cell hcv
                have hc27 := HX7.out.cell c2
                have hgm := HM6.out.lt
                clear HM6 HP6 HBq HV6 HB6 HR6 HE6 hcv c0 c1 c2 HBY
                generalize w6.alloc (.cells #[.string ⟨#[]⟩] 48) = w7 at *
                refine wp_eager (grow_pre gm) (n := 10) (by kernel_rfl) (by kernel_rfl) ?_
                refine Eg.batchK (grow_pre gm) (by intro c a d v w h; cases d <;> exact h) (by kernel_rfl) (n := 5) [1, 2, 3, 4, 5] [] _ (by kernel_rfl) (fun K hK => ?_); (simp only [pickOps, List.getElem?_toArray, List.getElem?_cons_zero, List.getElem?_cons_succ, Option.toList_some, List.cons_append, List.nil_append]); (repeat (first | go_big_quiet_step (fail) | quiet_step (fail))); refine wpQuiet_nil (hK _ ?_); clear hK K
                (refine Eg.read (grow_pre gm) (by intro c a d v w h; cases d <;> exact h) (by kernel_rfl) (i := 0) (n := 4) (l := [1, 2, 3, 4, 5]) rfl (by kernel_rfl) (by kernel_rfl) rfl ⟨_, fun w' hR => load_run rfl (load_map (cell_grown (w := w7.drew) hcv7 hR (by simp))), ?_⟩); (simp only [Act.put, List.setIfInBounds_toArray, List.getElem_toArray, List.getElem_cons_succ, List.getElem_cons_zero, List.set_cons_succ, List.set_cons_zero])
                (refine Eg.read (grow_pre gm) (by intro c a d v w h; cases d <;> exact h) (by kernel_rfl) (i := 6) (n := 3) (l := [1, 2, 3, 4, 5, 0]) rfl (by kernel_rfl) (by kernel_rfl) rfl ⟨_, fun w' hR => load_run rfl (load_sl8 (cell_grown (w := w7.drew) hc27 hR (by simp; have := HGL.out; omega))), ?_⟩); (simp only [Act.put, List.setIfInBounds_toArray, List.getElem_toArray, List.getElem_cons_succ, List.getElem_cons_zero, List.set_cons_succ, List.set_cons_zero])
                (refine Eg.read (grow_pre gm) (by intro c a d v w h; cases d <;> exact h) (by kernel_rfl) (i := 7) (n := 2) (l := [1, 2, 3, 4, 5, 0, 6]) rfl (by kernel_rfl) (by kernel_rfl) rfl ⟨_, fun w' hR => convert_run rfl (str_any (By.keep HBW.out (fun p v hv => cell_grown (w := w7.drew) (HE7.out.cell hv) hR (by simp; have := block_lt_of_cell hv; omega))) ci), ?_⟩); (simp only [Act.put, List.setIfInBounds_toArray, List.getElem_toArray, List.getElem_cons_succ, List.getElem_cons_zero, List.set_cons_succ, List.set_cons_zero])
                refine Eg.batchK (grow_pre gm) (by intro c a d v w h; cases d <;> exact h) (by kernel_rfl) (n := 1) [8] [1, 2, 3, 4, 5, 0, 6, 7] _ (by kernel_rfl) (fun K hK => ?_); (simp only [pickOps, List.getElem?_toArray, List.getElem?_cons_zero, List.getElem?_cons_succ, Option.toList_some, List.cons_append, List.nil_append]); (repeat (first | go_big_quiet_step (fail) | quiet_step (fail))); refine wpQuiet_nil (hK _ ?_); clear hK K
                refine Eg.act (grow_pre gm) (i := 9) (n := 0) (l := [1, 2, 3, 4, 5, 0, 6, 7, 8]) rfl (by kernel_rfl) ?_
                go_wp2_with (refine wpList_store_mp HM7.out.drew Try.intKeys Try.underlying43 (by unfold maxLen; omega) rfl _ _ _ rfl rfl rfl hkey (elt s.b) rfl ?_; intro w8 hM8 hG8)
                refine ⟨hG8, ?_⟩
                refine Eg.finish (by kernel_rfl) ?_
                go_wp2_with fail
                go_meet
                simp only [hFn, Option.isSome_none, Bool.false_eq_true, if_false] at hM8
                rw [← hcnt] at hM8
                exact ⟨_, hM8, HI'.out, ⟨HP7.out.blk.drew.grown hG8 (by simp; omega), HP7.out.len⟩, HQ7.out.drew.grown hG8 (by simp; omega), HV7.out.drew.grown hG8 (by simp), HB7.out.drew.grown hG8 (by simp; omega), HR7.out.drew.grown hG8 (by simp; omega), HE7.out.drew.grown hG8 (fun r e => by cases e; omega)⟩
              · by_cases k2 : s.kind = 2
                · have hE : itemE P s.n = 0 := by unfold rawE at hz0; rw [if_neg k1, if_pos k2] at hz0; exact hz0
                  have hQ : rawQ P s = dropR P s.n := by unfold rawQ; rw [if_neg k1, if_pos k2]
                  obtain ⟨hI', hcnt, hFs⟩ := drop_has HRk.out.1 HRk.out.2 hE HI.out
                  rw [← hQ, ← HDQ.out] at hI' hcnt
                  have hkey := key_int HOk.out.n1 HOk.out.n2
                  have HI' := Lib.hid hI'
                  rw [k2]
                  rw [k2] at c0
                  generalize s.n = zn at *
                  have hgm := HM6.out.lt
                  clear hI' hE hQ HOk HDQ HSk HND HI
                  go_upto_region 20 with fail
                  refine wp_eager (grow_pre gm) (n := 7) (by kernel_rfl) (by kernel_rfl) ?_
                  refine Eg.batchK (grow_pre gm) (by intro c a d v w h; cases d <;> exact h) (by kernel_rfl) (n := 3) [1, 2, 3, 4] [] _ (by kernel_rfl) (fun K hK => ?_); (simp only [pickOps, List.getElem?_toArray, List.getElem?_cons_zero, List.getElem?_cons_succ, Option.toList_some, List.cons_append, List.nil_append]); (repeat (first | go_big_quiet_step (fail) | quiet_step (fail))); refine wpQuiet_nil (hK _ ?_); clear hK K
                  (refine Eg.read (grow_pre gm) (by intro c a d v w h; cases d <;> exact h) (by kernel_rfl) (i := 0) (n := 2) (l := [1, 2, 3, 4]) rfl (by kernel_rfl) (by kernel_rfl) rfl ⟨_, fun w' hR => load_run rfl (load_map (cell_grown (w := w6.drew) hcv hR (by simp))), ?_⟩); (simp only [Act.put, List.setIfInBounds_toArray, List.getElem_toArray, List.getElem_cons_succ, List.getElem_cons_zero, List.set_cons_succ, List.set_cons_zero])
                  (refine Eg.read (grow_pre gm) (by intro c a d v w h; cases d <;> exact h) (by kernel_rfl) (i := 5) (n := 1) (l := [1, 2, 3, 4, 0]) rfl (by kernel_rfl) (by kernel_rfl) rfl ⟨_, fun w' hR => load_run rfl (load_i64 (cell_grown (w := w6.drew) c1 hR (by simp; have := HGL.out; omega))), ?_⟩); (simp only [Act.put, List.setIfInBounds_toArray, List.getElem_toArray, List.getElem_cons_succ, List.getElem_cons_zero, List.set_cons_succ, List.set_cons_zero])
                  refine Eg.act (grow_pre gm) (i := 6) (n := 0) (l := [1, 2, 3, 4, 0, 5]) rfl (by kernel_rfl) ?_
                  go_wp2_with (refine wpList_delete_mp HM6.out.drew Try.intKeys Try.underlying43 rfl _ _ rfl rfl rfl hkey ?_; intro w8 c8 hM8 hc8 hG8)
                  refine ⟨hG8, ?_⟩
                  refine Eg.finish (by kernel_rfl) ?_
                  go_wp2_with fail
                  go_meet
                  rw [hFs, if_pos rfl] at hc8
                  obtain rfl : c8 = itemsN Q := by omega
                  exact ⟨_, hM8.mono (by omega), HI'.out, ⟨HP6.out.blk.drew.grown hG8 (by simp; omega), HP6.out.len⟩, HBq.out.drew.grown hG8 (by simp; omega), HV6.out.drew.grown hG8 (by simp), HB6.out.drew.grown hG8 (by simp; omega), HR6.out.drew.grown hG8 (by simp; omega), HE6.out.drew.grown hG8 (fun r e => by cases e; omega)⟩
                · by_cases k3 : s.kind = 3
                  · have hE : setE P s.n s.b.length = 0 := by unfold rawE at hz0; rw [if_neg k1, if_neg k2, if_pos k3] at hz0; exact hz0
                    have hQ : rawQ P s = setR P s.n s.b := by unfold rawQ; rw [if_neg k1, if_neg k2, if_pos k3]
                    obtain ⟨hI', hcnt, hFs⟩ := set_hasM HRk.out.1 HRk.out.2 hE HI.out
                    rw [← hQ, ← HDQ.out] at hI' hcnt
                    have hkey := key_int HOk.out.n1 HOk.out.n2
                    have HI' := Lib.hid hI'
                    rw [k3]
                    rw [k3] at c0
                    have hgm := HM6.out.lt
                    clear hI' hE hQ HOk HDQ HSk HND HI
                    generalize s.n = zn at *
                    go_upto_region 22 with fail
                    refine wp_eager (grow_pre gm) (n := 14) (by kernel_rfl) (by kernel_rfl) ?_
                    refine Eg.batchK (grow_pre gm) (by intro c a d v w h; cases d <;> exact h) (by kernel_rfl) (n := 6) [1, 2, 3, 4, 6, 7, 8, 9] [] _ (by kernel_rfl) (fun K hK => ?_); (simp only [pickOps, List.getElem?_toArray, List.getElem?_cons_zero, List.getElem?_cons_succ, Option.toList_some, List.cons_append, List.nil_append]); (repeat (first | go_big_quiet_step (fail) | quiet_step (fail))); refine wpQuiet_nil (hK _ ?_); clear hK K
                    (refine Eg.read (grow_pre gm) (by intro c a d v w h; cases d <;> exact h) (by kernel_rfl) (i := 0) (n := 5) (l := [1, 2, 3, 4, 6, 7, 8, 9]) rfl (by kernel_rfl) (by kernel_rfl) rfl ⟨_, fun w' hR => load_run rfl (load_map (cell_grown (w := w6.drew) hcv hR (by simp))), ?_⟩); (simp only [Act.put, List.setIfInBounds_toArray, List.getElem_toArray, List.getElem_cons_succ, List.getElem_cons_zero, List.set_cons_succ, List.set_cons_zero])
                    (refine Eg.read (grow_pre gm) (by intro c a d v w h; cases d <;> exact h) (by kernel_rfl) (i := 5) (n := 4) (l := [1, 2, 3, 4, 6, 7, 8, 9, 0]) rfl (by kernel_rfl) (by kernel_rfl) rfl ⟨_, fun w' hR => load_run rfl (load_i64 (cell_grown (w := w6.drew) c1 hR (by simp; have := HGL.out; omega))), ?_⟩); (simp only [Act.put, List.setIfInBounds_toArray, List.getElem_toArray, List.getElem_cons_succ, List.getElem_cons_zero, List.set_cons_succ, List.set_cons_zero])
                    (refine Eg.read (grow_pre gm) (by intro c a d v w h; cases d <;> exact h) (by kernel_rfl) (i := 10) (n := 3) (l := [1, 2, 3, 4, 6, 7, 8, 9, 0, 5]) rfl (by kernel_rfl) (by kernel_rfl) rfl ⟨_, fun w' hR => load_run rfl (load_sl8 (cell_grown (w := w6.drew) c2 hR (by simp; have := HGL.out; omega))), ?_⟩); (simp only [Act.put, List.setIfInBounds_toArray, List.getElem_toArray, List.getElem_cons_succ, List.getElem_cons_zero, List.set_cons_succ, List.set_cons_zero])
                    (refine Eg.read (grow_pre gm) (by intro c a d v w h; cases d <;> exact h) (by kernel_rfl) (i := 11) (n := 2) (l := [1, 2, 3, 4, 6, 7, 8, 9, 0, 5, 10]) rfl (by kernel_rfl) (by kernel_rfl) rfl ⟨_, fun w' hR => convert_run rfl (str_any (By.keep HBW.out (fun p v hv => cell_grown (w := w6.drew) (HE6.out.cell hv) hR (by simp; have := block_lt_of_cell hv; omega))) ci), ?_⟩); (simp only [Act.put, List.setIfInBounds_toArray, List.getElem_toArray, List.getElem_cons_succ, List.getElem_cons_zero, List.set_cons_succ, List.set_cons_zero])
                    refine Eg.batchK (grow_pre gm) (by intro c a d v w h; cases d <;> exact h) (by kernel_rfl) (n := 1) [12] [1, 2, 3, 4, 6, 7, 8, 9, 0, 5, 10, 11] _ (by kernel_rfl) (fun K hK => ?_); (simp only [pickOps, List.getElem?_toArray, List.getElem?_cons_zero, List.getElem?_cons_succ, Option.toList_some, List.cons_append, List.nil_append]); (repeat (first | go_big_quiet_step (fail) | quiet_step (fail))); refine wpQuiet_nil (hK _ ?_); clear hK K
                    refine Eg.act (grow_pre gm) (i := 13) (n := 0) (l := [1, 2, 3, 4, 6, 7, 8, 9, 0, 5, 10, 11, 12]) rfl (by kernel_rfl) ?_
                    go_wp2_with (refine wpList_store_mp HM6.out.drew Try.intKeys Try.underlying43 (by unfold maxLen; omega) rfl _ _ _ rfl rfl rfl hkey (elt s.b) rfl ?_; intro w8 hM8 hG8)
                    refine ⟨hG8, ?_⟩
                    refine Eg.finish (by kernel_rfl) ?_
                    go_wp2_with fail
                    go_meet
                    rw [hFs, if_pos rfl, ← hcnt] at hM8
                    exact ⟨_, hM8, HI'.out, ⟨HP6.out.blk.drew.grown hG8 (by simp; omega), HP6.out.len⟩, HBq.out.drew.grown hG8 (by simp; omega), HV6.out.drew.grown hG8 (by simp), HB6.out.drew.grown hG8 (by simp; omega), HR6.out.drew.grown hG8 (by simp; omega), HE6.out.drew.grown hG8 (fun r e => by cases e; omega)⟩
                  · have hII : IsHas F Q ∧ itemsN Q = itemsN P := by
                      rw [HDQ.out]
                      unfold rawQ
                      rw [if_neg k1, if_neg k2, if_neg k3]
                      by_cases k4 : s.kind = 4
                      · rw [if_pos k4]; exact pack_has HRk.out.1 HRk.out.2 HI.out
                      rw [if_neg k4]
                      by_cases k6 : s.kind = 6
                      · rw [if_pos k6]; exact seal_has HRk.out.1 HRk.out.2 s.lsn HI.out
                      rw [if_neg k6]; exact ⟨HI.out, rfl⟩
                    have HII := Lib.hid hII
                    have b1 : (s.kind == 1) = false := by rw [beq_eq_false_iff_ne]; exact k1
                    have b2 : (s.kind == 2) = false := by rw [beq_eq_false_iff_ne]; exact k2
                    have b3 : (s.kind == 3) = false := by rw [beq_eq_false_iff_ne]; exact k3
                    clear hII k1 k2 k3 HDQ HSk HND
                    go_wp2_with fail
                    go_meet
                    exact ⟨F, by rw [HII.out.2]; exact HM6.out.mono (by omega), HII.out.1, HP6.out, HBq.out, HV6.out, HB6.out, HR6.out, HE6.out⟩
            case rest =>
              obtain ⟨F', hM, hI, hP, hQ, hV, hB, hR, hE⟩ := hcut
              obtain ⟨w7, rfl⟩ : ∃ w7 : World, w7 = wc := ⟨_, rfl⟩
              have hlq := load_pg hQ HQL.out.1
              have HQ7 := Lib.hid hQ
              have HM8 := Lib.hid (hM.kept (grown_row w7 gp (cells8 Q)) (by simp; omega))
              have HI7 := Lib.hid hI
              have HP8 : Hid (Pg (w7.setRow gp (cells8 Q)) gp Q) := Lib.hid ⟨hP.blk.row _, HQL.out.1⟩
              have HP7 := Lib.hid hP
              have HV8 := Lib.hid (hV.rowFar (k := gp) (cells8 Q) (by omega))
              have HB8 := Lib.hid (hB.rowFar (k := gp) (cells8 Q) (by omega))
              have HR8 := Lib.hid (hR.rowFar (k := gp) (cells8 Q) (by omega))
              have HE8 := Lib.hid (hE.setRow (g := gp) (by omega) (cells8 Q))
              have hlp8 := load_pg HP8.out.blk HQL.out.1
              have hrr := (right_iff _).2 HQL.out.2
              clear hM hI hP hQ hV hB hR hE HM6 HP6 HBq HV6 HB6 HR6 HE6 hcv c0 c1 c2 HBY
              go_wp2_with (first | (refine wpList_load_g rfl 23 _ rfl _ rfl _ hlq ?_) | (refine wpList_store_row rfl 23 _ _ rfl _ _ rfl rfl _ _ HP7.out.blk (pgSize HQL.out.1) (by rw [cells8_size, cells8_size, HQL.out.1, HP7.out.len]) (cells8_one Q) ?_) | (refine wpList_load_g rfl 23 _ rfl _ rfl _ hlp8 ?_))
              refine (Right_pg _ Q HQL.out.1).mono ?_
              rw [hrr]
              rintro e w9 ⟨rfl, hE9⟩
              go_wp2_with fail
              exact ⟨⟨k + 1, F', by omega, by go_num, by rw [HQD.out]; exact HP8.out.ext hE9, by rw [HQD.out]; exact HM8.out.ext hE9, by rw [HQD.out]; exact HI7.out, HV8.out.ext hE9, HB8.out.ext hE9, HR8.out.ext hE9, HE8.out.trans hE9⟩, by simp [intOf]; omega⟩
          · have hzb : ((rawE P s : Int) != 0) = true := by rw [bne_iff_ne]; omega
            rw [if_neg hz0] at HDQ
            clear hz0
            go_wp2_with fail
            exact ⟨⟨k + 1, F, by omega, by go_num, by rw [HQD.out, HDQ.out]; exact HP6.out, by rw [HQD.out, HDQ.out]; exact HM6.out.mono (by omega), by rw [HQD.out, HDQ.out]; exact HI.out, HV6.out, HB6.out, HR6.out, HE6.out⟩, by simp [intOf]; omega⟩
        -- ENDDONE
      · obtain rfl : k = len := by omega
        obtain ⟨hpl, hV⟩ := HRN.out k
        have hr := (right_iff _).2 hV
        clear HRN HRS HST HF hln
        generalize runP P0 (fs.take k) = P at *
        have HPL := Lib.hid hpl
        have HFI : Hid (∀ n, n < num2 P 14 → slotS P n ≠ 0 → F (.int .i64 (n : Int)) = some (elt (itemL P n))) := Lib.hid (fun n h1 h2 => by
          rw [HI.out n, if_pos ⟨by omega, by rw [Int.toNat_natCast]; exact (has_iff P n).2 ⟨h1, h2⟩⟩, Int.toNat_natCast])
        have HSN := Lib.hid (sealP_length P lsn hpl)
        have HSG := Lib.hid (seal_good hpl lsn)
        have HSD : Hid (∀ f t, Df P (sealP P lsn) 12 f t → f = 1024 ∧ t = 1024) := Lib.hid (fun f t h => seal_diff hpl lsn h)
        have HSL := Lib.hid (seal_lsn hpl hls)
        have HTB := Lib.hid (turned_bad HSN.out HSG.out z0 z1 z2)
        have KSL := Lib.hid (fun W => Seal_pg W P lsn hpl hls)
        have KIT := Lib.hid (fun W => Items_pg W P hpl)
        have HCN : Hid (itemsN P = cntS P (num2 P 14)) := Lib.hid rfl
        have HILN := Lib.hid (fun k hk => itemL_length hpl hr (k := k) hk)
        have HSLT := Lib.hid (fun n hn hs => right_slot hr (n := n) hn hs)
        have hle := right_le hr
        generalize sealP P lsn = S at *
        generalize hm : num2 P 14 = m at *
        have HC0 := Lib.hid (Blk.new wr 3 #[.int .i64 0])
        have HXc := Lib.hid (ext_new wr (.cells #[.int .i64 0] 3))
        have HPx := Lib.hid (HP.out.ext HXc.out)
        have HMx := Lib.hid (HM.out.ext HXc.out)
        have HVx := Lib.hid (HV.out.ext HXc.out)
        have HBx := Lib.hid (HB.out.ext HXc.out)
        have HRx := Lib.hid (HR.out.ext HXc.out)
        have HEx := Lib.hid (HE.out.trans HXc.out)
        have hgp2 := HP.out.blk.lt
        have hgm2 := HV.out.lt
        have hwz := HR.out.lt
        have hlp := load_pg HPx.out.blk hpl
        clear HP HM HV HB HR HE HXc hV HI
        go_wp2_with (refine wpList_load_g rfl 23 _ rfl _ rfl _ hlp ?_)
        clear hlp
        generalize wr.alloc (.cells #[.int .i64 0] 3) = w4 at *
        generalize wr.heap.size = gc at *
        refine (KIT.out w4).mono ?_
        rintro e w5 ⟨gfn, gi, rfl, hPi, hFi, hgi1, hgi2, hE5⟩
        have HC5 := Lib.hid (HC0.out.ext hE5)
        have HP5 := Lib.hid (HPx.out.ext hE5)
        have HM5 := Lib.hid (HMx.out.ext hE5)
        have HV5 := Lib.hid (HVx.out.ext hE5)
        have HB5 := Lib.hid (HBx.out.ext hE5)
        have HR5 := Lib.hid (HRx.out.ext hE5)
        have HE5 := Lib.hid (HEx.out.trans hE5)
        have HPi := Lib.hid hPi
        have HFi := Lib.hid hFi
        have hgi3 := hFi.lt
        have hgc := HC0.out.lt
        clear hE5 hPi hFi HC0 HPx HMx HVx HBx HRx HEx KIT
        have hnil := fun W => nil_closure 51 (by kernel_rfl) 46 #[.pointer (some ⟨gfn, 0, none⟩), .pointer (some ⟨gi, 0, none⟩)] W
        go_upto_region 30 with fail
        clear hnil
        go_wp2_with fail
        refine wp_rangeF (σ := Nat) 3 (by omega) (gf := 46) (lb := #[.pointer (some ⟨gfn, 0, none⟩), .pointer (some ⟨gi, 0, none⟩)]) rfl (enters_of Try.func46 (by kernel_rfl) rfl) (items_seq P hpl gfn gi 2 (by omega))
          (fun W hg => ⟨⟨HPi.out.blk.grown hg (by simp), hpl⟩, HFi.out.grown hg (by simp)⟩) (fun k hk => by rcases hk with rfl | rfl <;> omega)
          (fun N s args s' A hx => by obtain ⟨_, k, v, _, _, _, _, _, rfl, _⟩ := hx; rfl) (fun N s args s' => itX_firm P N s args s')
          (fun s W => Blk W gc 3 #[.int .i64 (cntS P s : Int)] ∧ Pg W gp P ∧ Mp Try.prog 3 W gm k F (itemsN P) ∧ Blk W (gm + 1) 43 #[.map (some gm)] ∧
            Blk W w.heap.size 40 #[.int .i64 z0, .int .i64 z1, .int .i64 z2] ∧ Blk W (w.heap.size + 1) 4 #[.bool false] ∧ Ext w W)
          (fun _ _ _ => False)
          (fun s A B row h hg hr => ⟨h.1.firm hg (fun r e => (hr r e).2), ⟨h.2.1.blk.firm hg (fun r e => (hr r e).2), h.2.1.len⟩, h.2.2.1.kept hg (fun e => by have := (hr gm e.symm).1; omega), h.2.2.2.1.firm hg (fun r e => (hr r e).2), h.2.2.2.2.1.firm hg (fun r e => (hr r e).2), h.2.2.2.2.2.1.firm hg (fun r e => (hr r e).2), h.2.2.2.2.2.2.grown hg (fun k e => by have := (hr k e).1; omega)⟩)
          (fun c s A B row h hg hr => h) ⟨by rw [show ((cntS P 0 : Nat) : Int) = 0 from rfl]; exact HC5.out, HP5.out, HM5.out, HV5.out, HB5.out, HR5.out, HE5.out⟩
          (fun args T => (((T.setIfInBounds 111 (args.getD 0 undef)).setIfInBounds 112 (args.getD 1 undef)).setIfInBounds 17 (args.getD 0 undef)).setIfInBounds 18 (args.getD 1 undef)) ?assign ?body ?done ?stop
        case assign =>
          rintro l s args s' W K ⟨_, k', v, _, _, _, _, _, rfl, _⟩ hK
          gi_wp2_with fail
          exact hK
        case body =>
          rintro l s args s' W ⟨hCw, hPw, hMw, hVw, hBw, hRw, hEw⟩ ⟨_, k', v, hsk, hkm, hem, hnz, rfl, rfl, hO⟩
          simp only [Array.getD_eq_getD_getElem?, List.getElem?_toArray, List.getElem?_cons_zero, List.getElem?_cons_succ, Option.getD_some, List.setIfInBounds_toArray, List.set_cons_succ, List.set_cons_zero]
          have hkm' : k' < m := by omega
          have hcs : cntS P k' = cntS P s := cntS_same P s k' hsk hem
          have HC1 : Hid (cntS P (k' + 1) = cntS P s + 1) := Lib.hid (by rw [cntS_succ, hcs, if_neg hnz])
          obtain ⟨A', c', rfl, hby, hc1, hc2⟩ := hO.form
          have hF : F (.int .i64 (k' : Int)) = some (.agg #[.string ⟨(itemL P k').toArray⟩]) := HFI.out k' hkm' hnz
          have hcb := cntS_le P s
          have hkey := key_int (n := (k' : Int)) (by omega) (by omega)
          generalize itemL P k' = L at *
          generalize cntS P s = cs at *
          have hcc : ∀ W', Ext W W' → W'.cell? ⟨gc, 0, none⟩ = some (.int .i64 (cs : Int)) := fun W' h => by rw [(hCw.ext h).cell]; rfl
          have hcv : W.cell? ⟨gm + 1, 0, none⟩ = some (.map (some gm)) := by rw [hVw.cell]; rfl
          have hX1 := ext_new W (.cells #[.string ⟨L.toArray⟩] 48)
          have hC1 := hCw.ext hX1
          have hcc1 := hcc _ hX1
          have hfc1 := hC1.frozen 0
          have hst := str_any (hby.ext hX1) c'
          have g1 := World.grownBy_alloc W (.cells #[.string ⟨L.toArray⟩] 48) none
          have HF' := Lib.hid hF
          clear hO hem hnz hcs
          gi_wp2_with (first | (refine wpListIn_run rfl rfl (by intro c h; cases h) (lookup_some hMw Try.intKeys Try.underlying43 (Try.eltZero _) hkey HF'.out rfl rfl rfl) ?_) | (refine wpListIn_run rfl rfl (by intro c h; cases h) (convert_run rfl hst) ?_))
          have g2 := grown_set (W.alloc (.cells #[.string ⟨L.toArray⟩] 48)) ⟨gc, 0, none⟩ (.int .i64 ((cs : Int) + 1))
          refine ⟨(KeepsFrom.none g1).trans (KeepsFrom.cells g2 hC1), (Keeps.grown g1 (fun r e => by cases e)).trans (Keeps.grown g2 (fun r e => ?_)), ?_, ?_, ?_, ?_, ?_, ?_, ?_⟩
          · cases e; exact ⟨by simp; omega, .inl (by show gc < _; omega)⟩
          · rw [HC1.out]
            have := hC1.set 0 (.int .i64 ((cs : Int) + 1))
            rw [show ((cs + 1 : Nat) : Int) = (cs : Int) + 1 by omega]
            exact this
          · exact ⟨(hPw.blk.ext hX1).far (by show gp ≠ gc; omega) _, hpl⟩
          · exact (hMw.ext hX1).kept g2 (by simp; omega)
          · exact (hVw.ext hX1).far (by show gm + 1 ≠ gc; omega) _
          · exact (hBw.ext hX1).far (by show w.heap.size ≠ gc; omega) _
          · exact (hRw.ext hX1).far (by show w.heap.size + 1 ≠ gc; omega) _
          · exact (hEw.trans hX1).setCell (by show _ ≤ gc; omega) _
        case done =>
          rintro D s W hD ⟨hS, _⟩ ⟨hCw, hPw, hMw, hVw, hBw, hRw, hEw⟩ hK
          obtain ⟨hs1, hs2⟩ := hS hr
          rw [hm] at hs1 hs2
          rw [← cntS_same P s m hs1 hs2] at hCw
          rw [HCN.out] at hMw
          generalize cntS P m = cs at *
          have hcc : W.cell? ⟨gc, 0, none⟩ = some (.int .i64 (cs : Int)) := by rw [hCw.cell]; rfl
          have hcv : W.cell? ⟨gm + 1, 0, none⟩ = some (.map (some gm)) := by rw [hVw.cell]; rfl
          have hlp := load_pg hPw.blk hpl
          have HP' := Lib.hid hPw
          have HB' := Lib.hid hBw
          have HR' := Lib.hid hRw
          have HE' := Lib.hid hEw
          have HK' := Lib.hid hK
          have HM' := Lib.hid hMw
          clear hCw hPw hVw hBw hRw hEw hK hMw hS HFI HCN HILN HSLT HPi HFi HC5 HP5 HM5 HV5 HB5 HR5 HE5
          go_upto_region 39 with (refine wpList_run_g rfl _ (len_run HM'.out Try.underlying43 rfl rfl) ?_)
          clear hcc hcv HM'
          go_wp2_with (refine wpList_load_g rfl 23 _ rfl _ rfl _ hlp ?_)
          refine (KSL.out W).mono ?_
          rintro e w6 ⟨rfl, hE6⟩
          have HB7 := Lib.hid (Blk.new w6 23 (cells8 Z))
          have HX7 := Lib.hid (((Ext.refl w6).alloc (.cells (cells8 Z) 23)).setRow (Nat.le_refl _) (cells8 S))
          have hX67 := hE6.trans HX7.out
          have HP7 := Lib.hid (HP'.out.ext hX67)
          have HBx7 := Lib.hid (HB'.out.ext hX67)
          have HR7 := Lib.hid (HR'.out.ext hX67)
          have HE7 := Lib.hid (HE'.out.trans hX67)
          have HS7 := Lib.hid (HB7.out.row (cells8 S))
          have hK7 : ((w6.alloc (.cells (cells8 Z) 23)).setRow w6.heap.size (cells8 S)).heap[D]? = some (.deferred (some [])) := (hX67.block (Array.getElem?_eq_some_iff.1 HK'.out).1).trans HK'.out
          have HK7 := Lib.hid hK7
          have hpg6 := HP'.out.blk.lt
          have hw6 := hE6.size
          clear hX67 hK7 HP' HB' HR' HE' HK' hlp hE6
          go_upto_region 40 with (refine wpList_store_row rfl 23 _ _ rfl _ _ rfl rfl _ _ HB7.out (pgSize HSN.out) (by rw [cells8_size, cells8_size, HSN.out, HZ.out]) (cells8_one _) ?_)
          clear HB7 HX7
          generalize (w6.alloc (.cells (cells8 Z) 23)).setRow w6.heap.size (cells8 S) = w7 at *
          generalize w6.heap.size = gs at *
          have HB8 := Lib.hid (Blk.new w7 23 (cells8 Z))
          have HX8 := Lib.hid (((Ext.refl w7).alloc (.cells (cells8 Z) 23)).setRow (Nat.le_refl _) (cells8 S))
          have HP8 := Lib.hid (HP7.out.ext HX8.out)
          have HBx8 := Lib.hid (HBx7.out.ext HX8.out)
          have HR8 := Lib.hid (HR7.out.ext HX8.out)
          have HE8 := Lib.hid (HE7.out.trans HX8.out)
          have HS8 := Lib.hid (HS7.out.ext HX8.out)
          have HT8 := Lib.hid (HB8.out.row (cells8 S))
          have HK8 := Lib.hid ((HX8.out.block (Array.getElem?_eq_some_iff.1 HK7.out).1).trans HK7.out)
          have hls := load_pg HS7.out HSN.out
          have hgs := HS7.out.lt
          have hgp7 := HP7.out.blk.lt
          have hbr7 := HR7.out.lt
          have hDt := (Array.getElem?_eq_some_iff.1 HK7.out).1
          clear HP7 HBx7 HR7 HE7 HS7 HK7
          go_upto_region 41 with (first | (refine wpList_load_g rfl 23 _ rfl _ rfl _ hls ?_) | (refine wpList_store_row rfl 23 _ _ rfl _ _ rfl rfl _ _ HB8.out (pgSize HSN.out) (by rw [cells8_size, cells8_size, HSN.out, HZ.out]) (cells8_one _) ?_))
          clear HB8 HX8 hls
          generalize (w7.alloc (.cells (cells8 Z) 23)).setRow w7.heap.size (cells8 S) = w8 at *
          generalize w7.heap.size = gt at *
          have HT0 : Hid (turnN S [z0, z1, z2] 0 = S) := Lib.hid rfl
          have HTS : Hid (∀ k, turnN S [z0, z1, z2] (k + 1) = turnP (turnN S [z0, z1, z2] k) ([z0, z1, z2].getD k 0)) := Lib.hid (fun k => rfl)
          have HTL : Hid (∀ k, (turnN S [z0, z1, z2] k).length = 1024) := Lib.hid (fun k => by rw [turnN_length, HSN.out])
          have HTB3 : Hid (turnN S [z0, z1, z2] 3 = S ∨ goodB (turnN S [z0, z1, z2] 3) = false) := HTB
          have HZC : Hid (∀ k, k < 3 → (#[Value.int .i64 z0, Value.int .i64 z1, Value.int .i64 z2] : Array Value)[k]? = some (.int .i64 ([z0, z1, z2].getD k 0))) := Lib.hid (fun k hk => three_cell z0 z1 z2 hk)
          generalize turnN S [z0, z1, z2] = T at *
          generalize [z0, z1, z2] = zs at *
          generalize (#[Value.int .i64 z0, Value.int .i64 z1, Value.int .i64 z2] : Array Value) = zc at *
          clear HTB
          go_wp2_with fail
          go_loopw [23] (fun i wr => ∃ k : Nat, k ≤ 3 ∧ i = .int .i64 k ∧ Pg wr gt (T k) ∧ Blk wr gs 23 (cells8 S) ∧ Pg wr gp P ∧ Blk wr w.heap.size 40 zc ∧ Blk wr (w.heap.size + 1) 4 #[.bool false] ∧ Ext w wr ∧ wr.heap[D]? = some (.deferred (some []))) (fun i _ => 3 - (intOf i).toNat)
          case atStart => exact ⟨0, by omega, rfl, (by rw [HT0.out]; exact ⟨HT8.out, HSN.out⟩), HS8.out, HP8.out, HBx8.out, HR8.out, HE8.out, HK8.out⟩
          case round =>
            obtain ⟨k, hk, rfl, hT, hSb, hP, hB, hR, hE, hK⟩ := hrel
            have HT := Lib.hid hT
            have HSb := Lib.hid hSb
            have HP := Lib.hid hP
            have HB := Lib.hid hB
            have HR := Lib.hid hR
            have HE := Lib.hid hE
            have HK := Lib.hid hK
            clear hT hSb hP hB hR hE hK HT8 HS8 HP8 HBx8 HR8 HE8 HK8
            by_cases hlt : k < 3
            · have hld : decide ((k : Int) < 3) = true := by simp; omega
              have hzc : wr.cell? ⟨w.heap.size, k, none⟩ = some (.int .i64 (zs.getD k 0)) := by rw [HB.out.cell]; exact HZC.out k hlt
              have HTk := Lib.hid (HTS.out k)
              generalize zs.getD k 0 = z at *
              by_cases hz0 : 0 ≤ z
              · have e1 : decide (0 ≤ z) = true := decide_eq_true hz0
                by_cases hz1 : z < 8192
                · have e2 : decide (z < 8192) = true := decide_eq_true hz1
                  obtain ⟨n, rfl⟩ : ∃ n : Nat, z = (n : Int) := ⟨z.toNat, by omega⟩
                  have hn : n < 8192 := by omega
                  have hTn : T (k + 1) = (T k).set (n / 8) (flipB ((T k).getD (n / 8) 0) (n % 8)) := by
                    rw [HTk.out]
                    unfold turnP
                    rw [if_pos ⟨hz0, hz1⟩, Int.toNat_natCast]
                    rfl
                  have hx : wr.cell? ⟨gt, n / 8, none⟩ = some (.int .u8 (((T k).getD (n / 8) 0).toNat : Int)) := by rw [HT.out.blk.cell]; exact cells8_get (T k) (n / 8) (by rw [HTL.out]; omega)
                  have hf := HT.out.blk.frozen (n / 8)
                  have HSET := Lib.hid (HT.out.setByte (n / 8) (flipB ((T k).getD (n / 8) 0) (n % 8)))
                  rw [← hTn] at HSET
                  have HFV := Lib.hid (turn_val ((T k).getD (n / 8) 0) (n % 8) (by omega))
                  have hgt := HT.out.blk.lt
                  generalize flipB ((T k).getD (n / 8) 0) (n % 8) = y at *
                  have hxl := ((T k).getD (n / 8) 0).toNat_lt
                  generalize (T k).getD (n / 8) 0 = x at *
                  clear hTn hz0 hz1 HTk
                  go_upto_region 45 with fail
                  refine wp_eager (grow_pre gt) (n := 19) (by kernel_rfl) (by kernel_rfl) ?_
                  refine Eg.batchK (grow_pre gt) (by intro c a d v w h; cases d <;> exact h) (by kernel_rfl) (n := 13) [0, 1, 4, 5, 10, 11] [] _ (by kernel_rfl) (fun K hK => ?_); (simp only [pickOps, List.getElem?_toArray, List.getElem?_cons_zero, List.getElem?_cons_succ, Option.toList_some, List.cons_append, List.nil_append]); (repeat (first | go_big_quiet_step (fail) | quiet_step (fail))); refine wpQuiet_nil (hK _ ?_); clear hK K
                  (refine Eg.read (grow_pre gt) (by intro c a d v w h; cases d <;> exact h) (by kernel_rfl) (i := 2) (n := 12) (l := [0, 1, 4, 5, 10, 11]) rfl (by kernel_rfl) (by kernel_rfl) rfl ⟨_, fun w' hR => load_run rfl (load_i64 (cell_grown (w := wr.drew) hzc hR (by simp; omega))), ?_⟩); (simp only [Act.put, List.setIfInBounds_toArray, List.getElem_toArray, List.getElem_cons_succ, List.getElem_cons_zero, List.set_cons_succ, List.set_cons_zero])
                  refine Eg.batchK (grow_pre gt) (by intro c a d v w h; cases d <;> exact h) (by kernel_rfl) (n := 11) [3] [0, 1, 4, 5, 10, 11, 2] _ (by kernel_rfl) (fun K hK => ?_); (simp only [pickOps, List.getElem?_toArray, List.getElem?_cons_zero, List.getElem?_cons_succ, Option.toList_some, List.cons_append, List.nil_append]); (repeat (first | go_big_quiet_step (fail) | quiet_step (fail))); refine wpQuiet_nil (hK _ ?_); clear hK K
                  (refine Eg.read (grow_pre gt) (by intro c a d v w h; cases d <;> exact h) (by kernel_rfl) (i := 6) (n := 10) (l := [0, 1, 4, 5, 10, 11, 2, 3]) rfl (by kernel_rfl) (by kernel_rfl) rfl ⟨_, fun w' hR => load_run rfl (load_i64 (cell_grown (w := wr.drew) hzc hR (by simp; omega))), ?_⟩); (simp only [Act.put, List.setIfInBounds_toArray, List.getElem_toArray, List.getElem_cons_succ, List.getElem_cons_zero, List.set_cons_succ, List.set_cons_zero])
                  refine Eg.batchK (grow_pre gt) (by intro c a d v w h; cases d <;> exact h) (by kernel_rfl) (n := 8) [7, 8] [0, 1, 4, 5, 10, 11, 2, 3, 6] _ (by kernel_rfl) (fun K hK => ?_); (simp only [pickOps, List.getElem?_toArray, List.getElem?_cons_zero, List.getElem?_cons_succ, Option.toList_some, List.cons_append, List.nil_append]); (repeat (first | go_big_quiet_step (fail) | quiet_step (fail))); refine wpQuiet_nil (hK _ ?_); clear hK K
                  (refine Eg.read (grow_pre gt) (by intro c a d v w h; cases d <;> exact h) (by kernel_rfl) (i := 12) (n := 7) (l := [0, 1, 4, 5, 10, 11, 2, 3, 6, 7, 8]) rfl (by kernel_rfl) (by kernel_rfl) rfl ⟨_, fun w' hR => load_run rfl (load_i64 (cell_grown (w := wr.drew) hzc hR (by simp; omega))), ?_⟩); (simp only [Act.put, List.setIfInBounds_toArray, List.getElem_toArray, List.getElem_cons_succ, List.getElem_cons_zero, List.set_cons_succ, List.set_cons_zero])
                  refine Eg.batchK (grow_pre gt) (by intro c a d v w h; cases d <;> exact h) (by kernel_rfl) (n := 4) [13, 14, 15] [0, 1, 4, 5, 10, 11, 2, 3, 6, 7, 8, 12] _ (by kernel_rfl) (fun K hK => ?_); (simp only [pickOps, List.getElem?_toArray, List.getElem?_cons_zero, List.getElem?_cons_succ, Option.toList_some, List.cons_append, List.nil_append]); (repeat (first | go_big_quiet_step (fail) | quiet_step (fail))); refine wpQuiet_nil (hK _ ?_); clear hK K
                  refine Eg.act (grow_pre gt) (i := 9) (n := 3) (l := [0, 1, 4, 5, 10, 11, 2, 3, 6, 7, 8, 12, 13, 14, 15]) rfl (by kernel_rfl) ?_
                  go_wp2_with fail
                  refine ⟨World.grownBy.refl _ _, ?_⟩
                  refine Eg.batchK (grow_pre gt) (by intro c a d v w h; cases d <;> exact h) (by kernel_rfl) (n := 1) [16, 17] [0, 1, 4, 5, 10, 11, 2, 3, 6, 7, 8, 12, 13, 14, 15, 9] _ (by kernel_rfl) (fun K hK => ?_); (simp only [pickOps, List.getElem?_toArray, List.getElem?_cons_zero, List.getElem?_cons_succ, Option.toList_some, List.cons_append, List.nil_append]); (repeat (first | go_big_quiet_step (fail) | quiet_step (fail))); refine wpQuiet_nil (hK _ ?_); clear hK K
                  refine Eg.act (grow_pre gt) (i := 18) (n := 0) (l := [0, 1, 4, 5, 10, 11, 2, 3, 6, 7, 8, 12, 13, 14, 15, 9, 16, 17]) rfl (by kernel_rfl) ?_
                  go_wp2_with fail
                  rw [HFV.out]
                  refine ⟨grown_set _ ⟨gt, n / 8, none⟩ _, ?_⟩
                  refine Eg.finish (by kernel_rfl) ?_
                  go_wp2_with fail
                  exact ⟨⟨k + 1, by omega, by go_num, ⟨HSET.out.blk.drew, HSET.out.len⟩, HSb.out.far (by show gs ≠ gt; omega) _, ⟨HP.out.blk.far (by show gp ≠ gt; omega) _, hpl⟩, HB.out.far (by show w.heap.size ≠ gt; omega) _, HR.out.far (by show w.heap.size + 1 ≠ gt; omega) _, (HE.out.setCell (p := ⟨gt, n / 8, none⟩) (by show _ ≤ gt; omega) _).drew, (heap_setCell_other _ _ _ _ (by show D ≠ gt; omega)).trans HK.out⟩, by simp [intOf]; omega⟩
                · have e2 : decide (z < 8192) = false := decide_eq_false hz1
                  have hTn : T (k + 1) = T k := by rw [HTk.out]; unfold turnP; rw [if_neg (fun h => hz1 h.2)]
                  have HTn := Lib.hid hTn
                  clear hTn hz0 hz1 HTk
                  go_wp2_with fail
                  exact ⟨⟨k + 1, by omega, by go_num, by rw [HTn.out]; exact HT.out, HSb.out, HP.out, HB.out, HR.out, HE.out, HK.out⟩, by simp [intOf]; omega⟩
              · have e1 : decide (0 ≤ z) = false := decide_eq_false hz0
                have hTn : T (k + 1) = T k := by rw [HTk.out]; unfold turnP; rw [if_neg (fun h => hz0 h.1)]
                have HTn := Lib.hid hTn
                clear hTn hz0 HTk
                go_wp2_with fail
                exact ⟨⟨k + 1, by omega, by go_num, by rw [HTn.out]; exact HT.out, HSb.out, HP.out, HB.out, HR.out, HE.out, HK.out⟩, by simp [intOf]; omega⟩
            · obtain rfl : k = 3 := by omega
              have hTl := HTL.out 3
              have HTB4 := HTB3.out
              clear HTB3 HTL HTS HT0 HZC
              generalize T 3 = T3 at *
              have KD := Lib.hid (Diff_pg wr P S hpl HSN.out)
              have hlp := load_pg HP.out.blk hpl
              have hls := load_pg HSb.out HSN.out
              go_wp2_with (first | (refine wpList_load_g rfl 23 _ rfl _ rfl _ hlp ?_) | (refine wpList_load_g rfl 23 _ rfl _ rfl _ hls ?_))
              refine KD.out.mono ?_
              rintro e u1 ⟨f, t, v, hDf, rfl, hO, hE1⟩
              obtain ⟨rfl, rfl⟩ := HSD.out f t hDf
              obtain ⟨A', c', rfl, _, _, _⟩ := hO.form
              have hl0 : ((S.drop 1024).take (1024 - 1024)).length = 0 := by simp
              rw [hl0, show ((1024 : Nat) : Int) = 1024 from rfl]
              have HE1 := Lib.hid hE1
              have hls1 := load_pg (HSb.out.ext hE1) HSN.out
              have KG1 := Lib.hid (Good_pg u1 S HSN.out)
              rw [HSG.out] at KG1
              clear hDf hO hE1 hlp hls KD hl0
              go_wp2_with (refine wpList_load_g rfl 23 _ rfl _ rfl _ hls1 ?_)
              refine KG1.out.mono ?_
              rintro e u2 ⟨rfl, hE2⟩
              have HE2 := Lib.hid (HE1.out.trans hE2)
              have hls2 := load_pg (HSb.out.ext HE2.out) HSN.out
              have KL := Lib.hid (LSN_pg u2 S HSN.out)
              rw [HSL.out] at KL
              clear hE2 HE1 KG1 hls1
              go_wp2_with (refine wpList_load_g rfl 23 _ rfl _ rfl _ hls2 ?_)
              refine KL.out.mono ?_
              rintro e u3 ⟨rfl, hE3⟩
              have HE3 := Lib.hid (HE2.out.trans hE3)
              have hls3 := load_pg (HSb.out.ext HE3.out) HSN.out
              have hlt3 := load_pg (HT.out.blk.ext HE3.out) hTl
              clear hE3 HE2 KL hls2
              have hgg := Try.pgGuard
              by_cases hTS : T3 = S
              · subst hTS
                have hEQ := eql_self hTl u3
                have HR3 := Lib.hid (HR.out.ext HE3.out)
                have hcr : ∃ v, u3.cell? ⟨w.heap.size + 1, 0, none⟩ = some v := ⟨_, by rw [HR3.out.cell]; rfl⟩
                have hfr := HR3.out.frozen 0
                obtain ⟨v0, hcr⟩ := hcr
                have HK3 := Lib.hid ((HE3.out.block (Array.getElem?_eq_some_iff.1 HK.out).1).trans HK.out)
                have hDr := HR.out.lt
                go_wp2_with (first | (refine wpList_load_g rfl 23 _ rfl _ rfl _ hlt3 ?_) | (refine wpList_load_g rfl 23 _ rfl _ rfl _ hls3 ?_) | (refine wpList_run_g rfl _ (binOp_run_agg hgg (b := .eql) rfl rfl rfl hEQ) ?_))
                have hKs : (u3.setCell ⟨w.heap.size + 1, 0, none⟩ (.bool true)).heap[D]? = some (.deferred (some [])) := (heap_setCell_other _ _ _ _ (by show D ≠ w.heap.size + 1; omega)).trans HK3.out
                exact postM_mark hKs (results_cell1 Try.results5 _ _ (w.heap.size + 1) (.bool true) rfl (load_bool ((HR3.out.set 0 (.bool true)).mark hKs))) ⟨rfl, ((HE.out.trans HE3.out).setCell (by show _ ≤ w.heap.size + 1; omega) _).mark (by omega)⟩
              · have hEQ := bin_eql_pg hTl HSN.out u3
                rw [decide_eq_false hTS] at hEQ
                have hbad := HTB4.resolve_left hTS
                have KG3 := Lib.hid (Good_pg u3 T3 hTl)
                rw [hbad] at KG3
                clear hTS HTB4 hbad
                go_wp2_with (first | (refine wpList_load_g rfl 23 _ rfl _ rfl _ hlt3 ?_) | (refine wpList_load_g rfl 23 _ rfl _ rfl _ hls3 ?_) | (refine wpList_run_g rfl _ (binOp_run_agg hgg (b := .eql) rfl rfl rfl hEQ) ?_))
                refine KG3.out.mono ?_
                rintro e u4 ⟨rfl, hE4⟩
                have HE4 := Lib.hid (HE3.out.trans hE4)
                have HR3 := Lib.hid (HR.out.ext HE4.out)
                have hcr : ∃ v, u4.cell? ⟨w.heap.size + 1, 0, none⟩ = some v := ⟨_, by rw [HR3.out.cell]; rfl⟩
                have hfr := HR3.out.frozen 0
                obtain ⟨v0, hcr⟩ := hcr
                have HK3 := Lib.hid ((HE4.out.block (Array.getElem?_eq_some_iff.1 HK.out).1).trans HK.out)
                have hDr := HR.out.lt
                go_wp2_with fail
                have hKs : (u4.setCell ⟨w.heap.size + 1, 0, none⟩ (.bool true)).heap[D]? = some (.deferred (some [])) := (heap_setCell_other _ _ _ _ (by show D ≠ w.heap.size + 1; omega)).trans HK3.out
                exact postM_mark hKs (results_cell1 Try.results5 _ _ (w.heap.size + 1) (.bool true) rfl (load_bool ((HR3.out.set 0 (.bool true)).mark hKs))) ⟨rfl, ((HE.out.trans HE4.out).setCell (by show _ ≤ w.heap.size + 1; omega) _).mark (by omega)⟩
        case stop =>
          rintro D c s W _ _ h _
          exact h.elim

end Go.Proofs.Ytgbfeagoadlhmaa
