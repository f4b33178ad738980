
/-
  The law PageRooms, walked.
-/
import Derived.Test.YtgbfeagoadlhmaaRoomsP
import Derived.Test.YtgbfeagoadlhmaaPack
import Derived.Test.YtgbfeagoadlhmaaShape
import Derived.Deep.Cut
import Derived.Deep.CutRange
set_option linter.unusedVariables false
set_option linter.unusedSimpArgs false
namespace Go.Proofs.Ytgbfeagoadlhmaa
open Go.RowKit Go.Shelf Pl

attribute [local go_sem] Oper.semAt_some

theorem noughts_cells (n : Nat) : madeCells #[.int .u8 0] n = cells8 (List.replicate n 0) := by
  apply Array.toList_inj.1
  rw [toList_madeCells_one]
  simp [cells8, u8]

theorem load_i64 {w : World} {p : Addr} {n : Int} (h : w.cell? p = some (.int .i64 n)) : (Instr.loadAt 3 (.pointer (some p))).run Try.prog w = .ok (.int .i64 n) w := by
  simp [go_sem, h]

/-- a closure is not nil -/
theorem nil_closure (t : TypeId) (ht : ((Try.prog.underlying t).map fun d => match d with | .func .. => true | _ => false) = true) (f : Nat) (lb : Array Value) (w : World) : (binOp .eql t (.func (.func f) #[] lb) .nilFunc).run Try.prog w = .ok (.bool false) w := by
  cases hu : Try.prog.underlying t with
  | none => rw [hu] at ht; cases ht
  | some d =>
    rw [hu] at ht
    cases d with
    | func a b c =>
      have h1 : ∀ d, (Op.equalIn (d + 1) t (.func (.func f) #[] lb) .nilFunc).run Try.prog w = .ok false w := fun d => by simp [Op.equalIn, run_underlying hu]
      have h2 : (Op.equal t (.func (.func f) #[] lb) .nilFunc).run Try.prog w = .ok false w := h1 9999
      simp only [binOp]
      simp [h2]
    | _ => simp at ht

set_option maxHeartbeats 8000000 in
set_option maxRecDepth 100000 in
theorem rooms_any (w : World) (A : Option Addr) (fs : List Stp) (c : Nat) (hF : Stps w A fs) (hlc : fs.length ≤ c) (hc : c ≤ 9223372036854775807) (hok : ∀ i, i < fs.length → -9223372036854775808 ≤ (fs.getD i stp0).n ∧ (fs.getD i stp0).n ≤ 9223372036854775807 ∧ (fs.getD i stp0).lsn < 18446744073709551616) :
    Calls Try.prog 6 #[.slice A fs.length c] w fun e w' => e = .returned (.bool true) ∧ Ext w w' := by
  have HF := Lib.hid hF
  have KM := Lib.hid (much_any w A fs c 100 hF (by omega) (by omega))
  have HNO : Hid (muchB fs 100 = false → fs.length ≤ 100 ∧ ∀ i, i < fs.length → (fs.getD i stp0).b.length ≤ 60000) := Lib.hid (fun h => much_no h)
  have HOK := Lib.hid hok
  rw [show ((100 : Nat) : Int) = 100 from rfl] at KM
  have hz := (zero_of_info Try.page0).1
  have HZ := Lib.hid zeroP_length
  clear hF hok
  refine callsIn_wide.1 (callsIn_of_wp_marks (n := 3) Try.func6 rfl trivial (wpIn_wide.2 (wp_quiet ?_)) rfl)
  simp only [Try.ntmps6, List.size_toArray, List.length_cons, List.length_nil, Nat.reduceAdd, Nat.reduceSub, Array.replicate_succ, Array.replicate_zero, List.push_toArray, List.append_toArray, List.nil_append, List.cons_append]
  cases hmb : muchB fs 100 with
  | true =>
    rw [hmb] at KM
    clear HNO hmb
    go_wp2_with fail
    refine KM.out.mono ?_
    rintro e w1 ⟨rfl, hE1⟩
    go_wp2_with fail
    refine (known5_any w1).mono ?_
    rintro e w2 ⟨rfl, hE2⟩
    go_wp2_with fail
    exact postM_ret (results_tmp Try.results6 _ _ _) ⟨rfl, hE1.trans hE2⟩
  | false =>
    rw [hmb] at KM
    obtain ⟨hn, hbl⟩ := HNO.out hmb
    have HST : Hid (∀ i, i < fs.length → StpOk (fs.getD i stp0)) := Lib.hid (fun i hi => ⟨(HOK.out i hi).1, (HOK.out i hi).2.1, by have := hbl i hi; omega, (HOK.out i hi).2.2⟩)
    have HRN : Hid (∀ k, (runP (initP 1) (fs.take k)).length = 1024 ∧ RightV (runP (initP 1) (fs.take k))) := Lib.hid (fun k => runP_right (initP_length 1) init_right _)
    have HRS : Hid (∀ k, k < fs.length → runP (initP 1) (fs.take (k + 1)) = if (fs.getD k stp0).kind = 5 then runP (initP 1) (fs.take k) else doQ (runP (initP 1) (fs.take k)) (fs.getD k stp0)) := Lib.hid (fun k hk => runP_succ _ fs k hk)
    have HR0 : Hid (runP (initP 1) (fs.take 0) = initP 1) := Lib.hid rfl
    have HPL0 := Lib.hid (initP_length 1)
    have KI := Lib.hid (fun W => Init_pg W 1)
    rw [show (((1 : UInt8).toNat : Nat) : Int) = 1 from rfl] at KI
    generalize initP 1 = P0 at *
    clear HNO hmb HOK hbl
    generalize hln : fs.length = len at *
    generalize zeroP = Z at *
    go_wp2_with fail
    refine KM.out.mono ?_
    rintro e w1 ⟨rfl, hE1⟩
    have HE1 := Lib.hid hE1
    clear hE1 KM
    go_wp2_with fail
    refine (KI.out w1).mono ?_
    rintro e w2 ⟨rfl, hE2⟩
    have hl0 := HPL0.out
    have HB2 := Lib.hid (Blk.new w2 23 (cells8 Z))
    have HE2 := Lib.hid (((HE1.out.trans hE2).alloc (.cells (cells8 Z) 23)).setRow (g := w2.heap.size) ((HE1.out.trans hE2).size) (cells8 P0))
    have hg : w.heap.size ≤ w2.heap.size := Nat.le_trans HE1.out.size hE2.size
    clear hE2
    go_wp2_with (refine wpList_store_row rfl 23 _ _ rfl _ _ rfl rfl _ _ HB2.out (pgSize hl0) (by rw [cells8_size, cells8_size, hl0, HZ.out]) (cells8_one _) ?_)
    have HP3 : Hid (Pg ((w2.alloc (.cells (cells8 Z) 23)).setRow w2.heap.size (cells8 P0)) w2.heap.size P0) := Lib.hid ⟨HB2.out.row _, hl0⟩
    generalize (w2.alloc (.cells (cells8 Z) 23)).setRow w2.heap.size (cells8 P0) = w3 at *
    generalize w2.heap.size = gp at *
    clear HB2 HE1 hl0 KI HPL0
    go_loopw [4] (fun i wr => ∃ k : Nat, k ≤ len ∧ i = .int .i64 k ∧ Pg wr gp (runP P0 (fs.take k)) ∧ Ext w wr) (fun i _ => len - (intOf i).toNat)
    case atStart => exact ⟨0, by omega, rfl, (by rw [HR0.out]; exact HP3.out), HE2.out⟩
    case round =>
      obtain ⟨k, hk, rfl, hP, hE⟩ := hrel
      have HP := Lib.hid hP
      have HE := Lib.hid hE
      clear hP hE HP3 HE2 HR0
      by_cases hlt : k < len
      ·
        -- DONE
        have hld : decide ((k : Int) < (len : Int)) = true := by simp; omega
        obtain ⟨g, o, rfl, c0, c1, ⟨Ai, ci, c2, hby, _, _⟩, c3, c4⟩ := (HF.out.ext HE.out).at_ (i := k) (by omega)
        have HSk := Lib.hid (HRS.out k hlt)
        have HOk := Lib.hid (HST.out k hlt)
        have HLS : Hid (∀ W, Ext wr W → (Instr.loadAt 45 (.pointer (some ⟨g, o + k * 5, none⟩))).run Try.prog W = .ok (.agg (stepC (fs.getD k stp0) Ai ci)) W) := Lib.hid (fun W hW => load_stp (hW.cell c0) (hW.cell c1) (hW.cell c2) (hW.cell c3) (hW.cell c4))
        have HBY := Lib.hid hby
        have HRk := Lib.hid (HRN.out k)
        generalize hsk : fs.getD k stp0 = s at *
        clear hsk c1 c2 c3 c4 hby
        by_cases h5 : s.kind = 5
        · rw [if_pos h5] at HSk
          rw [h5] at c0
          clear HLS HBY HOk h5
          go_wp2_with fail
          exact ⟨⟨k + 1, by omega, by go_num, by rw [HSk.out]; exact HP.out, HE.out⟩, by simp [intOf]; omega⟩
        · rw [if_neg h5] at HSk
          have h5b : (s.kind == 5) = false := by rw [beq_eq_false_iff_ne]; exact h5
          have HND := Lib.hid h5
          have HQL := Lib.hid (HRN.out (k + 1)).1
          obtain ⟨Q, hQd⟩ : ∃ Q, runP P0 (fs.take (k + 1)) = Q := ⟨_, rfl⟩
          rw [hQd] at HQL HSk
          have HQD := Lib.hid hQd
          clear hQd
          clear h5
          generalize runP P0 (fs.take k) = P at *
          have HKD := Lib.hid (fun W (hW : Ext wr W) => do_stp W P HRk.out.1 s Ai ci (HBY.out.ext hW) HOk.out HND.out)
          rw [← HSk.out] at HKD
          have HDQ : Hid (rawE P s ≠ 0 → doQ P s = P) := Lib.hid (fun h => by unfold doQ; rw [if_neg h])
          rw [← HSk.out] at HDQ
          go_upto_region 8 with fail
          clear h5b
          go_cut [5, 6, 7] from 28 to 52 (fun s5 s6 s7 wx => ∃ gq, s5 = .pointer (some ⟨gq, 0, none⟩) ∧ s6 = .int .i64 (rawN P s : Int) ∧ s7 = .int .i64 (rawE P s : Int) ∧ Blk wx gq 23 (cells8 Q) ∧ wr.heap.size ≤ gq ∧ Ext wr wx)
          case first =>
            have HX := Ext.refl wr.drew
            refine wp_eager (rs_pre 23 wr.drew.heap.size) (n := 14) (by kernel_rfl) (by kernel_rfl) ?_
            refine Eg.batchK (rs_pre 23 wr.drew.heap.size) (by intro c a d v w h; cases d <;> exact h) (by kernel_rfl) (n := 11) [1, 2, 3] [] _ (by kernel_rfl) (fun K hK => ?_); (simp only [pickOps, List.getElem?_toArray, List.getElem?_cons_zero, List.getElem?_cons_succ, Option.toList_some, List.cons_append, List.nil_append]); (repeat (first | go_big_quiet_step (fail) | quiet_step (fail))); refine wpQuiet_nil (hK _ ?_); clear hK K
            (refine Eg.read (rs_pre 23 wr.drew.heap.size) (by intro c a d v w h; cases d <;> exact h) (by kernel_rfl) (i := 0) (n := 10) (l := [1, 2, 3]) rfl (by kernel_rfl) (by kernel_rfl) rfl ⟨_, fun w' hR => load_run rfl (load_pg (HP.out.ext ((Ext.refl wr).drew.trans hR.1)).blk HRk.out.1), ?_⟩); (simp only [Act.put, List.setIfInBounds_toArray, List.getElem_toArray, List.getElem_cons_succ, List.getElem_cons_zero, List.set_cons_succ, List.set_cons_zero])
            (refine Eg.read (rs_pre 23 wr.drew.heap.size) (by intro c a d v w h; cases d <;> exact h) (by kernel_rfl) (i := 4) (n := 9) (l := [1, 2, 3, 0]) rfl (by kernel_rfl) (by kernel_rfl) rfl ⟨_, fun w' hR => load_run rfl (HLS.out w' ((Ext.refl wr).drew.trans hR.1)), ?_⟩); (simp only [Act.put, List.setIfInBounds_toArray, List.getElem_toArray, List.getElem_cons_succ, List.getElem_cons_zero, List.set_cons_succ, List.set_cons_zero])
            refine Eg.two ((rs_pre 23 wr.drew.heap.size)) (i := 5) (j := 10) (n := 8) (l := [1, 2, 3, 0, 4]) rfl rfl (by kernel_rfl) ?_ ?_
            · go_wp2_with fail
              refine (HKD.out _ ((Ext.refl wr).drew.trans HX)).mono ?_
              rintro e w9 ⟨rfl, hEc⟩
              go_wp2_with fail
              refine ⟨Rs.of_ext hEc HX.size, ?_⟩
              replace HX := HX.trans hEc
              try replace hBq := hBq.ext hEc
              refine Eg.batchK (rs_pre 23 wr.drew.heap.size) (by intro c a d v w h; cases d <;> exact h) (by kernel_rfl) (n := 4) [6, 7, 8, 9] [1, 2, 3, 0, 4, 5] _ (by kernel_rfl) (fun K hK => ?_); (simp only [pickOps, List.getElem?_toArray, List.getElem?_cons_zero, List.getElem?_cons_succ, Option.toList_some, List.cons_append, List.nil_append]); (repeat (first | go_big_quiet_step (fail) | quiet_step (fail))); refine wpQuiet_nil (hK _ ?_); clear hK K
              refine Eg.act (rs_pre 23 wr.drew.heap.size) (i := 10) (n := 3) (l := [1, 2, 3, 0, 4, 5, 6, 7, 8, 9]) rfl (by kernel_rfl) ?_
              go_wp2_with fail
              generalize hwn : World.alloc _ (.cells (cells8 Z) 23) = wn
              obtain ⟨hBq, hEn⟩ := alloc_facts hwn
              have hgq := HX.size
              first | (refine ⟨Rs.of_ext hEn hgq, ?_⟩) | (replace hEn := ext_drew2 hEn; replace hBq := Blk.drew hBq; refine ⟨Rs.of_ext hEn hgq, ?_⟩)
              replace HX := HX.trans hEn
              clear hwn
              refine Eg.act (rs_pre 23 wr.drew.heap.size) (i := 11) (n := 2) (l := [1, 2, 3, 0, 4, 5, 6, 7, 8, 9, 10]) rfl (by kernel_rfl) ?_
              go_wp2_with (refine wpList_store_row rfl 23 _ _ rfl _ _ rfl rfl _ _ hBq (pgSize HQL.out) (by rw [cells8_size, cells8_size, HQL.out, HZ.out]) (cells8_one _) ?_)
              refine ⟨Rs.setRow hgq hBq _ (by rw [cells8_size, cells8_size, HQL.out, HZ.out]), ?_⟩
              refine Eg.batchK (rs_pre 23 wr.drew.heap.size) (by intro c a d v w h; cases d <;> exact h) (by kernel_rfl) (n := 0) [12, 13] [1, 2, 3, 0, 4, 5, 6, 7, 8, 9, 10, 11] _ (by kernel_rfl) (fun K hK => ?_); (simp only [pickOps, List.getElem?_toArray, List.getElem?_cons_zero, List.getElem?_cons_succ, Option.toList_some, List.cons_append, List.nil_append]); (repeat (first | go_big_quiet_step (fail) | quiet_step (fail))); refine wpQuiet_nil (hK _ ?_); clear hK K
              refine Eg.finish (by kernel_rfl) ?_
              go_wp2_with fail
              go_meet
              exact ⟨_, rfl, rfl, rfl, hBq.row _, hgq, ((Ext.refl wr).drew.trans HX).setRow hgq _⟩
            · go_wp2_with fail
              generalize hwn : World.alloc _ (.cells (cells8 Z) 23) = wn
              obtain ⟨hBq, hEn⟩ := alloc_facts hwn
              have hgq := HX.size
              first | (refine ⟨Rs.of_ext hEn hgq, ?_⟩) | (replace hEn := ext_drew2 hEn; replace hBq := Blk.drew hBq; refine ⟨Rs.of_ext hEn hgq, ?_⟩)
              replace HX := HX.trans hEn
              clear hwn
              refine Eg.act (rs_pre 23 wr.drew.heap.size) (i := 5) (n := 7) (l := [1, 2, 3, 0, 4, 10]) rfl (by kernel_rfl) ?_
              go_wp2_with fail
              refine (HKD.out _ ((Ext.refl wr).drew.trans HX)).mono ?_
              rintro e w9 ⟨rfl, hEc⟩
              go_wp2_with fail
              refine ⟨Rs.of_ext hEc HX.size, ?_⟩
              replace HX := HX.trans hEc
              try replace hBq := hBq.ext hEc
              refine Eg.batchK (rs_pre 23 wr.drew.heap.size) (by intro c a d v w h; cases d <;> exact h) (by kernel_rfl) (n := 3) [6, 7, 8, 9] [1, 2, 3, 0, 4, 10, 5] _ (by kernel_rfl) (fun K hK => ?_); (simp only [pickOps, List.getElem?_toArray, List.getElem?_cons_zero, List.getElem?_cons_succ, Option.toList_some, List.cons_append, List.nil_append]); (repeat (first | go_big_quiet_step (fail) | quiet_step (fail))); refine wpQuiet_nil (hK _ ?_); clear hK K
              refine Eg.act (rs_pre 23 wr.drew.heap.size) (i := 11) (n := 2) (l := [1, 2, 3, 0, 4, 10, 5, 6, 7, 8, 9]) rfl (by kernel_rfl) ?_
              go_wp2_with (refine wpList_store_row rfl 23 _ _ rfl _ _ rfl rfl _ _ hBq (pgSize HQL.out) (by rw [cells8_size, cells8_size, HQL.out, HZ.out]) (cells8_one _) ?_)
              refine ⟨Rs.setRow hgq hBq _ (by rw [cells8_size, cells8_size, HQL.out, HZ.out]), ?_⟩
              refine Eg.batchK (rs_pre 23 wr.drew.heap.size) (by intro c a d v w h; cases d <;> exact h) (by kernel_rfl) (n := 0) [12, 13] [1, 2, 3, 0, 4, 10, 5, 6, 7, 8, 9, 11] _ (by kernel_rfl) (fun K hK => ?_); (simp only [pickOps, List.getElem?_toArray, List.getElem?_cons_zero, List.getElem?_cons_succ, Option.toList_some, List.cons_append, List.nil_append]); (repeat (first | go_big_quiet_step (fail) | quiet_step (fail))); refine wpQuiet_nil (hK _ ?_); clear hK K
              refine Eg.finish (by kernel_rfl) ?_
              go_wp2_with fail
              go_meet
              exact ⟨_, rfl, rfl, rfl, hBq.row _, hgq, ((Ext.refl wr).drew.trans HX).setRow hgq _⟩
          case rest =>
          obtain ⟨gq, rfl, rfl, rfl, hBq, hgp, hEq⟩ := hcut
          obtain ⟨w4, rfl⟩ : ∃ w4 : World, w4 = wc := ⟨_, rfl⟩
          have HBq := Lib.hid hBq
          have HP4 := Lib.hid (HP.out.ext hEq)
          have HE4 := Lib.hid (HE.out.trans hEq)
          have hlt4 := HP.out.blk.lt
          clear hBq hEq HP HE HLS HBY HKD
          by_cases hz : rawE P s = 0
          · rw [hz]
            have hlq := load_pg HBq.out HQL.out
            rw [show ((0 : Nat) : Int) = 0 from rfl]
            go_wp2_with (first | (refine wpList_load_g rfl 23 _ rfl _ rfl _ hlq ?_) | (refine wpList_store_row rfl 23 _ _ rfl _ _ rfl rfl _ _ HP4.out.blk (pgSize HQL.out) (by rw [cells8_size, cells8_size, HQL.out, HP4.out.len]) (cells8_one Q) ?_))
            exact ⟨⟨k + 1, by omega, by go_num, by rw [HQD.out]; exact ⟨HP4.out.blk.row _, HQL.out⟩, HE4.out.setRow hg _⟩, by simp [intOf]; omega⟩
          · have hzb : ((rawE P s : Int) == 0) = false := by rw [beq_eq_false_iff_ne]; omega
            have HQP := Lib.hid (HDQ.out hz)
            clear hz
            go_wp2_with fail
            exact ⟨⟨k + 1, by omega, by go_num, by rw [HQD.out, HQP.out]; exact HP4.out, HE4.out⟩, by simp [intOf]; omega⟩
        -- ENDDONE
      · obtain rfl : k = len := by omega
        obtain ⟨hpl, hV⟩ := HRN.out k
        have hr := (right_iff _).2 hV
        clear HRN HRS HST HF hln
        generalize runP P0 (fs.take k) = P at *
        have HPL := Lib.hid hpl
        have HV := Lib.hid hV
        have HRW := Lib.hid (room_want hpl hV)
        have HRI : Hid (∀ l : List UInt8, l.length = RoomN P → 1 ≤ l.length → l.length ≤ 1000 → insE P l.length = 0 ∧ rightB (insR P l) = true ∧ RoomN (insR P l) = 0) := Lib.hid (fun l a b d => room_ins hpl hV l a b d)
        have HRM : Hid (RoomN P < 1000 → insE P (RoomN P + 1) = 5) := Lib.hid (fun h => room_more hV h)
        have hlp := load_pg HP.out.blk hpl
        go_wp2_with (refine wpList_load_g rfl 23 _ rfl _ rfl _ hlp ?_)
        refine (Room_pg wr P hpl).mono ?_
        rintro e w4 ⟨rfl, hE4⟩
        have HP4 := Lib.hid (HP.out.ext hE4)
        have HE4 := Lib.hid (HE.out.trans hE4)
        have hgl := HP4.out.blk.lt
        clear HP HE hE4 hlp hV
        obtain ⟨n, hnn⟩ : ∃ n, RoomN P = n := ⟨_, rfl⟩
        rw [hnn] at HRI HRM HRW ⊢
        have HNN := Lib.hid hnn
        clear hnn
        obtain ⟨b1, hb1⟩ : ∃ b1, b1 = (decide (1 ≤ n) && decide (n ≤ 1000)) := ⟨_, rfl⟩
        have HB1 := Lib.hid hb1
        clear hb1
        have hnw := HRW.out.2.2
        go_upto_region 12 with fail
        go_cut [60] from 24 (fun s60 wx => s60 = .bool b1 ∧ w4 = wx)
        case first =>
          by_cases h1 : 1 ≤ n
          · have d1 : decide ((1 : Int) ≤ (n : Int)) = true := by simp; omega
            have d2 : decide ((n : Int) ≤ 1000) = decide (n ≤ 1000) := by simp only [decide_eq_decide]; omega
            have hb : b1 = decide (n ≤ 1000) := by rw [HB1.out, decide_eq_true h1]; rfl
            rw [← hb] at d2
            clear HB1 h1 hb
            go_wp2_with fail
            go_meet
            exact ⟨rfl, rfl⟩
          · have d1 : decide ((1 : Int) ≤ (n : Int)) = false := by simp; omega
            have hb : b1 = false := by rw [HB1.out, decide_eq_false h1]; rfl
            subst hb
            clear HB1 h1
            go_wp2_with fail
            go_meet
            exact ⟨rfl, rfl⟩
        case rest =>
          obtain ⟨rfl, rfl⟩ := hcut
          go_upto_if 60 with fail
          go_cut [] from 24 (fun wx => Pg wx gp P ∧ Ext w wx)
          case first =>
            have HP := HP4
            have HE := HE4
            cases b1 with
            | false =>
              go_wp2_with fail
              go_meet
              exact ⟨HP.out, HE.out⟩
            | true =>
              have hb := HB1.out
              have h1 : 1 ≤ n ∧ n ≤ 1000 := by have := hb.symm; simpa using this
              have hmk := make8 n (by omega)
              rw [noughts_cells] at hmk
              have HLL : Hid ((List.replicate n (0 : UInt8)).length = n) := Lib.hid List.length_replicate
              generalize List.replicate n (0 : UInt8) = L at *
              obtain ⟨i1, i2, i3⟩ := HRI.out L HLL.out (by rw [HLL.out]; omega) (by rw [HLL.out]; omega)
              have HKI := Lib.hid (fun W g (hB : Blk W g 5 (cells8 L)) => Insert_pg W P (some ⟨g, 0, none⟩) L n HPL.out (By.of_blk hB) (by rw [HLL.out]; omega))
              have HQL := Lib.hid (insR_length HPL.out L)
              have HKR := Lib.hid (fun W => Right_pg W (insR P L) HQL.out)
              have HKO := Lib.hid (fun W => Room_pg W (insR P L) HQL.out)
              rw [i2] at HKR
              rw [i3] at HKO
              rw [i1, HLL.out] at HKI
              generalize insR P L = Q at *
              generalize insN P n = sn at *
              clear HRI HRM HB1 hb i1 i2 i3
              go_upto_region 13 with fail
              go_cut [9, 10, 11] from 24 (fun s9 s10 s11 wx => ∃ gq, s9 = .pointer (some ⟨gq, 0, none⟩) ∧ s10 = .int .i64 (sn : Int) ∧ s11 = .int .i64 ((0 : Nat) : Int) ∧ Blk wx gq 23 (cells8 Q) ∧ Ext w4 wx)
              case first =>
                have HX := Ext.refl w4.drew
                refine wp_eager (rs_pre 23 w4.drew.heap.size) (n := 12) (by kernel_rfl) (by kernel_rfl) ?_
                refine Eg.batchK (rs_pre 23 w4.drew.heap.size) (by intro c a d v w h; cases d <;> exact h) (by kernel_rfl) (n := 11) [1] [] _ (by kernel_rfl) (fun K hK => ?_); (simp only [pickOps, List.getElem?_toArray, List.getElem?_cons_zero, List.getElem?_cons_succ, Option.toList_some, List.cons_append, List.nil_append]); (repeat (first | go_big_quiet_step (fail) | quiet_step (fail))); refine wpQuiet_nil (hK _ ?_); clear hK K
                (refine Eg.read (rs_pre 23 w4.drew.heap.size) (by intro c a d v w h; cases d <;> exact h) (by kernel_rfl) (i := 0) (n := 10) (l := [1]) rfl (by kernel_rfl) (by kernel_rfl) rfl ⟨_, fun w' hR => load_run rfl (load_pg (HP.out.ext ((Ext.refl w4).drew.trans hR.1)).blk HPL.out), ?_⟩); (simp only [Act.put, List.setIfInBounds_toArray, List.getElem_toArray, List.getElem_cons_succ, List.getElem_cons_zero, List.set_cons_succ, List.set_cons_zero])
                refine Eg.two ((rs_pre 23 w4.drew.heap.size)) (i := 2) (j := 8) (n := 9) (l := [1, 0]) rfl rfl (by kernel_rfl) ?_ ?_
                · go_wp2_with fail
                  generalize hwl : World.alloc _ (.cells (cells8 L) 5) = wl
                  obtain ⟨hBl, hEl⟩ := alloc_facts hwl
                  first | (refine ⟨Rs.of_ext hEl HX.size, ?_⟩) | (replace hEl := ext_drew2 hEl; replace hBl := Blk.drew hBl; refine ⟨Rs.of_ext hEl HX.size, ?_⟩)
                  replace HX := HX.trans hEl
                  clear hwl
                  try replace hBq := hBq.ext hEl
                  refine Eg.two ((rs_pre 23 w4.drew.heap.size)) (i := 3) (j := 8) (n := 8) (l := [1, 0, 2]) rfl rfl (by kernel_rfl) ?_ ?_
                  · go_wp2_with fail
                    refine (HKI.out _ _ hBl).mono ?_
                    rintro e w9 ⟨rfl, hEc⟩
                    go_wp2_with fail
                    refine ⟨Rs.of_ext hEc HX.size, ?_⟩
                    replace HX := HX.trans hEc
                    try replace hBq := hBq.ext hEc
                    refine Eg.batchK (rs_pre 23 w4.drew.heap.size) (by intro c a d v w h; cases d <;> exact h) (by kernel_rfl) (n := 4) [4, 5, 6, 7] [1, 0, 2, 3] _ (by kernel_rfl) (fun K hK => ?_); (simp only [pickOps, List.getElem?_toArray, List.getElem?_cons_zero, List.getElem?_cons_succ, Option.toList_some, List.cons_append, List.nil_append]); (repeat (first | go_big_quiet_step (fail) | quiet_step (fail))); refine wpQuiet_nil (hK _ ?_); clear hK K
                    refine Eg.act (rs_pre 23 w4.drew.heap.size) (i := 8) (n := 3) (l := [1, 0, 2, 3, 4, 5, 6, 7]) rfl (by kernel_rfl) ?_
                    go_wp2_with fail
                    generalize hwn : World.alloc _ (.cells (cells8 Z) 23) = wn
                    obtain ⟨hBq, hEn⟩ := alloc_facts hwn
                    have hgq := HX.size
                    first | (refine ⟨Rs.of_ext hEn hgq, ?_⟩) | (replace hEn := ext_drew2 hEn; replace hBq := Blk.drew hBq; refine ⟨Rs.of_ext hEn hgq, ?_⟩)
                    replace HX := HX.trans hEn
                    clear hwn
                    try replace hBl := hBl.ext hEn
                    refine Eg.act (rs_pre 23 w4.drew.heap.size) (i := 9) (n := 2) (l := [1, 0, 2, 3, 4, 5, 6, 7, 8]) rfl (by kernel_rfl) ?_
                    go_wp2_with (refine wpList_store_row rfl 23 _ _ rfl _ _ rfl rfl _ _ hBq (pgSize HQL.out) (by rw [cells8_size, cells8_size, HQL.out, HZ.out]) (cells8_one _) ?_)
                    refine ⟨Rs.setRow hgq hBq _ (by rw [cells8_size, cells8_size, HQL.out, HZ.out]), ?_⟩
                    refine Eg.batchK (rs_pre 23 w4.drew.heap.size) (by intro c a d v w h; cases d <;> exact h) (by kernel_rfl) (n := 0) [10, 11] [1, 0, 2, 3, 4, 5, 6, 7, 8, 9] _ (by kernel_rfl) (fun K hK => ?_); (simp only [pickOps, List.getElem?_toArray, List.getElem?_cons_zero, List.getElem?_cons_succ, Option.toList_some, List.cons_append, List.nil_append]); (repeat (first | go_big_quiet_step (fail) | quiet_step (fail))); refine wpQuiet_nil (hK _ ?_); clear hK K
                    refine Eg.finish (by kernel_rfl) ?_
                    go_wp2_with fail
                    go_meet
                    exact ⟨_, rfl, rfl, rfl, hBq.row _, ((Ext.refl w4).drew.trans HX).setRow hgq _⟩
                  · go_wp2_with fail
                    generalize hwn : World.alloc _ (.cells (cells8 Z) 23) = wn
                    obtain ⟨hBq, hEn⟩ := alloc_facts hwn
                    have hgq := HX.size
                    first | (refine ⟨Rs.of_ext hEn hgq, ?_⟩) | (replace hEn := ext_drew2 hEn; replace hBq := Blk.drew hBq; refine ⟨Rs.of_ext hEn hgq, ?_⟩)
                    replace HX := HX.trans hEn
                    clear hwn
                    try replace hBl := hBl.ext hEn
                    refine Eg.act (rs_pre 23 w4.drew.heap.size) (i := 3) (n := 7) (l := [1, 0, 2, 8]) rfl (by kernel_rfl) ?_
                    go_wp2_with fail
                    refine (HKI.out _ _ hBl).mono ?_
                    rintro e w9 ⟨rfl, hEc⟩
                    go_wp2_with fail
                    refine ⟨Rs.of_ext hEc HX.size, ?_⟩
                    replace HX := HX.trans hEc
                    try replace hBq := hBq.ext hEc
                    refine Eg.batchK (rs_pre 23 w4.drew.heap.size) (by intro c a d v w h; cases d <;> exact h) (by kernel_rfl) (n := 3) [4, 5, 6, 7] [1, 0, 2, 8, 3] _ (by kernel_rfl) (fun K hK => ?_); (simp only [pickOps, List.getElem?_toArray, List.getElem?_cons_zero, List.getElem?_cons_succ, Option.toList_some, List.cons_append, List.nil_append]); (repeat (first | go_big_quiet_step (fail) | quiet_step (fail))); refine wpQuiet_nil (hK _ ?_); clear hK K
                    refine Eg.act (rs_pre 23 w4.drew.heap.size) (i := 9) (n := 2) (l := [1, 0, 2, 8, 3, 4, 5, 6, 7]) rfl (by kernel_rfl) ?_
                    go_wp2_with (refine wpList_store_row rfl 23 _ _ rfl _ _ rfl rfl _ _ hBq (pgSize HQL.out) (by rw [cells8_size, cells8_size, HQL.out, HZ.out]) (cells8_one _) ?_)
                    refine ⟨Rs.setRow hgq hBq _ (by rw [cells8_size, cells8_size, HQL.out, HZ.out]), ?_⟩
                    refine Eg.batchK (rs_pre 23 w4.drew.heap.size) (by intro c a d v w h; cases d <;> exact h) (by kernel_rfl) (n := 0) [10, 11] [1, 0, 2, 8, 3, 4, 5, 6, 7, 9] _ (by kernel_rfl) (fun K hK => ?_); (simp only [pickOps, List.getElem?_toArray, List.getElem?_cons_zero, List.getElem?_cons_succ, Option.toList_some, List.cons_append, List.nil_append]); (repeat (first | go_big_quiet_step (fail) | quiet_step (fail))); refine wpQuiet_nil (hK _ ?_); clear hK K
                    refine Eg.finish (by kernel_rfl) ?_
                    go_wp2_with fail
                    go_meet
                    exact ⟨_, rfl, rfl, rfl, hBq.row _, ((Ext.refl w4).drew.trans HX).setRow hgq _⟩
                · go_wp2_with fail
                  generalize hwn : World.alloc _ (.cells (cells8 Z) 23) = wn
                  obtain ⟨hBq, hEn⟩ := alloc_facts hwn
                  have hgq := HX.size
                  first | (refine ⟨Rs.of_ext hEn hgq, ?_⟩) | (replace hEn := ext_drew2 hEn; replace hBq := Blk.drew hBq; refine ⟨Rs.of_ext hEn hgq, ?_⟩)
                  replace HX := HX.trans hEn
                  clear hwn
                  try replace hBl := hBl.ext hEn
                  refine Eg.act (rs_pre 23 w4.drew.heap.size) (i := 2) (n := 8) (l := [1, 0, 8]) rfl (by kernel_rfl) ?_
                  go_wp2_with fail
                  generalize hwl : World.alloc _ (.cells (cells8 L) 5) = wl
                  obtain ⟨hBl, hEl⟩ := alloc_facts hwl
                  first | (refine ⟨Rs.of_ext hEl HX.size, ?_⟩) | (replace hEl := ext_drew2 hEl; replace hBl := Blk.drew hBl; refine ⟨Rs.of_ext hEl HX.size, ?_⟩)
                  replace HX := HX.trans hEl
                  clear hwl
                  try replace hBq := hBq.ext hEl
                  refine Eg.act (rs_pre 23 w4.drew.heap.size) (i := 3) (n := 7) (l := [1, 0, 8, 2]) rfl (by kernel_rfl) ?_
                  go_wp2_with fail
                  refine (HKI.out _ _ hBl).mono ?_
                  rintro e w9 ⟨rfl, hEc⟩
                  go_wp2_with fail
                  refine ⟨Rs.of_ext hEc HX.size, ?_⟩
                  replace HX := HX.trans hEc
                  try replace hBq := hBq.ext hEc
                  refine Eg.batchK (rs_pre 23 w4.drew.heap.size) (by intro c a d v w h; cases d <;> exact h) (by kernel_rfl) (n := 3) [4, 5, 6, 7] [1, 0, 8, 2, 3] _ (by kernel_rfl) (fun K hK => ?_); (simp only [pickOps, List.getElem?_toArray, List.getElem?_cons_zero, List.getElem?_cons_succ, Option.toList_some, List.cons_append, List.nil_append]); (repeat (first | go_big_quiet_step (fail) | quiet_step (fail))); refine wpQuiet_nil (hK _ ?_); clear hK K
                  refine Eg.act (rs_pre 23 w4.drew.heap.size) (i := 9) (n := 2) (l := [1, 0, 8, 2, 3, 4, 5, 6, 7]) rfl (by kernel_rfl) ?_
                  go_wp2_with (refine wpList_store_row rfl 23 _ _ rfl _ _ rfl rfl _ _ hBq (pgSize HQL.out) (by rw [cells8_size, cells8_size, HQL.out, HZ.out]) (cells8_one _) ?_)
                  refine ⟨Rs.setRow hgq hBq _ (by rw [cells8_size, cells8_size, HQL.out, HZ.out]), ?_⟩
                  refine Eg.batchK (rs_pre 23 w4.drew.heap.size) (by intro c a d v w h; cases d <;> exact h) (by kernel_rfl) (n := 0) [10, 11] [1, 0, 8, 2, 3, 4, 5, 6, 7, 9] _ (by kernel_rfl) (fun K hK => ?_); (simp only [pickOps, List.getElem?_toArray, List.getElem?_cons_zero, List.getElem?_cons_succ, Option.toList_some, List.cons_append, List.nil_append]); (repeat (first | go_big_quiet_step (fail) | quiet_step (fail))); refine wpQuiet_nil (hK _ ?_); clear hK K
                  refine Eg.finish (by kernel_rfl) ?_
                  go_wp2_with fail
                  go_meet
                  exact ⟨_, rfl, rfl, rfl, hBq.row _, ((Ext.refl w4).drew.trans HX).setRow hgq _⟩
              case rest =>
              obtain ⟨gq, rfl, rfl, rfl, hBq, hEq⟩ := hcut
              obtain ⟨w5, rfl⟩ : ∃ w4 : World, w4 = wc := ⟨_, rfl⟩
              have HBq := Lib.hid hBq
              have HEq := Lib.hid hEq
              clear hBq hEq HKI hmk
              have hlq := load_pg HBq.out HQL.out
              rw [show ((0 : Nat) : Int) = 0 from rfl] at HKO ⊢
              go_wp2_with (first | (refine wpList_load_g rfl 23 _ rfl _ rfl _ hlq ?_) | (go_at_call 13; refine (num5_any _ _).mono ?_; rintro e w' ⟨rfl, rfl⟩))
              refine (HKR.out w5).mono ?_
              rintro e w6 ⟨rfl, hE6⟩
              have hlq6 := load_pg (HBq.out.ext hE6) HQL.out
              go_wp2_with (refine wpList_load_g rfl 23 _ rfl _ rfl _ hlq6 ?_)
              refine (HKO.out w6).mono ?_
              rintro e w7 ⟨rfl, hE7⟩
              have HEE := Lib.hid ((HEq.out.trans hE6).trans hE7)
              clear hlq hlq6 hE6 hE7 HKO HKR HBq HEq
              go_wp2_with fail
              go_meet
              exact ⟨HP.out.ext HEE.out, HE.out.trans HEE.out⟩
          case rest =>
            obtain ⟨hP5, hE5⟩ := hcut
            obtain ⟨w5, rfl⟩ : ∃ w5 : World, w5 = wc := ⟨_, rfl⟩
            have HP5 := Lib.hid hP5
            have HE5 := Lib.hid hE5
            obtain ⟨b2, hb2⟩ : ∃ b2, b2 = decide (n < 1000) := ⟨_, rfl⟩
            have HB2 := Lib.hid hb2
            have hd2 : decide ((n : Int) < 1000) = b2 := by rw [hb2]; simp only [decide_eq_decide]; omega
            clear hP5 hE5 HP4 HE4 HRI HB1 hb2
            go_upto_if 83 with fail
            go_cut [] from 24 (fun wx => Pg wx gp P ∧ Ext w wx)
            case first =>
              have HP := HP5
              have HE := HE5
              clear hd2
              cases b2 with
              | false =>
                go_wp2_with fail
                go_meet
                exact ⟨HP.out, HE.out⟩
              | true =>
                have h1 : n < 1000 := by have := HB2.out.symm; simpa using this
                have hmk := make8 (n + 1) (by omega)
                rw [noughts_cells] at hmk
                have HLL : Hid ((List.replicate (n + 1) (0 : UInt8)).length = n + 1) := Lib.hid List.length_replicate
                generalize List.replicate (n + 1) (0 : UInt8) = L at *
                have i1 := HRM.out h1
                have HKI := Lib.hid (fun W g (hB : Blk W g 5 (cells8 L)) => Insert_pg W P (some ⟨g, 0, none⟩) L (n + 1) HPL.out (By.of_blk hB) (by rw [HLL.out]; omega))
                have HQL := Lib.hid (insR_length HPL.out L)
                rw [HLL.out, i1] at HKI
                rw [show ((n + 1 : Nat) : Int) = (n : Int) + 1 by omega] at hmk
                generalize insR P L = Q at *
                generalize insN P (n + 1) = sn at *
                clear HRM HB2 i1
                go_upto_region 17 with fail
                go_cut [12, 13, 14] from 24 (fun s12 s13 s14 wx => ∃ gq, s12 = .pointer (some ⟨gq, 0, none⟩) ∧ s13 = .int .i64 (sn : Int) ∧ s14 = .int .i64 ((5 : Nat) : Int) ∧ Blk wx gq 23 (cells8 Q) ∧ Ext w5 wx)
                case first =>
                  have HX := Ext.refl w5.drew
                  refine wp_eager (rs_pre 23 w5.drew.heap.size) (n := 13) (by kernel_rfl) (by kernel_rfl) ?_
                  refine Eg.batchK (rs_pre 23 w5.drew.heap.size) (by intro c a d v w h; cases d <;> exact h) (by kernel_rfl) (n := 11) [1, 2] [] _ (by kernel_rfl) (fun K hK => ?_); (simp only [pickOps, List.getElem?_toArray, List.getElem?_cons_zero, List.getElem?_cons_succ, Option.toList_some, List.cons_append, List.nil_append]); (repeat (first | go_big_quiet_step (fail) | quiet_step (fail))); refine wpQuiet_nil (hK _ ?_); clear hK K
                  (refine Eg.read (rs_pre 23 w5.drew.heap.size) (by intro c a d v w h; cases d <;> exact h) (by kernel_rfl) (i := 0) (n := 10) (l := [1, 2]) rfl (by kernel_rfl) (by kernel_rfl) rfl ⟨_, fun w' hR => load_run rfl (load_pg (HP.out.ext ((Ext.refl w5).drew.trans hR.1)).blk HPL.out), ?_⟩); (simp only [Act.put, List.setIfInBounds_toArray, List.getElem_toArray, List.getElem_cons_succ, List.getElem_cons_zero, List.set_cons_succ, List.set_cons_zero])
                  refine Eg.two ((rs_pre 23 w5.drew.heap.size)) (i := 3) (j := 9) (n := 9) (l := [1, 2, 0]) rfl rfl (by kernel_rfl) ?_ ?_
                  · go_wp2_with fail
                    generalize hwl : World.alloc _ (.cells (cells8 L) 5) = wl
                    obtain ⟨hBl, hEl⟩ := alloc_facts hwl
                    first | (refine ⟨Rs.of_ext hEl HX.size, ?_⟩) | (replace hEl := ext_drew2 hEl; replace hBl := Blk.drew hBl; refine ⟨Rs.of_ext hEl HX.size, ?_⟩)
                    replace HX := HX.trans hEl
                    clear hwl
                    try replace hBq := hBq.ext hEl
                    refine Eg.two ((rs_pre 23 w5.drew.heap.size)) (i := 4) (j := 9) (n := 8) (l := [1, 2, 0, 3]) rfl rfl (by kernel_rfl) ?_ ?_
                    · go_wp2_with fail
                      refine (HKI.out _ _ hBl).mono ?_
                      rintro e w9 ⟨rfl, hEc⟩
                      go_wp2_with fail
                      refine ⟨Rs.of_ext hEc HX.size, ?_⟩
                      replace HX := HX.trans hEc
                      try replace hBq := hBq.ext hEc
                      refine Eg.batchK (rs_pre 23 w5.drew.heap.size) (by intro c a d v w h; cases d <;> exact h) (by kernel_rfl) (n := 4) [5, 6, 7, 8] [1, 2, 0, 3, 4] _ (by kernel_rfl) (fun K hK => ?_); (simp only [pickOps, List.getElem?_toArray, List.getElem?_cons_zero, List.getElem?_cons_succ, Option.toList_some, List.cons_append, List.nil_append]); (repeat (first | go_big_quiet_step (fail) | quiet_step (fail))); refine wpQuiet_nil (hK _ ?_); clear hK K
                      refine Eg.act (rs_pre 23 w5.drew.heap.size) (i := 9) (n := 3) (l := [1, 2, 0, 3, 4, 5, 6, 7, 8]) rfl (by kernel_rfl) ?_
                      go_wp2_with fail
                      generalize hwn : World.alloc _ (.cells (cells8 Z) 23) = wn
                      obtain ⟨hBq, hEn⟩ := alloc_facts hwn
                      have hgq := HX.size
                      first | (refine ⟨Rs.of_ext hEn hgq, ?_⟩) | (replace hEn := ext_drew2 hEn; replace hBq := Blk.drew hBq; refine ⟨Rs.of_ext hEn hgq, ?_⟩)
                      replace HX := HX.trans hEn
                      clear hwn
                      try replace hBl := hBl.ext hEn
                      refine Eg.act (rs_pre 23 w5.drew.heap.size) (i := 10) (n := 2) (l := [1, 2, 0, 3, 4, 5, 6, 7, 8, 9]) rfl (by kernel_rfl) ?_
                      go_wp2_with (refine wpList_store_row rfl 23 _ _ rfl _ _ rfl rfl _ _ hBq (pgSize HQL.out) (by rw [cells8_size, cells8_size, HQL.out, HZ.out]) (cells8_one _) ?_)
                      refine ⟨Rs.setRow hgq hBq _ (by rw [cells8_size, cells8_size, HQL.out, HZ.out]), ?_⟩
                      refine Eg.batchK (rs_pre 23 w5.drew.heap.size) (by intro c a d v w h; cases d <;> exact h) (by kernel_rfl) (n := 0) [11, 12] [1, 2, 0, 3, 4, 5, 6, 7, 8, 9, 10] _ (by kernel_rfl) (fun K hK => ?_); (simp only [pickOps, List.getElem?_toArray, List.getElem?_cons_zero, List.getElem?_cons_succ, Option.toList_some, List.cons_append, List.nil_append]); (repeat (first | go_big_quiet_step (fail) | quiet_step (fail))); refine wpQuiet_nil (hK _ ?_); clear hK K
                      refine Eg.finish (by kernel_rfl) ?_
                      go_wp2_with fail
                      go_meet
                      exact ⟨_, rfl, rfl, rfl, hBq.row _, ((Ext.refl w5).drew.trans HX).setRow hgq _⟩
                    · go_wp2_with fail
                      generalize hwn : World.alloc _ (.cells (cells8 Z) 23) = wn
                      obtain ⟨hBq, hEn⟩ := alloc_facts hwn
                      have hgq := HX.size
                      first | (refine ⟨Rs.of_ext hEn hgq, ?_⟩) | (replace hEn := ext_drew2 hEn; replace hBq := Blk.drew hBq; refine ⟨Rs.of_ext hEn hgq, ?_⟩)
                      replace HX := HX.trans hEn
                      clear hwn
                      try replace hBl := hBl.ext hEn
                      refine Eg.act (rs_pre 23 w5.drew.heap.size) (i := 4) (n := 7) (l := [1, 2, 0, 3, 9]) rfl (by kernel_rfl) ?_
                      go_wp2_with fail
                      refine (HKI.out _ _ hBl).mono ?_
                      rintro e w9 ⟨rfl, hEc⟩
                      go_wp2_with fail
                      refine ⟨Rs.of_ext hEc HX.size, ?_⟩
                      replace HX := HX.trans hEc
                      try replace hBq := hBq.ext hEc
                      refine Eg.batchK (rs_pre 23 w5.drew.heap.size) (by intro c a d v w h; cases d <;> exact h) (by kernel_rfl) (n := 3) [5, 6, 7, 8] [1, 2, 0, 3, 9, 4] _ (by kernel_rfl) (fun K hK => ?_); (simp only [pickOps, List.getElem?_toArray, List.getElem?_cons_zero, List.getElem?_cons_succ, Option.toList_some, List.cons_append, List.nil_append]); (repeat (first | go_big_quiet_step (fail) | quiet_step (fail))); refine wpQuiet_nil (hK _ ?_); clear hK K
                      refine Eg.act (rs_pre 23 w5.drew.heap.size) (i := 10) (n := 2) (l := [1, 2, 0, 3, 9, 4, 5, 6, 7, 8]) rfl (by kernel_rfl) ?_
                      go_wp2_with (refine wpList_store_row rfl 23 _ _ rfl _ _ rfl rfl _ _ hBq (pgSize HQL.out) (by rw [cells8_size, cells8_size, HQL.out, HZ.out]) (cells8_one _) ?_)
                      refine ⟨Rs.setRow hgq hBq _ (by rw [cells8_size, cells8_size, HQL.out, HZ.out]), ?_⟩
                      refine Eg.batchK (rs_pre 23 w5.drew.heap.size) (by intro c a d v w h; cases d <;> exact h) (by kernel_rfl) (n := 0) [11, 12] [1, 2, 0, 3, 9, 4, 5, 6, 7, 8, 10] _ (by kernel_rfl) (fun K hK => ?_); (simp only [pickOps, List.getElem?_toArray, List.getElem?_cons_zero, List.getElem?_cons_succ, Option.toList_some, List.cons_append, List.nil_append]); (repeat (first | go_big_quiet_step (fail) | quiet_step (fail))); refine wpQuiet_nil (hK _ ?_); clear hK K
                      refine Eg.finish (by kernel_rfl) ?_
                      go_wp2_with fail
                      go_meet
                      exact ⟨_, rfl, rfl, rfl, hBq.row _, ((Ext.refl w5).drew.trans HX).setRow hgq _⟩
                  · go_wp2_with fail
                    generalize hwn : World.alloc _ (.cells (cells8 Z) 23) = wn
                    obtain ⟨hBq, hEn⟩ := alloc_facts hwn
                    have hgq := HX.size
                    first | (refine ⟨Rs.of_ext hEn hgq, ?_⟩) | (replace hEn := ext_drew2 hEn; replace hBq := Blk.drew hBq; refine ⟨Rs.of_ext hEn hgq, ?_⟩)
                    replace HX := HX.trans hEn
                    clear hwn
                    try replace hBl := hBl.ext hEn
                    refine Eg.act (rs_pre 23 w5.drew.heap.size) (i := 3) (n := 8) (l := [1, 2, 0, 9]) rfl (by kernel_rfl) ?_
                    go_wp2_with fail
                    generalize hwl : World.alloc _ (.cells (cells8 L) 5) = wl
                    obtain ⟨hBl, hEl⟩ := alloc_facts hwl
                    first | (refine ⟨Rs.of_ext hEl HX.size, ?_⟩) | (replace hEl := ext_drew2 hEl; replace hBl := Blk.drew hBl; refine ⟨Rs.of_ext hEl HX.size, ?_⟩)
                    replace HX := HX.trans hEl
                    clear hwl
                    try replace hBq := hBq.ext hEl
                    refine Eg.act (rs_pre 23 w5.drew.heap.size) (i := 4) (n := 7) (l := [1, 2, 0, 9, 3]) rfl (by kernel_rfl) ?_
                    go_wp2_with fail
                    refine (HKI.out _ _ hBl).mono ?_
                    rintro e w9 ⟨rfl, hEc⟩
                    go_wp2_with fail
                    refine ⟨Rs.of_ext hEc HX.size, ?_⟩
                    replace HX := HX.trans hEc
                    try replace hBq := hBq.ext hEc
                    refine Eg.batchK (rs_pre 23 w5.drew.heap.size) (by intro c a d v w h; cases d <;> exact h) (by kernel_rfl) (n := 3) [5, 6, 7, 8] [1, 2, 0, 9, 3, 4] _ (by kernel_rfl) (fun K hK => ?_); (simp only [pickOps, List.getElem?_toArray, List.getElem?_cons_zero, List.getElem?_cons_succ, Option.toList_some, List.cons_append, List.nil_append]); (repeat (first | go_big_quiet_step (fail) | quiet_step (fail))); refine wpQuiet_nil (hK _ ?_); clear hK K
                    refine Eg.act (rs_pre 23 w5.drew.heap.size) (i := 10) (n := 2) (l := [1, 2, 0, 9, 3, 4, 5, 6, 7, 8]) rfl (by kernel_rfl) ?_
                    go_wp2_with (refine wpList_store_row rfl 23 _ _ rfl _ _ rfl rfl _ _ hBq (pgSize HQL.out) (by rw [cells8_size, cells8_size, HQL.out, HZ.out]) (cells8_one _) ?_)
                    refine ⟨Rs.setRow hgq hBq _ (by rw [cells8_size, cells8_size, HQL.out, HZ.out]), ?_⟩
                    refine Eg.batchK (rs_pre 23 w5.drew.heap.size) (by intro c a d v w h; cases d <;> exact h) (by kernel_rfl) (n := 0) [11, 12] [1, 2, 0, 9, 3, 4, 5, 6, 7, 8, 10] _ (by kernel_rfl) (fun K hK => ?_); (simp only [pickOps, List.getElem?_toArray, List.getElem?_cons_zero, List.getElem?_cons_succ, Option.toList_some, List.cons_append, List.nil_append]); (repeat (first | go_big_quiet_step (fail) | quiet_step (fail))); refine wpQuiet_nil (hK _ ?_); clear hK K
                    refine Eg.finish (by kernel_rfl) ?_
                    go_wp2_with fail
                    go_meet
                    exact ⟨_, rfl, rfl, rfl, hBq.row _, ((Ext.refl w5).drew.trans HX).setRow hgq _⟩
                case rest =>
                obtain ⟨gq, rfl, rfl, rfl, hBq, hEq⟩ := hcut
                obtain ⟨w6, rfl⟩ : ∃ w4 : World, w4 = wc := ⟨_, rfl⟩
                have HBq := Lib.hid hBq
                have HEq := Lib.hid hEq
                clear hBq hEq HKI hmk
                go_wp2_with (first | (go_at_call 13; refine (num5_any _ _).mono ?_; rintro e w' ⟨rfl, rfl⟩))
                go_meet
                exact ⟨HP.out.ext HEq.out, HE.out.trans HEq.out⟩
            case rest =>
              obtain ⟨hP6, hE6⟩ := hcut
              obtain ⟨w6, rfl⟩ : ∃ w6 : World, w6 = wc := ⟨_, rfl⟩
              have HP6 := Lib.hid hP6
              have HE6 := Lib.hid hE6
              have HVV := HV
              have hPK : packR P = packP P ∧ packE P = 0 := by unfold packR packE; rw [hr, if_pos rfl, if_pos rfl]; exact ⟨rfl, rfl⟩
              have hI := packP_is hpl HV.out
              have hsn : slotsN P = num2 P 14 := by unfold slotsN; rw [hr, if_pos rfl]
              have hsq : slotsN (packP P) = num2 P 14 := by unfold slotsN; rw [(right_iff _).2 (hI.right hpl HV.out), if_pos rfl, hI.many hpl]
              have KP := Lib.hid (Pack_pg w6 P hpl)
              rw [hPK.1, hPK.2] at KP
              have HQL := Lib.hid hI.len
              have hle := right_le hr
              have HSM := Lib.hid (fun k hk => sumS_le hr (k := k) hk)
              have HILN := Lib.hid (fun k hk => itemL_length hpl hr (k := k) hk)
              have HSLT := Lib.hid (fun n hn hs => right_slot hr (n := n) hn hs)
              have HKS := Lib.hid (fun W => Slots_pg W P hpl)
              have HKQ := Lib.hid (fun W => Slots_pg W (packP P) HQL.out)
              have HKO := Lib.hid (fun W => Room_pg W (packP P) HQL.out)
              rw [hsn] at HKS
              rw [hsq] at HKQ
              have HW : Hid (wantN P = (let u : Int := 1024 - (18 + 4 * (num2 P 14 : Int) + (sumS P (num2 P 14) : Int)); let v : Int := if cntS P (num2 P 14) < num2 P 14 then u else u - 4; if v < 0 then 0 else v)) := Lib.hid rfl
              have hlp := load_pg HP6.out.blk hpl
              generalize packP P = Q at *
              generalize hm : num2 P 14 = m at *
              clear hI hsn hsq hPK hP6 hE6 HP5 HE5 HRM HB2 hd2
              go_wp2_with (refine wpList_load_g rfl 23 _ rfl _ rfl _ hlp ?_)
              refine KP.out.mono ?_
              rintro e w7 ⟨rfl, hE7⟩
              have HB7 := Lib.hid (Blk.new w7 23 (cells8 Z))
              have HX7 := Lib.hid (((Ext.refl w7).alloc (.cells (cells8 Z) 23)).setRow (Nat.le_refl _) (cells8 Q))
              have HP7 := Lib.hid ((HP6.out.ext hE7).ext HX7.out)
              have HE7 := Lib.hid ((HE6.out.trans hE7).trans HX7.out)
              clear hE7 KP hlp HP6 HE6
              rw [show ((0 : Nat) : Int) = 0 from rfl]
              have hlp7 := load_pg HP7.out.blk hpl
              have HQ7 : Hid (Pg _ w7.heap.size Q) := Lib.hid ⟨HB7.out.row (cells8 Q), HQL.out⟩
              go_wp2_with (first | (refine wpList_store_row rfl 23 _ _ rfl _ _ rfl rfl _ _ HB7.out (pgSize HQL.out) (by rw [cells8_size, cells8_size, HQL.out, HZ.out]) (cells8_one Q) ?_) | (refine wpList_load_g rfl 23 _ rfl _ rfl _ hlp7 ?_))
              generalize (w7.alloc (.cells (cells8 Z) 23)).setRow w7.heap.size (cells8 Q) = w8 at *
              generalize w7.heap.size = gq at *
              refine (HKS.out w8).mono ?_
              rintro e w9 ⟨rfl, hE9⟩
              have HP9 := Lib.hid (HP7.out.ext hE9)
              have HQ9 := Lib.hid (HQ7.out.ext hE9)
              have HE9 := Lib.hid (HE7.out.trans hE9)
              clear hE9 HP7 HQ7 HE7 hlp7 HB7 HX7
              have HA := Lib.hid (Blk.new w9 3 #[.int .i64 (18 + 4 * (m : Int))])
              have HC := Lib.hid (Blk.new (w9.alloc (.cells #[.int .i64 (18 + 4 * (m : Int))] 3)) 3 #[.int .i64 0])
              rw [World.size_alloc] at HC
              have HX := Lib.hid (((Ext.refl w9).alloc (.cells #[.int .i64 (18 + 4 * (m : Int))] 3)).alloc (.cells #[.int .i64 0] 3))
              have hlp9 := load_pg (HP9.out.ext HX.out).blk hpl
              have hql := HQ9.out.blk.lt
              have hpl9 := HP9.out.blk.lt
              have hg9 := HE9.out.size
              go_wp2_with (refine wpList_load_g rfl 23 _ rfl _ rfl _ hlp9 ?_)
              have HAx := Lib.hid (HA.out.alloc (.cells #[.int .i64 0] 3))
              have HEx := Lib.hid (HE9.out.trans HX.out)
              have HPx := Lib.hid (HP9.out.ext HX.out)
              have HQx := Lib.hid (HQ9.out.ext HX.out)
              clear HA HE9 HP9 HQ9 HX hlp9
              generalize (w9.alloc (.cells #[.int .i64 (18 + 4 * (m : Int))] 3)).alloc (.cells #[.int .i64 0] 3) = w10 at *
              generalize w9.heap.size = ga at *
              refine (Items_pg w10 P hpl).mono ?_
              rintro e w11 ⟨gfn, gi, rfl, hPi, hFi, hgi1, hgi2, hE11⟩
              have HAx := Lib.hid (HAx.out.ext hE11)
              have HCx := Lib.hid (HC.out.ext hE11)
              have HEx := Lib.hid (HEx.out.trans hE11)
              have HPx := Lib.hid (HPx.out.ext hE11)
              have HQx := Lib.hid (HQx.out.ext hE11)
              have HPi := Lib.hid hPi
              have HFi := Lib.hid hFi
              have hgi3 := hFi.lt
              have hgc := HCx.out.lt
              have hg10 := HC.out.lt
              clear hE11 hPi hFi HC
              have hnil := fun W => nil_closure 51 (by kernel_rfl) 46 #[.pointer (some ⟨gfn, 0, none⟩), .pointer (some ⟨gi, 0, none⟩)] W
              go_upto_region 27 with fail
              clear hnil
              go_wp2_with fail
              have hs0 : w.heap.size ≤ ga := hg9
              refine wp_rangeF (σ := Nat) 3 (by omega) (gf := 46) (lb := #[.pointer (some ⟨gfn, 0, none⟩), .pointer (some ⟨gi, 0, none⟩)]) rfl (enters_of Try.func46 (by kernel_rfl) rfl) (items_seq P hpl gfn gi 2 (by omega))
                (fun W hg => ⟨⟨HPi.out.blk.grown hg (by simp), hpl⟩, HFi.out.grown hg (by simp)⟩) (fun k hk => by rcases hk with rfl | rfl <;> omega)
                (fun N s args s' A hx => by obtain ⟨_, k, v, _, _, _, _, _, rfl, _⟩ := hx; rfl) (fun N s args s' => itX_firm P N s args s')
                (fun s W => Blk W ga 3 #[.int .i64 ((18 + 4 * m + sumS P s : Nat) : Int)] ∧ Blk W (ga + 1) 3 #[.int .i64 (cntS P s : Int)] ∧ Pg W gp P ∧ Pg W gq Q ∧ Ext w W)
                (fun _ _ _ => False)
                (fun s A B row h hg hr => ⟨h.1.firm hg (fun r e => (hr r e).2), h.2.1.firm hg (fun r e => (hr r e).2), ⟨h.2.2.1.blk.firm hg (fun r e => (hr r e).2), h.2.2.1.len⟩, ⟨h.2.2.2.1.blk.firm hg (fun r e => (hr r e).2), h.2.2.2.1.len⟩, h.2.2.2.2.grown hg (fun k e => by have := (hr k e).1; omega)⟩)
                (fun c s A B row h hg hr => h) ⟨by rw [show ((18 + 4 * m + sumS P 0 : Nat) : Int) = 18 + 4 * (m : Int) by simp [sumS]]; exact HAx.out, by rw [show ((cntS P 0 : Nat) : Int) = 0 from rfl]; exact HCx.out, HPx.out, HQx.out, HEx.out⟩
                (fun args T => ((T.setIfInBounds 110 (args.getD 0 undef)).setIfInBounds 111 (args.getD 1 undef)).setIfInBounds 22 (args.getD 1 undef)) ?assign ?body ?done ?stop
              case assign =>
                rintro l s args s' W K ⟨_, k', v, _, _, _, _, _, rfl, _⟩ hK
                gi_wp2_with fail
                exact hK
              case body =>
                rintro l s args s' W ⟨hAw, hCw, hPw, hQw, hEw⟩ ⟨_, k', v, hsk, hkm, hem, hnz, rfl, rfl, hO⟩
                simp only [Array.getD_eq_getD_getElem?, List.getElem?_toArray, List.getElem?_cons_zero, List.getElem?_cons_succ, Option.getD_some, List.setIfInBounds_toArray, List.set_cons_succ, List.set_cons_zero]
                have hkm' : k' < m := by omega
                have hlv := HILN.out k' hkm'
                have hcs : cntS P k' = cntS P s := cntS_same P s k' hsk hem
                have hss : sumS P k' = sumS P s := sumS_same P s k' hsk hem
                have HS1 : Hid (sumS P (k' + 1) = sumS P s + slotS P k') := Lib.hid (by rw [sumS_succ, hss])
                have HC1 : Hid (cntS P (k' + 1) = cntS P s + 1) := Lib.hid (by rw [cntS_succ, hcs, if_neg hnz])
                obtain ⟨A', c', rfl, _, hc1, hc2⟩ := hO.form
                rw [hlv]
                have hsb := HSM.out (k' + 1) (by omega)
                rw [HS1.out] at hsb
                have hcb := cntS_le P s
                generalize slotS P k' = sn at *
                generalize sumS P s = ss at *
                generalize cntS P s = cs at *
                have hca : W.cell? ⟨ga, 0, none⟩ = some (.int .i64 (18 + 4 * (m : Int) + (ss : Int))) := by rw [hAw.cell]; show some (Value.int .i64 ((18 + 4 * m + ss : Nat) : Int)) = _; rw [show ((18 + 4 * m + ss : Nat) : Int) = 18 + 4 * (m : Int) + (ss : Int) by omega]
                have hcc : W.cell? ⟨ga + 1, 0, none⟩ = some (.int .i64 (cs : Int)) := by rw [hCw.cell]; rfl
                have hfa := hAw.frozen 0
                have hfc := hCw.frozen 0
                have hcc2 : ∀ u, (W.setCell ⟨ga, 0, none⟩ u).cell? ⟨ga + 1, 0, none⟩ = some (.int .i64 (cs : Int)) := fun u => by rw [(hCw.far (p := ⟨ga, 0, none⟩) (by show ga + 1 ≠ ga; omega) u).cell]; rfl
                have hfc2 : ∀ u, (W.setCell ⟨ga, 0, none⟩ u).frozen? ⟨ga + 1, 0, none⟩ = false := fun u => (hCw.far (p := ⟨ga, 0, none⟩) (by show ga + 1 ≠ ga; omega) u).frozen 0
                have HA' := Lib.hid hAw
                have HC' := Lib.hid hCw
                have HP' := Lib.hid hPw
                have HQ' := Lib.hid hQw
                have HE' := Lib.hid hEw
                clear hAw hCw hPw hQw hEw hO hem hnz hss hcs hlv
                gi_wp2_with fail
                have g1 := grown_set W ⟨ga, 0, none⟩ (.int .i64 (18 + 4 * (m : Int) + (ss : Int) + (sn : Int)))
                have hCs := HC'.out.far (p := ⟨ga, 0, none⟩) (by show ga + 1 ≠ ga; omega) (.int .i64 (18 + 4 * (m : Int) + (ss : Int) + (sn : Int)))
                have hAs := HA'.out.set 0 (.int .i64 (18 + 4 * (m : Int) + (ss : Int) + (sn : Int)))
                have g2 := grown_set (W.setCell ⟨ga, 0, none⟩ (.int .i64 (18 + 4 * (m : Int) + (ss : Int) + (sn : Int)))) ⟨ga + 1, 0, none⟩ (.int .i64 ((cs : Int) + 1))
                refine ⟨(KeepsFrom.cells g1 HA'.out).trans (KeepsFrom.cells g2 hCs), (Keeps.grown g1 (fun r e => ?_)).trans (Keeps.grown g2 (fun r e => ?_)), ?_, ?_, ?_, ?_, ?_⟩
                · cases e; exact ⟨by simp; omega, .inl (by show ga < _; omega)⟩
                · cases e; exact ⟨by simp; omega, .inl (by show ga + 1 < _; omega)⟩
                · rw [HS1.out]
                  have := hAs.far (p := ⟨ga + 1, 0, none⟩) (by show ga ≠ ga + 1; omega) (.int .i64 ((cs : Int) + 1))
                  rw [show ((18 + 4 * m + (ss + sn) : Nat) : Int) = 18 + 4 * (m : Int) + (ss : Int) + (sn : Int) by omega]
                  exact this
                · rw [HC1.out]
                  have := hCs.set 0 (.int .i64 ((cs : Int) + 1))
                  rw [show ((cs + 1 : Nat) : Int) = (cs : Int) + 1 by omega]
                  exact this
                · exact ⟨(HP'.out.blk.far (by show gp ≠ ga; omega) _).far (by show gp ≠ ga + 1; omega) _, hpl⟩
                · exact ⟨(HQ'.out.blk.far (by show gq ≠ ga; omega) _).far (by show gq ≠ ga + 1; omega) _, HQL.out⟩
                · exact (HE'.out.setCell (by show _ ≤ ga; omega) _).setCell (by show _ ≤ ga + 1; omega) _
              case done =>
                rintro D s W hD ⟨hS, _⟩ ⟨hAw, hCw, hPw, hQw, hEw⟩ hK
                obtain ⟨hs1, hs2⟩ := hS hr
                rw [hm] at hs1 hs2
                rw [← sumS_same P s m hs1 hs2] at hAw
                rw [← cntS_same P s m hs1 hs2] at hCw
                have hsb := HSM.out m (Nat.le_refl _)
                have hcb := cntS_le P m
                obtain ⟨hw1, hw2, _⟩ := HRW.out
                have HW2 := HW.out
                rw [HW2] at hw1 hw2
                rw [hw1] at HKO
                generalize sumS P m = ss at *
                generalize cntS P m = cs at *
                have hca : ∀ W', Ext W W' → W'.cell? ⟨ga, 0, none⟩ = some (.int .i64 (18 + 4 * (m : Int) + (ss : Int))) := fun W' h => by rw [(hAw.ext h).cell]; show some (Value.int .i64 ((18 + 4 * m + ss : Nat) : Int)) = _; rw [show ((18 + 4 * m + ss : Nat) : Int) = 18 + 4 * (m : Int) + (ss : Int) by omega]
                have hcc : W.drew.cell? ⟨ga + 1, 0, none⟩ = some (.int .i64 (cs : Int)) := by show W.cell? _ = _; rw [hCw.cell]; rfl
                have HP' := Lib.hid hPw
                have HQ' := Lib.hid hQw
                have HE' := Lib.hid hEw
                have HK' := Lib.hid hK
                have HCA := Lib.hid hca
                clear hAw hPw hQw hEw hK hca HW HW2 hS
                obtain ⟨hb, hhb⟩ : ∃ hb : Bool, hb = decide (cs < m) := ⟨_, rfl⟩
                have hhb2 : decide ((cs : Int) < (m : Int)) = hb := by rw [hhb]; simp only [decide_eq_decide]; omega
                go_upto_region 31 with fail
                refine wp_eager Ext.pre (n := 5) (by kernel_rfl) (by kernel_rfl) ?_
                (refine Eg.read Ext.pre (by intro c a d v w h; cases d <;> exact h) (by kernel_rfl) (i := 0) (n := 4) (l := []) rfl (by kernel_rfl) (by kernel_rfl) rfl ⟨_, fun w' hR => load_run rfl (load_i64 (hR.cell hcc)), ?_⟩); (simp only [Act.put, List.setIfInBounds_toArray, List.getElem_toArray, List.getElem_cons_succ, List.getElem_cons_zero, List.set_cons_succ, List.set_cons_zero])
                (refine Eg.read Ext.pre (by intro c a d v w h; cases d <;> exact h) (by kernel_rfl) (i := 1) (n := 3) (l := [0]) rfl (by kernel_rfl) (by kernel_rfl) rfl ⟨_, fun w' hR => load_run rfl (load_pg (HP'.out.ext ((Ext.refl W).drew.trans hR)).blk hpl), ?_⟩); (simp only [Act.put, List.setIfInBounds_toArray, List.getElem_toArray, List.getElem_cons_succ, List.getElem_cons_zero, List.set_cons_succ, List.set_cons_zero])
                refine Eg.act Ext.pre (i := 2) (n := 2) (l := [0, 1]) rfl (by kernel_rfl) ?_
                go_wp2_with fail
                refine (HKS.out _).mono ?_
                rintro e u1 ⟨rfl, hE1⟩
                go_wp2_with fail
                refine ⟨hE1, ?_⟩
                refine Eg.batchK Ext.pre (by intro c a d v w h; cases d <;> exact h) (by kernel_rfl) (n := 0) [3, 4] [0, 1, 2] _ (by kernel_rfl) (fun K hK => ?_); (simp only [pickOps, List.getElem?_toArray, List.getElem?_cons_zero, List.getElem?_cons_succ, Option.toList_some, List.cons_append, List.nil_append]); (repeat (first | go_big_quiet_step (fail) | quiet_step (fail))); refine wpQuiet_nil (hK _ ?_); clear hK K
                refine Eg.finish (by kernel_rfl) ?_
                have HX1 := Lib.hid ((Ext.refl W).drew.trans hE1)
                have hca1 := HCA.out u1 HX1.out
                clear hE1 hcc HCA hCw
                clear hhb2 hw1
                obtain ⟨V, hV'⟩ : ∃ V : Int, V = (if cs < m then 1024 - (18 + 4 * (m : Int) + (ss : Int)) else 1024 - (18 + 4 * (m : Int) + (ss : Int)) - 4) := ⟨_, rfl⟩
                rw [← hV'] at HKO hw2
                obtain ⟨X, hX'⟩ : ∃ X : Int, X = (if V < 0 then 0 else V) := ⟨_, rfl⟩
                rw [← hX'] at HKO hw2
                have HVD := Lib.hid hV'
                have HXD := Lib.hid hX'
                have d5 : decide ((n : Int) ≤ X) = true := decide_eq_true hw2
                have hvb : -5 ≤ V ∧ V ≤ 1024 := by rw [hV']; split <;> omega
                clear hV' hX' hw2 hhb
                generalize hbb : decide (cs < m) = bb at *
                have HBB := Lib.hid hbb
                clear hbb
                go_upto_if 125 with fail
                go_cut [18, 23] from 24 (fun s18 s23 wx => s23 = .int .i64 V ∧ u1 = wx)
                case first =>
                  cases bb with
                  | true =>
                    have hv := HVD.out
                    rw [if_pos (of_decide_eq_true HBB.out)] at hv
                    clear HVD HXD d5 HBB
                    go_wp2_with fail
                    go_meet
                    exact ⟨by rw [hv], rfl⟩
                  | false =>
                    have hv := HVD.out
                    rw [if_neg (of_decide_eq_false HBB.out)] at hv
                    clear HVD HXD d5 HBB
                    go_wp2_with fail
                    go_meet
                    exact ⟨by rw [hv], rfl⟩
                case rest =>
                obtain ⟨rfl, rfl⟩ := hcut
                go_upto_if 129 with fail
                go_cut [23] from 24 (fun s23 wx => s23 = .int .i64 X ∧ u1 = wx)
                case first =>
                  by_cases hc : V < 0
                  · have d1 : decide (V < 0) = true := decide_eq_true hc
                    have hv := HXD.out
                    rw [if_pos hc] at hv
                    clear HVD HXD d5
                    go_wp2_with fail
                    go_meet
                    exact ⟨by rw [hv], rfl⟩
                  · have d1 : decide (V < 0) = false := decide_eq_false hc
                    have hv := HXD.out
                    rw [if_neg hc] at hv
                    clear HVD HXD d5
                    go_wp2_with fail
                    go_meet
                    exact ⟨by rw [hv], rfl⟩
                case rest =>
                obtain ⟨rfl, rfl⟩ := hcut
                clear HVD HXD hvb
                go_upto_region 37 with fail
                refine wp_eager Ext.pre (n := 25) (by kernel_rfl) (by kernel_rfl) ?_
                refine Eg.batchK Ext.pre (by intro c a d v w h; cases d <;> exact h) (by kernel_rfl) (n := 24) [0] [] _ (by kernel_rfl) (fun K hK => ?_); (simp only [pickOps, List.getElem?_toArray, List.getElem?_cons_zero, List.getElem?_cons_succ, Option.toList_some, List.cons_append, List.nil_append]); (repeat (first | go_big_quiet_step (fail) | quiet_step (fail))); refine wpQuiet_nil (hK _ ?_); clear hK K
                refine Eg.act Ext.pre (i := 1) (n := 23) (l := [0]) rfl (by kernel_rfl) ?_
                go_wp2_with (go_at_call 13; refine (num5_any _ _).mono ?_; rintro e w' ⟨rfl, rfl⟩)
                refine ⟨Ext.refl _, ?_⟩
                refine Eg.batchK Ext.pre (by intro c a d v w h; cases d <;> exact h) (by kernel_rfl) (n := 20) [2, 3, 6] [0, 1] _ (by kernel_rfl) (fun K hK => ?_); (simp only [pickOps, List.getElem?_toArray, List.getElem?_cons_zero, List.getElem?_cons_succ, Option.toList_some, List.cons_append, List.nil_append]); (repeat (first | go_big_quiet_step (fail) | quiet_step (fail))); refine wpQuiet_nil (hK _ ?_); clear hK K
                (refine Eg.read Ext.pre (by intro c a d v w h; cases d <;> exact h) (by kernel_rfl) (i := 4) (n := 19) (l := [0, 1, 2, 3, 6]) rfl (by kernel_rfl) (by kernel_rfl) rfl ⟨_, fun w' hR => load_run rfl (load_pg (HQ'.out.ext (HX1.out.trans ((Ext.refl u1).drew.trans hR))).blk HQL.out), ?_⟩); (simp only [Act.put, List.setIfInBounds_toArray, List.getElem_toArray, List.getElem_cons_succ, List.getElem_cons_zero, List.set_cons_succ, List.set_cons_zero])
                refine Eg.act Ext.pre (i := 5) (n := 18) (l := [0, 1, 2, 3, 6, 4]) rfl (by kernel_rfl) ?_
                go_wp2_with fail
                refine (HKO.out _).mono ?_
                rintro e u2' ⟨rfl, hE2⟩
                go_wp2_with fail
                refine ⟨hE2, ?_⟩
                replace hE2 := (Ext.refl u1).drew.trans hE2
                refine Eg.batchK Ext.pre (by intro c a d v w h; cases d <;> exact h) (by kernel_rfl) (n := 15) [7, 8, 9] [0, 1, 2, 3, 6, 4, 5] _ (by kernel_rfl) (fun K hK => ?_); (simp only [pickOps, List.getElem?_toArray, List.getElem?_cons_zero, List.getElem?_cons_succ, Option.toList_some, List.cons_append, List.nil_append]); (repeat (first | go_big_quiet_step (fail) | quiet_step (fail))); refine wpQuiet_nil (hK _ ?_); clear hK K
                (refine Eg.read Ext.pre (by intro c a d v w h; cases d <;> exact h) (by kernel_rfl) (i := 10) (n := 14) (l := [0, 1, 2, 3, 6, 4, 5, 7, 8, 9]) rfl (by kernel_rfl) (by kernel_rfl) rfl ⟨_, fun w' hR => load_run rfl (load_pg (HQ'.out.ext (HX1.out.trans (hE2.trans hR))).blk HQL.out), ?_⟩); (simp only [Act.put, List.setIfInBounds_toArray, List.getElem_toArray, List.getElem_cons_succ, List.getElem_cons_zero, List.set_cons_succ, List.set_cons_zero])
                (refine Eg.read Ext.pre (by intro c a d v w h; cases d <;> exact h) (by kernel_rfl) (i := 12) (n := 13) (l := [0, 1, 2, 3, 6, 4, 5, 7, 8, 9, 10]) rfl (by kernel_rfl) (by kernel_rfl) rfl ⟨_, fun w' hR => load_run rfl (load_pg (HP'.out.ext (HX1.out.trans (hE2.trans hR))).blk hpl), ?_⟩); (simp only [Act.put, List.setIfInBounds_toArray, List.getElem_toArray, List.getElem_cons_succ, List.getElem_cons_zero, List.set_cons_succ, List.set_cons_zero])
                refine Eg.act Ext.pre (i := 11) (n := 12) (l := [0, 1, 2, 3, 6, 4, 5, 7, 8, 9, 10, 12]) rfl (by kernel_rfl) ?_
                go_wp2_with fail
                refine (HKQ.out _).mono ?_
                rintro e u3 ⟨rfl, hE3⟩
                go_wp2_with fail
                refine ⟨hE3, ?_⟩
                refine Eg.act Ext.pre (i := 13) (n := 11) (l := [0, 1, 2, 3, 6, 4, 5, 7, 8, 9, 10, 12, 11]) rfl (by kernel_rfl) ?_
                go_wp2_with fail
                refine (HKS.out _).mono ?_
                rintro e u4' ⟨rfl, hE4⟩
                go_wp2_with fail
                refine ⟨hE4, ?_⟩
                refine Eg.batchK Ext.pre (by intro c a d v w h; cases d <;> exact h) (by kernel_rfl) (n := 3) [14, 15, 16, 17, 18, 19, 20, 21] [0, 1, 2, 3, 6, 4, 5, 7, 8, 9, 10, 12, 11, 13] _ (by kernel_rfl) (fun K hK => ?_); (simp only [pickOps, List.getElem?_toArray, List.getElem?_cons_zero, List.getElem?_cons_succ, Option.toList_some, List.cons_append, List.nil_append]); (repeat (first | go_big_quiet_step (fail) | quiet_step (fail))); refine wpQuiet_nil (hK _ ?_); clear hK K
                refine Eg.act Ext.pre (i := 22) (n := 2) (l := [0, 1, 2, 3, 6, 4, 5, 7, 8, 9, 10, 12, 11, 13, 14, 15, 16, 17, 18, 19, 20, 21]) rfl (by kernel_rfl) ?_
                go_wp2_with fail
                refine (known5_any _).mono ?_
                rintro e u5' ⟨rfl, hE5⟩
                go_wp2_with fail
                refine ⟨hE5, ?_⟩
                refine Eg.batchK Ext.pre (by intro c a d v w h; cases d <;> exact h) (by kernel_rfl) (n := 0) [23, 24] [0, 1, 2, 3, 6, 4, 5, 7, 8, 9, 10, 12, 11, 13, 14, 15, 16, 17, 18, 19, 20, 21, 22] _ (by kernel_rfl) (fun K hK => ?_); (simp only [pickOps, List.getElem?_toArray, List.getElem?_cons_zero, List.getElem?_cons_succ, Option.toList_some, List.cons_append, List.nil_append]); (repeat (first | go_big_quiet_step (fail) | quiet_step (fail))); refine wpQuiet_nil (hK _ ?_); clear hK K
                refine Eg.finish (by kernel_rfl) ?_
                have HEF := Lib.hid (((HX1.out.trans hE2).trans hE3).trans (hE4.trans hE5))
                go_wp2_with fail
                have hKs : u5'.heap[D]? = some (.deferred (some [])) := (HEF.out.block (Array.getElem?_eq_some_iff.1 HK'.out).1).trans HK'.out
                exact postM_mark hKs (results_tmp Try.results6 _ _ _) ⟨rfl, (HE'.out.trans HEF.out).mark (by omega)⟩
              case stop =>
                rintro D c s W _ _ h _
                exact h.elim

end Go.Proofs.Ytgbfeagoadlhmaa
