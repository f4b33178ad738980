
/-
  The law PagePacks, walked.
-/
import Derived.Test.YtgbfeagoadlhmaaPack
import Derived.Test.YtgbfeagoadlhmaaPackV
set_option linter.unusedVariables false
set_option linter.unusedSimpArgs false
namespace Go.Proofs.Ytgbfeagoadlhmaa
open Go.RowKit Pl

theorem build_pg {Z : List UInt8} (hz : ∀ (w : World), (zeroValue 23).run Try.prog w = .ok (.agg (cells8 Z)) w) (w : World) : (Instr.build 23 #[]).run Try.prog w = .ok (.agg (cells8 Z)) w := by
  unfold Instr.build
  simp only [Sem.run_bind, hz, Result.andThen_ok, run_underlying Try.pgUnd, Try.pgElem]
  rfl
theorem build_run0 {P : Program} {o : Oper} {t : TypeId} (ho : o.op = .build t #[]) {ρ : Operand → Value} {v : Value} {w : World} (h : (Instr.build t #[]).run P w = .ok v w) : (execOp ρ o).run P w = .ok (.value v) w := by
  unfold execOp
  simp only [ho, List.map_toArray, List.map_nil, Sem.run_bind, h, Result.andThen, Sem.run_pure]
theorem binOp_run_agg {P : Program} {o : Oper} {b : BinOp} {t t2 : TypeId} (hg : P.eqGuardType P.depth t = false) {x y : Operand} (ho : o.op = .binOp b t x y t2) {ρ : Operand → Value} {v : Value} {xs ys : Array Value} {w : World} (hx : ρ x = .agg xs) (hy : ρ y = .agg ys) (h : (binOp b t (.agg xs) (.agg ys)).run P w = .ok v w) : (execOp ρ o).run P w = .ok (.value v) w := by
  unfold execOp
  simp only [ho, hx, hy, Sem.run_bind, run_eqGuard_agg _ b t x y xs ys hg, h, Result.andThen, Sem.run_pure]
theorem Try.pgGuard : Try.prog.eqGuardType Try.prog.depth 23 = false := by kernel_rfl
theorem wpList_run_g {P : Program} {ops : Array Oper} {rest : List Oper} {o : Oper} {a : Act} {w : World} {Q : Exit → Act → World → Prop} (hw : Region.wanted o (yielded ops a.tmps) = true) (u : Value) (hr : (execOp a.eval o).run P w = .ok (.value u) w)
    (h : wpList P ops Q rest (a.put o.dst u) w) : wpList P ops Q (o :: rest) a w :=
  wpList_step fun K hK => by
    rw [if_pos hw]
    unfold Oper.wp
    rw [hr]
    exact hK _ _ h
/-- pages compared -/
theorem bin_eql_pg {P Q : List UInt8} (hP : P.length = 1024) (hQ : Q.length = 1024) (w : World) : (binOp .eql 23 (.agg (cells8 P)) (.agg (cells8 Q))).run Try.prog w = .ok (.bool (decide (P = Q))) w := by
  have h2 : (Op.equal 23 (.agg (cells8 P)) (.agg (cells8 Q))).run Try.prog w = .ok (decide (P = Q)) w := eql_pg hP hQ w
  simp only [binOp]
  simp [h2]
theorem bin_neq_pg {P Q : List UInt8} (hP : P.length = 1024) (hQ : Q.length = 1024) (w : World) : (binOp .neq 23 (.agg (cells8 P)) (.agg (cells8 Q))).run Try.prog w = .ok (.bool (!decide (P = Q))) w := by
  have h2 : (Op.equal 23 (.agg (cells8 P)) (.agg (cells8 Q))).run Try.prog w = .ok (decide (P = Q)) w := eql_pg hP hQ w
  simp only [binOp]
  simp [h2]
theorem eql_self {P : List UInt8} (hP : P.length = 1024) (w : World) : (binOp .eql 23 (.agg (cells8 P)) (.agg (cells8 P))).run Try.prog w = .ok (.bool true) w := by
  have := bin_eql_pg hP hP w
  rw [decide_eq_true (rfl : P = P)] at this
  exact this
theorem neq_self {P : List UInt8} (hP : P.length = 1024) (w : World) : (binOp .neq 23 (.agg (cells8 P)) (.agg (cells8 P))).run Try.prog w = .ok (.bool false) w := by
  have := bin_neq_pg hP hP w
  rw [decide_eq_true (rfl : P = P)] at this
  exact this

set_option maxHeartbeats 4000000 in
set_option maxRecDepth 100000 in
theorem packs_any (w : World) (P : List UInt8) (h : P.length = 1024) :
    Calls Try.prog 4 #[.agg (cells8 P)] w fun e w' => e = .returned (.bool true) ∧ Ext w w' := by
  have hz := (zero_of_info Try.page0).1
  have HP0 := Lib.hid (Pg.new w P h)
  have HE0 := Lib.hid (ext_new w (.cells (cells8 P) 23))
  have HPL := Lib.hid h
  have KP := Lib.hid (Pack_pg (w.alloc (.cells (cells8 P) 23)) P h)
  have HPE : Hid (packE P = if rightB P then 0 else 4) := Lib.hid rfl
  have HPR : Hid (packR P = if rightB P then packP P else zeroP) := Lib.hid rfl
  have hl0 := load_pg HP0.out.blk h
  have HZ := Lib.hid zeroP_length
  have KRt := Lib.hid (fun W => Right_pg W P h)
  cases hr : rightB P with
  | false =>
    rw [hr] at HPE HPR KRt
    simp only [Bool.false_eq_true, if_false] at HPE HPR
    rw [HPE.out, HPR.out] at KP
    generalize zeroP = Z at *
    have hZZ := fun W => eql_self HZ.out W
    have hbz := fun W => build_pg hz W
    generalize hw0 : w.alloc (.cells (cells8 P) 23) = w0 at *
    clear h hr
    go_enter Try.func4, Try.ntmps4
    go_wp2_with (first | (refine wpList_load_g rfl 23 _ rfl _ rfl _ hl0 ?_))
    refine KP.out.mono ?_
    rintro e w1 ⟨rfl, hE1⟩
    have HP1 := Lib.hid (HP0.out.ext hE1)
    have HE1 := Lib.hid (HE0.out.trans hE1)
    rw [show ((4 : Nat) : Int) = 4 from rfl]
    have HNB := Lib.hid (Blk.new w1 23 (cells8 Z))
    have HX := Lib.hid (((Ext.refl w1).alloc (.cells (cells8 Z) 23)).setRow (Nat.le_refl _) (cells8 Z))
    clear hE1 KP HP0 HE0 hl0 hw0
    go_wp2_with (first | (refine wpList_store_row rfl 23 _ _ rfl _ _ rfl rfl _ _ HNB.out (pgSize HZ.out) rfl (cells8_one Z) ?_; have hq2 := load_pg (HNB.out.row (cells8 Z)) HZ.out; have HQ2 := Lib.hid (HNB.out.row (cells8 Z)); have HP2 := Lib.hid (HP1.out.ext HX.out); have HE2 := Lib.hid (HE1.out.trans HX.out); generalize (w1.alloc (.cells (cells8 Z) 23)).setRow w1.heap.size (cells8 Z) = w2 at *; have hl2 := load_pg HP2.out.blk HPL.out; clear HP1 HE1 HX HNB) | (go_at_call 13; refine (num5_any _ _).mono ?_; rintro e w' ⟨rfl, rfl⟩) | (refine wpList_load_g rfl 23 _ rfl _ rfl _ hl2 ?_) )
    refine (KRt.out w2).mono ?_
    rintro e w3 ⟨rfl, hE3⟩
    have hq3 := load_pg (HQ2.out.ext hE3) HZ.out
    have HE3 := Lib.hid (HE2.out.trans hE3)
    clear hE3 hq2 HQ2 HP2 HE2 hl2
    go_wp2_with (first | (refine wpList_load_g rfl 23 _ rfl _ rfl _ hq3 ?_) | (refine wpList_run_g rfl _ (build_run0 rfl (hbz _)) ?_) | (refine wpList_run_g rfl _ (binOp_run_agg Try.pgGuard (b := .eql) rfl rfl rfl (hZZ _)) ?_))
    refine (known5_any w3).mono ?_
    rintro e w4 ⟨rfl, hE4⟩
    go_wp2_with fail
    go_ret
    exact ⟨rfl, HE3.out.trans hE4⟩
  | true =>
    obtain ⟨Q, q1, q2, q3, q4, q5, q6, q7, q8, q9, q10⟩ := pack_all h hr
    rw [q1, q2] at KP
    rw [hr] at KRt
    have HQL := Lib.hid q3
    have HK2 := Lib.hid (fun W => Pack_pg W Q q3)
    rw [q4, q5] at HK2
    have HR2 := Lib.hid (fun W => Right_pg W Q q3)
    rw [q6] at HR2
    have HKa := Lib.hid (fun W => Kind_pg W P h)
    have HKb := Lib.hid (fun W => Kind_pg W Q q3)
    rw [q7] at HKb
    generalize at8 P 12 = kd at *
    have hsm : slotsN P < 65536 := by unfold slotsN; rw [hr, if_pos rfl]; exact num2_lt _ _
    have HSa := Lib.hid (fun W => Slots_pg W P h)
    have HSb := Lib.hid (fun W => Slots_pg W Q q3)
    rw [q9] at HSb
    generalize slotsN P = m at *
    have HIa := Lib.hid (fun W (z : Int) a b => Item_pg W P z h a b)
    have HIb : Hid (∀ (W : World) (z : Int), -9223372036854775808 ≤ z → z ≤ 9223372036854775807 → Calls Try.prog 17 #[.agg (cells8 Q), .int .i64 z] W fun e w' => ∃ v, e = .returned (.tuple #[v, .int .i64 (itemE P z : Int)]) ∧ Own 5 w' W.heap.size v (itemB P z) ∧ Ext W w') := Lib.hid (fun W z a b => by
      have := Item_pg W Q z q3 a b
      rw [(q10 z).1, (q10 z).2] at this
      exact this)
    have HTa : Hid (∀ (W : World), Pg W w.heap.size P → By W (some ⟨w.heap.size, 0, none⟩) (P.take 13)) := Lib.hid (fun W H => by have := H.by_ 0 13 (by omega); rwa [List.drop_zero] at this)
    have HTb : Hid (∀ (W : World) (g : Nat), Pg W g Q → By W (some ⟨g, 0, none⟩) (P.take 13)) := Lib.hid (fun W g H => by have := H.by_ 0 13 (by omega); rwa [List.drop_zero, q8] at this)
    have hQQ := fun W => neq_self q3 W
    have HTL : Hid ((P.take 13).length = 13) := Lib.hid (by rw [List.length_take, h]; omega)
    generalize P.take 13 = T at *
    clear h hr q1 q2 q3 q4 q5 q6 q7 q8 q9 q10 HPE HPR
    generalize hw0 : w.alloc (.cells (cells8 P) 23) = w0 at *
    generalize zeroP = Z at *
    go_enter Try.func4, Try.ntmps4
    go_wp2_with (first | (refine wpList_load_g rfl 23 _ rfl _ rfl _ hl0 ?_))
    refine KP.out.mono ?_
    rintro e w1 ⟨rfl, hE1⟩
    have HP1 := Lib.hid (HP0.out.ext hE1)
    have HE1 := Lib.hid (HE0.out.trans hE1)
    have hg1 : w.heap.size < w1.heap.size := HP1.out.blk.lt
    rw [show ((0 : Nat) : Int) = 0 from rfl]
    have HNB := Lib.hid (Blk.new w1 23 (cells8 Z))
    have HX := Lib.hid (((Ext.refl w1).alloc (.cells (cells8 Z) 23)).setRow (Nat.le_refl _) (cells8 Q))
    clear hE1 KP HP0 HE0 hl0 hw0
    go_wp2_with (first | (refine wpList_store_row rfl 23 _ _ rfl _ _ rfl rfl _ _ HNB.out (pgSize HQL.out) (by rw [cells8_size, cells8_size, HQL.out, HZ.out]) (cells8_one Q) ?_; have hq2 := load_pg (HNB.out.row (cells8 Q)) HQL.out; have HQ2 : Hid (Pg _ w1.heap.size Q) := Lib.hid ⟨HNB.out.row (cells8 Q), HQL.out⟩; have HP2 := Lib.hid (HP1.out.ext HX.out); have HE2 := Lib.hid (HE1.out.trans HX.out); generalize (w1.alloc (.cells (cells8 Z) 23)).setRow w1.heap.size (cells8 Q) = w2 at *; clear HP1 HE1 HX HNB) | (go_at_call 13; refine (num5_any _ _).mono ?_; rintro e w' ⟨rfl, rfl⟩) | (refine wpList_load_g rfl 23 _ rfl _ rfl _ hq2 ?_) )
    refine (HK2.out w2).mono ?_
    rintro e w3 ⟨rfl, hE3⟩
    have HP3 := Lib.hid (HP2.out.ext hE3)
    have HQ3 := Lib.hid (HQ2.out.ext hE3)
    have HE3 := Lib.hid (HE2.out.trans hE3)
    rw [show ((0 : Nat) : Int) = 0 from rfl]
    have HNB := Lib.hid (Blk.new w3 23 (cells8 Z))
    have HX := Lib.hid (((Ext.refl w3).alloc (.cells (cells8 Z) 23)).setRow (Nat.le_refl _) (cells8 Q))
    clear hE3 HP2 HQ2 HE2 HK2 hq2
    generalize w1.heap.size = gq at *
    go_wp2_with (first | (refine wpList_store_row rfl 23 _ _ rfl _ _ rfl rfl _ _ HNB.out (pgSize HQL.out) (by rw [cells8_size, cells8_size, HQL.out, HZ.out]) (cells8_one Q) ?_; have HO4 : Hid (Pg _ w3.heap.size Q) := Lib.hid ⟨HNB.out.row (cells8 Q), HQL.out⟩; have HP4 := Lib.hid (HP3.out.ext HX.out); have HQ4 := Lib.hid (HQ3.out.ext HX.out); have HE4 := Lib.hid (HE3.out.trans HX.out); generalize (w3.alloc (.cells (cells8 Z) 23)).setRow w3.heap.size (cells8 Q) = w4 at *; clear HP3 HQ3 HE3 HX HNB))
    generalize w3.heap.size = go at *
    have hslA := fun W => slice_pgh w.heap.size 13 (by omega) W
    have hslB := fun W => slice_pgh gq 13 (by omega) W
    have HSTa : Hid (∀ W, Ext w4 W → (convert 24 9 (.slice (some ⟨w.heap.size, 0, none⟩) 13 1024)).run Try.prog W = .ok (.string ⟨T.toArray⟩) W) := Lib.hid (fun W hE => by
      have := str_any ((HTa.out w4 HP4.out).ext hE) 1024
      rwa [HTL.out] at this)
    have HSTb : Hid (∀ W, Ext w4 W → (convert 24 9 (.slice (some ⟨gq, 0, none⟩) 13 1024)).run Try.prog W = .ok (.string ⟨T.toArray⟩) W) := Lib.hid (fun W hE => by
      have := str_any ((HTb.out w4 gq HQ4.out).ext hE) 1024
      rwa [HTL.out] at this)
    rw [show ((13 : Nat) : Int) = 13 from rfl] at hslA hslB
    have hgd := Try.pgGuard
    clear hz HPL HZ
    refine wp_eager Ext.pre (n := 34) (by kernel_rfl) (by kernel_rfl) ?_
    refine Eg.batchK Ext.pre (by intro c a d v w h; cases d <;> exact h) (by kernel_rfl) (n := 33) [0] [] _ (by kernel_rfl) (fun K hK => ?_); (simp only [pickOps, List.getElem?_toArray, List.getElem?_cons_zero, List.getElem?_cons_succ, Option.toList_some, List.cons_append, List.nil_append]); (repeat (first | go_big_quiet_step (fail) | quiet_step (fail))); refine wpQuiet_nil (hK _ ?_); clear hK K
    refine Eg.act Ext.pre (i := 1) (n := 32) (l := [0]) rfl (by kernel_rfl) ?_
    go_wp2_with (go_at_call 13; refine (num5_any _ _).mono ?_; rintro e w' ⟨rfl, rfl⟩)
    refine ⟨Ext.refl _, ?_⟩
    refine Eg.batchK Ext.pre (by intro c a d v w h; cases d <;> exact h) (by kernel_rfl) (n := 30) [2, 3] [0, 1] _ (by kernel_rfl) (fun K hK => ?_); (simp only [pickOps, List.getElem?_toArray, List.getElem?_cons_zero, List.getElem?_cons_succ, Option.toList_some, List.cons_append, List.nil_append]); (repeat (first | go_big_quiet_step (fail) | quiet_step (fail))); refine wpQuiet_nil (hK _ ?_); clear hK K
    (refine Eg.read Ext.pre (by intro c a d v w h; cases d <;> exact h) (by kernel_rfl) (i := 4) (n := 29) (l := [0, 1, 2, 3]) rfl (by kernel_rfl) (by kernel_rfl) rfl ⟨_, fun w' hR => load_run rfl (load_pg (HO4.out.ext ((Ext.refl w4).drew.trans hR)).blk HQL.out), ?_⟩); (simp only [Act.put, List.setIfInBounds_toArray, List.getElem_toArray, List.getElem_cons_succ, List.getElem_cons_zero, List.set_cons_succ, List.set_cons_zero])
    (refine Eg.read Ext.pre (by intro c a d v w h; cases d <;> exact h) (by kernel_rfl) (i := 5) (n := 28) (l := [0, 1, 2, 3, 4]) rfl (by kernel_rfl) (by kernel_rfl) rfl ⟨_, fun w' hR => load_run rfl (load_pg (HQ4.out.ext ((Ext.refl w4).drew.trans hR)).blk HQL.out), ?_⟩); (simp only [Act.put, List.setIfInBounds_toArray, List.getElem_toArray, List.getElem_cons_succ, List.getElem_cons_zero, List.set_cons_succ, List.set_cons_zero])
    refine Eg.batchK Ext.pre (by intro c a d v w h; cases d <;> exact h) (by kernel_rfl) (n := 25) [6, 7, 8] [0, 1, 2, 3, 4, 5] _ (by kernel_rfl) (fun K hK => ?_); (simp only [pickOps, List.getElem?_toArray, List.getElem?_cons_zero, List.getElem?_cons_succ, Option.toList_some, List.cons_append, List.nil_append]); (repeat (first | go_big_quiet_step (fail) | quiet_step (fail))); refine wpQuiet_nil (hK _ ?_); clear hK K
    (refine Eg.read Ext.pre (by intro c a d v w h; cases d <;> exact h) (by kernel_rfl) (i := 9) (n := 24) (l := [0, 1, 2, 3, 4, 5, 6, 7, 8]) rfl (by kernel_rfl) (by kernel_rfl) rfl ⟨_, fun w' hR => load_run rfl (load_pg (HQ4.out.ext ((Ext.refl w4).drew.trans hR)).blk HQL.out), ?_⟩); (simp only [Act.put, List.setIfInBounds_toArray, List.getElem_toArray, List.getElem_cons_succ, List.getElem_cons_zero, List.set_cons_succ, List.set_cons_zero])
    refine Eg.act Ext.pre (i := 10) (n := 23) (l := [0, 1, 2, 3, 4, 5, 6, 7, 8, 9]) rfl (by kernel_rfl) ?_
    go_wp2_with fail
    refine (HR2.out _).mono ?_
    rintro e w5 ⟨rfl, hE5⟩
    go_wp2_with fail
    refine ⟨hE5, ?_⟩
    replace hE5 := (Ext.refl w4).drew.trans hE5
    refine Eg.batchK Ext.pre (by intro c a d v w h; cases d <;> exact h) (by kernel_rfl) (n := 20) [11, 12, 13] [0, 1, 2, 3, 4, 5, 6, 7, 8, 9, 10] _ (by kernel_rfl) (fun K hK => ?_); (simp only [pickOps, List.getElem?_toArray, List.getElem?_cons_zero, List.getElem?_cons_succ, Option.toList_some, List.cons_append, List.nil_append]); (repeat (first | go_big_quiet_step (fail) | quiet_step (fail))); refine wpQuiet_nil (hK _ ?_); clear hK K
    (refine Eg.read Ext.pre (by intro c a d v w h; cases d <;> exact h) (by kernel_rfl) (i := 14) (n := 19) (l := [0, 1, 2, 3, 4, 5, 6, 7, 8, 9, 10, 11, 12, 13]) rfl (by kernel_rfl) (by kernel_rfl) rfl ⟨_, fun w' hR => load_run rfl (load_pg (HQ4.out.ext (hE5.trans hR)).blk HQL.out), ?_⟩); (simp only [Act.put, List.setIfInBounds_toArray, List.getElem_toArray, List.getElem_cons_succ, List.getElem_cons_zero, List.set_cons_succ, List.set_cons_zero])
    (refine Eg.read Ext.pre (by intro c a d v w h; cases d <;> exact h) (by kernel_rfl) (i := 16) (n := 18) (l := [0, 1, 2, 3, 4, 5, 6, 7, 8, 9, 10, 11, 12, 13, 14]) rfl (by kernel_rfl) (by kernel_rfl) rfl ⟨_, fun w' hR => load_run rfl (load_pg (HP4.out.ext (hE5.trans hR)).blk HP4.out.len), ?_⟩); (simp only [Act.put, List.setIfInBounds_toArray, List.getElem_toArray, List.getElem_cons_succ, List.getElem_cons_zero, List.set_cons_succ, List.set_cons_zero])
    refine Eg.act Ext.pre (i := 15) (n := 17) (l := [0, 1, 2, 3, 4, 5, 6, 7, 8, 9, 10, 11, 12, 13, 14, 16]) rfl (by kernel_rfl) ?_
    go_wp2_with fail
    refine (HKb.out w5).mono ?_
    rintro e w6 ⟨rfl, hE6⟩
    go_wp2_with fail
    refine ⟨hE6, ?_⟩
    refine Eg.act Ext.pre (i := 17) (n := 16) (l := [0, 1, 2, 3, 4, 5, 6, 7, 8, 9, 10, 11, 12, 13, 14, 16, 15]) rfl (by kernel_rfl) ?_
    go_wp2_with fail
    refine (HKa.out w6).mono ?_
    rintro e w7 ⟨rfl, hE7⟩
    go_wp2_with fail
    refine ⟨hE7, ?_⟩
    have hE47 := (hE5.trans hE6).trans hE7
    refine Eg.batchK Ext.pre (by intro c a d v w h; cases d <;> exact h) (by kernel_rfl) (n := 11) [18, 19, 20, 21, 23] [0, 1, 2, 3, 4, 5, 6, 7, 8, 9, 10, 11, 12, 13, 14, 16, 15, 17] _ (by kernel_rfl) (fun K hK => ?_); (simp only [pickOps, List.getElem?_toArray, List.getElem?_cons_zero, List.getElem?_cons_succ, Option.toList_some, List.cons_append, List.nil_append]); (repeat (first | go_big_quiet_step (fail) | quiet_step (fail))); refine wpQuiet_nil (hK _ ?_); clear hK K
    (refine Eg.read Ext.pre (by intro c a d v w h; cases d <;> exact h) (by kernel_rfl) (i := 22) (n := 10) (l := [0, 1, 2, 3, 4, 5, 6, 7, 8, 9, 10, 11, 12, 13, 14, 16, 15, 17, 18, 19, 20, 21, 23]) rfl (by kernel_rfl) (by kernel_rfl) rfl ⟨_, fun w' hR => convert_run rfl (HSTb.out w' (hE47.trans hR)), ?_⟩); (simp only [Act.put, List.setIfInBounds_toArray, List.getElem_toArray, List.getElem_cons_succ, List.getElem_cons_zero, List.set_cons_succ, List.set_cons_zero])
    (refine Eg.read Ext.pre (by intro c a d v w h; cases d <;> exact h) (by kernel_rfl) (i := 24) (n := 9) (l := [0, 1, 2, 3, 4, 5, 6, 7, 8, 9, 10, 11, 12, 13, 14, 16, 15, 17, 18, 19, 20, 21, 23, 22]) rfl (by kernel_rfl) (by kernel_rfl) rfl ⟨_, fun w' hR => convert_run rfl (HSTa.out w' (hE47.trans hR)), ?_⟩); (simp only [Act.put, List.setIfInBounds_toArray, List.getElem_toArray, List.getElem_cons_succ, List.getElem_cons_zero, List.set_cons_succ, List.set_cons_zero])
    refine Eg.batchK Ext.pre (by intro c a d v w h; cases d <;> exact h) (by kernel_rfl) (n := 6) [25, 26, 27] [0, 1, 2, 3, 4, 5, 6, 7, 8, 9, 10, 11, 12, 13, 14, 16, 15, 17, 18, 19, 20, 21, 23, 22, 24] _ (by kernel_rfl) (fun K hK => ?_); (simp only [pickOps, List.getElem?_toArray, List.getElem?_cons_zero, List.getElem?_cons_succ, Option.toList_some, List.cons_append, List.nil_append]); (repeat (first | go_big_quiet_step (fail) | quiet_step (fail))); refine wpQuiet_nil (hK _ ?_); clear hK K
    (refine Eg.read Ext.pre (by intro c a d v w h; cases d <;> exact h) (by kernel_rfl) (i := 28) (n := 5) (l := [0, 1, 2, 3, 4, 5, 6, 7, 8, 9, 10, 11, 12, 13, 14, 16, 15, 17, 18, 19, 20, 21, 23, 22, 24, 25, 26, 27]) rfl (by kernel_rfl) (by kernel_rfl) rfl ⟨_, fun w' hR => load_run rfl (load_pg (HQ4.out.ext (hE47.trans hR)).blk HQL.out), ?_⟩); (simp only [Act.put, List.setIfInBounds_toArray, List.getElem_toArray, List.getElem_cons_succ, List.getElem_cons_zero, List.set_cons_succ, List.set_cons_zero])
    (refine Eg.read Ext.pre (by intro c a d v w h; cases d <;> exact h) (by kernel_rfl) (i := 30) (n := 4) (l := [0, 1, 2, 3, 4, 5, 6, 7, 8, 9, 10, 11, 12, 13, 14, 16, 15, 17, 18, 19, 20, 21, 23, 22, 24, 25, 26, 27, 28]) rfl (by kernel_rfl) (by kernel_rfl) rfl ⟨_, fun w' hR => load_run rfl (load_pg (HP4.out.ext (hE47.trans hR)).blk HP4.out.len), ?_⟩); (simp only [Act.put, List.setIfInBounds_toArray, List.getElem_toArray, List.getElem_cons_succ, List.getElem_cons_zero, List.set_cons_succ, List.set_cons_zero])
    refine Eg.act Ext.pre (i := 29) (n := 3) (l := [0, 1, 2, 3, 4, 5, 6, 7, 8, 9, 10, 11, 12, 13, 14, 16, 15, 17, 18, 19, 20, 21, 23, 22, 24, 25, 26, 27, 28, 30]) rfl (by kernel_rfl) ?_
    go_wp2_with fail
    refine (HSb.out w7).mono ?_
    rintro e w8 ⟨rfl, hE8⟩
    go_wp2_with fail
    refine ⟨hE8, ?_⟩
    refine Eg.act Ext.pre (i := 31) (n := 2) (l := [0, 1, 2, 3, 4, 5, 6, 7, 8, 9, 10, 11, 12, 13, 14, 16, 15, 17, 18, 19, 20, 21, 23, 22, 24, 25, 26, 27, 28, 30, 29]) rfl (by kernel_rfl) ?_
    go_wp2_with fail
    refine (HSa.out w8).mono ?_
    rintro e w9 ⟨rfl, hE9⟩
    go_wp2_with fail
    refine ⟨hE9, ?_⟩
    refine Eg.batchK Ext.pre (by intro c a d v w h; cases d <;> exact h) (by kernel_rfl) (n := 0) [32, 33] [0, 1, 2, 3, 4, 5, 6, 7, 8, 9, 10, 11, 12, 13, 14, 16, 15, 17, 18, 19, 20, 21, 23, 22, 24, 25, 26, 27, 28, 30, 29, 31] _ (by kernel_rfl) (fun K hK => ?_); (simp only [pickOps, List.getElem?_toArray, List.getElem?_cons_zero, List.getElem?_cons_succ, Option.toList_some, List.cons_append, List.nil_append]); (repeat (first | go_big_quiet_step (fail) | quiet_step (fail))); refine wpQuiet_nil (hK _ ?_); clear hK K
    refine Eg.finish (by kernel_rfl) ?_
    have HP9 := Lib.hid (HP4.out.ext ((hE47.trans hE8).trans hE9))
    have HQ9 := Lib.hid (HQ4.out.ext ((hE47.trans hE8).trans hE9))
    have HE9 := Lib.hid (HE4.out.trans ((hE47.trans hE8).trans hE9))
    clear hE5 hE6 hE7 hE8 hE9 hE47 HP4 HQ4 HE4 HSTa HSTb hslA hslB HTL HO4 hgd hQQ HKa HKb HR2 HSb
    go_wp2_with fail
    clear KRt HTa HTb
    go_loopw [7] (fun i wr => ∃ j : Nat, j ≤ m + 2 ∧ i = .int .i64 ((j : Int) - 1) ∧ Pg wr w.heap.size P ∧ Pg wr gq Q ∧ Ext w wr) (fun i _ => m + 2 - (intOf i + 1).toNat)
    case atStart => exact ⟨0, by omega, rfl, HP9.out, HQ9.out, HE9.out⟩
    case round =>
      obtain ⟨j, hj, rfl, hP, hQ, hE⟩ := hrel
      have HP := Lib.hid hP
      have HQ := Lib.hid hQ
      have HE := Lib.hid hE
      have hlp := load_pg hP.blk hP.len
      clear HP9 HQ9 HE9 hP hQ hE
      by_cases hlt : j ≤ m + 1
      · have hjd : decide ((j : Int) - 1 ≤ (m : Int)) = true := by simp; omega
        go_wp2_with (refine wpList_load_g rfl 23 _ rfl _ rfl _ hlp ?_)
        refine (HSa.out wr).mono ?_
        rintro e u1 ⟨rfl, hE1⟩
        have HP1 := Lib.hid (HP.out.ext hE1)
        have HQ1 := Lib.hid (HQ.out.ext hE1)
        have HE1 := Lib.hid (HE.out.trans hE1)
        have hlp1 := load_pg HP1.out.blk HP1.out.len
        have K1 := Lib.hid (HIa.out u1 ((j : Int) - 1) (by omega) (by omega))
        clear HP HQ HE hE1 hlp
        go_wp2_with (refine wpList_load_g rfl 23 _ rfl _ rfl _ hlp1 ?_)
        refine K1.out.mono ?_
        rintro e u2 ⟨v1, rfl, hO1, hE2⟩
        obtain ⟨A1, c1, rfl, hby1, _, _⟩ := hO1.form
        have HQ2 := Lib.hid (HQ1.out.ext hE2)
        have HP2 := Lib.hid (HP1.out.ext hE2)
        have HE2 := Lib.hid (HE1.out.trans hE2)
        have HY1 := Lib.hid hby1
        have hlq2 := load_pg HQ2.out.blk HQL.out
        have K2 := Lib.hid (HIb.out u2 ((j : Int) - 1) (by omega) (by omega))
        clear HP1 HQ1 HE1 hE2 hlp1 K1 hO1 hby1
        go_wp2_with (refine wpList_load_g rfl 23 _ rfl _ rfl _ hlq2 ?_)
        refine K2.out.mono ?_
        rintro e u3 ⟨v2, rfl, hO2, hE3⟩
        obtain ⟨A2, c2, rfl, hby2, _, _⟩ := hO2.form
        have HQ3 := Lib.hid (HQ2.out.ext hE3)
        have HP3 := Lib.hid (HP2.out.ext hE3)
        have HE3 := Lib.hid (HE2.out.trans hE3)
        have s1 := str_any (HY1.out.ext hE3) c1
        have s2 := str_any hby2 c2
        generalize itemB P ((j : Int) - 1) = L at *
        generalize itemE P ((j : Int) - 1) = en at *
        clear HP2 HQ2 HE2 hE3 hlq2 K2 hO2 hby2 HY1 hjd
        go_wp2_with (go_at_call 13; refine (num5_any _ _).mono ?_; rintro e w' ⟨rfl, rfl⟩)
        exact ⟨⟨j + 1, by omega, by go_num, HP3.out, HQ3.out, HE3.out⟩, by simp [intOf]; omega⟩
      · have hjd : decide ((j : Int) - 1 ≤ (m : Int)) = false := by simp; omega
        go_wp2_with (refine wpList_load_g rfl 23 _ rfl _ rfl _ hlp ?_)
        refine (HSa.out wr).mono ?_
        rintro e u1 ⟨rfl, hE1⟩
        go_wp2_with fail
        refine (known5_any u1).mono ?_
        rintro e u2 ⟨rfl, hE2⟩
        go_wp2_with fail
        go_ret
        exact ⟨rfl, (HE.out.trans hE1).trans hE2⟩

end Go.Proofs.Ytgbfeagoadlhmaa
