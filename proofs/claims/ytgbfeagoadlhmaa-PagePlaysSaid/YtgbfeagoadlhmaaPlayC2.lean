
/-
  Contract of ref05.List.
-/
import Derived.Test.YtgbfeagoadlhmaaPlayA
set_option linter.unusedVariables false
set_option linter.unusedSimpArgs false
namespace Go.Proofs.Ytgbfeagoadlhmaa
open Go.RowKit Pl

attribute [local go_sem] Oper.semAt_some

theorem Try.slSize (x y : Value) : (Try.prog.info? 128).map (·.size) = some (#[x, y] : Array Value).size := by
  obtain ⟨i0, hi, hz0, hz1, hz2⟩ := info_parts Try.infoSl
  rw [hi]
  simp [hz1]
theorem sl_one (x y : Int) : (#[Value.int .i64 x, Value.int .i64 y] : Array Value).all (·.oneCell') = true := by simp [Value.oneCell']
theorem cell2 {w : World} {g : Nat} {t : TypeId} {x y : Value} (h : Blk w g t #[x, y]) : w.cell? ⟨g, 0, none⟩ = some x ∧ w.cell? ⟨g, 1, none⟩ = some y := ⟨by rw [h.cell]; rfl, by rw [h.cell]; rfl⟩
theorem load_ni {w : World} {p : Addr} {n : Int} (h : w.cell? p = some (.int .i64 n)) : (Instr.loadAt 3 (.pointer (some p))).run Try.prog w = .ok (.int .i64 n) w := by
  simp [go_sem, h]
/-- what ref05.List tells -/
def ListPost (P : List UInt8) (w : World) (e : Ending) (w' : World) : Prop :=
  ∃ A c, e = .returned (.tuple #[.slice A (slotsN P) c, .bool (rightB P)]) ∧ SlX w' A P (slotsN P) ∧ Ext w w'
theorem list_no {P : List UInt8} {w w' : World} (h : rightB P = false) (hE : Ext w w') : ListPost P w (.returned (.tuple #[.slice none 0 0, .bool false])) w' := by
  have h0 : slotsN P = 0 := by unfold slotsN; rw [h]; rfl
  exact ⟨none, 0, by rw [h0, h], .inl h0, hE⟩
theorem list_yes {P : List UInt8} {w w' : World} (h : rightB P = true) {v : Value} {B : Nat} (hr : w'.ownsRow B 128 2 v (num2 P 14) (slV P (num2 P 14))) (hE : Ext w w') : ListPost P w (.returned (.tuple #[v, .bool true])) w' := by
  have h0 : slotsN P = num2 P 14 := by unfold slotsN; rw [h]; rfl
  obtain ⟨A, c, rfl, hx⟩ := slots_row hr
  exact ⟨A, c, by rw [h0, h], by rw [h0]; exact hx, hE⟩

set_option maxHeartbeats 8000000 in
set_option maxRecDepth 100000 in
theorem List_ref (w : World) (P : List UInt8) (h : P.length = 1024) : Calls Try.prog 56 #[.agg (cells8 P)] w (ListPost P w) := by
  have HPL := Lib.hid h
  have HP := Lib.hid (Pg.new w P h)
  have HX := Lib.hid (ext_new w (.cells (cells8 P) 23))
  have KN := fun W a (ha : a + 2 ≤ 1024) => num_ref W P h a ha
  have KF := fun W => From_ref W P h
  have K14 := fun W => KN W 14 (by omega)
  simp only [show ((14 : Nat) : Int) = 14 from rfl] at K14
  have KN := Lib.hid KN
  have KF := Lib.hid KF
  have K14 := Lib.hid K14
  have HB : Hid (Blk (w.alloc (.cells (cells8 P) 23)) w.heap.size 23 (cells8 P)) := Lib.hid HP.out.blk
  have hn16 := num2_lt P 14
  have hf16 := num2_lt P 16
  have HHEAD := Lib.hid (fun hh => right_head (P := P) hh)
  have HBAD := Lib.hid (fun k hk hh => bad_slot (P := P) (k := k) hk hh)
  have HLAST := Lib.hid (fun k hk hh => bad_last (P := P) (k := k) hk hh)
  have HALL : Hid (18 + 4 * num2 P 14 ≤ num2 P 16 → num2 P 16 ≤ 1024 → (∀ k, k < num2 P 14 → OkV P k) → (num2 P 14 = 0 ∨ slotS P (num2 P 14 - 1) ≠ 0) → rightB P = true) := Lib.hid (fun h1 h2 h3 h4 => (right_iff P).2 ⟨h1, h2, h3, h4⟩)
  have HYES := Lib.hid (fun w' (hr : rightB P = true) v => list_yes (w := w) (w' := w') hr (v := v) (B := w.heap.size + 1))
  have HNO := Lib.hid (fun w' (hr : rightB P = false) => list_no (w := w) (w' := w') hr)
  clear h
  generalize num2 P 14 = n at *
  generalize hfr : num2 P 16 = fr at *
  have HFR := Lib.hid hfr
  clear hfr
  go_enter Try.func56, Try.ntmps56
  go_wp2_with (refine wpList_load_row rfl 23 _ rfl _ rfl _ _ _ _ HP.out.blk Try.pgUnd rfl (pgSize HPL.out) ?_)
  refine (K14.out _).mono ?_
  rintro e w1 ⟨rfl, hE1⟩
  have HP1 := Lib.hid (HP.out.ext hE1)
  have HE1 := Lib.hid (HX.out.trans hE1)
  clear hE1 HB
  go_wp2_with (refine wpList_load_row rfl 23 _ rfl _ rfl _ _ _ _ HP1.out.blk Try.pgUnd rfl (pgSize HPL.out) ?_)
  refine (KF.out _).mono ?_
  rintro e w2 ⟨rfl, hE2⟩
  have HP2 := Lib.hid (HP1.out.ext hE2)
  have HE2 := Lib.hid (HE1.out.trans hE2)
  clear hE2
  by_cases h1 : fr < 18 + 4 * n
  · have d1 : decide ((fr : Int) < 18 + 4 * (n : Int)) = true := decide_eq_true (by omega)
    have hr := HHEAD.out (.inl h1)
    go_wp2_with fail
    go_ret2
    exact HNO.out w2 hr HE2.out
  · have d1 : decide ((fr : Int) < 18 + 4 * (n : Int)) = false := decide_eq_false (by omega)
    have hl2 := load_pg HP2.out.blk HPL.out
    go_wp2_with (refine wpList_load_g rfl 23 _ rfl _ rfl _ hl2 ?_)
    refine (KF.out _).mono ?_
    rintro e w3 ⟨rfl, hE3⟩
    have HP3 := Lib.hid (HP2.out.ext hE3)
    have HE3 := Lib.hid (HE2.out.trans hE3)
    clear hE3 hl2
    by_cases h2 : 1024 < fr
    · have d2 : decide ((1024 : Int) < (fr : Int)) = true := decide_eq_true (by omega)
      have hr := HHEAD.out (.inr h2)
      go_wp2_with fail
      go_ret2
      exact HNO.out w3 hr HE3.out
    · have d2 : decide ((1024 : Int) < (fr : Int)) = false := decide_eq_false (by omega)
      have hzs : ∀ W, (zeroValue 128).run Try.prog W = .ok (.agg #[.int .i64 0, .int .i64 0]) W := fun W => by kernel_rfl
      obtain ⟨i0, hi, hz0, hz1, hz2⟩ := info_parts Try.infoSl
      clear HP HP1 HP2 HE1 HE2 HX K14 HHEAD
      go_wp2_with fail
      go_loopw [5, 6] (fun v i wr => ∃ k : Nat, k ≤ n ∧ i = .int .i64 (k : Int) ∧ wr.ownsRow (w.heap.size + 1) 128 2 v k (slV P k) ∧ (∀ j, j < k → OkV P j) ∧ (0 < k → k = n → slotS P (k - 1) ≠ 0) ∧ Pg wr w.heap.size P ∧ Ext w wr) (fun _ i _ => n - (intOf i).toNat)
      case atStart => exact ⟨0, Nat.zero_le _, rfl, World.ownsRow_nil _ _ _ _, fun j hj => by omega, fun h => by omega, HP3.out, HE3.out⟩
      case round =>
        obtain ⟨k, hk, rfl, hrow, hall, hlast, hP, hE⟩ := hrel
        obtain ⟨wo, rfl⟩ : ∃ wo, wo = wr := ⟨_, rfl⟩
        have HR := Lib.hid hrow
        have HA := Lib.hid hall
        have HL := Lib.hid hlast
        have HPk := Lib.hid hP
        have HEk := Lib.hid hE
        clear hrow hall hlast hP hE HP3 HE3
        by_cases hkn : k < n
        · have hd : decide ((k : Int) < (n : Int)) = true := decide_eq_true (by omega)
          have KA := fun W => KN.out W (18 + 4 * k) (by omega)
          have KS := fun W => KN.out W (18 + 4 * k + 2) (by omega)
          simp only [show ((18 + 4 * k : Nat) : Int) = 18 + 4 * (k : Int) by omega, show ((18 + 4 * k + 2 : Nat) : Int) = 18 + 4 * (k : Int) + 2 by omega, show num2 P (18 + 4 * k) = slotA P k from rfl, show num2 P (18 + 4 * k + 2) = slotS P k from rfl] at KA KS
          have ha16 := slotA_lt P k
          have hs16 := slotS_lt P k
          obtain ⟨a, hae⟩ : ∃ a, slotA P k = a := ⟨_, rfl⟩
          obtain ⟨s, hse⟩ : ∃ s, slotS P k = s := ⟨_, rfl⟩
          have HAE := Lib.hid hae
          have HSE := Lib.hid hse
          rw [hae] at KA ha16
          rw [hse] at KS hs16
          have KA := Lib.hid KA
          have KS := Lib.hid KS
          clear hae hse
          go_upto_region 8 with fail
          go_cut [7] from 28 to 131 (fun s7 wx => ∃ bs, s7 = .pointer (some ⟨bs, 0, none⟩) ∧ Blk wx bs 128 #[.int .i64 (a : Int), .int .i64 (s : Int)] ∧ wo.heap.size ≤ bs ∧ Ext wo wx)
          case first =>
            have HX := Ext.refl wo.drew
            refine wp_eager (rs_pre 128 wo.drew.heap.size) (n := 14) (by kernel_rfl) (by kernel_rfl) ?_
            refine Eg.batchK (rs_pre 128 wo.drew.heap.size) (by intro c a d v w h; cases d <;> exact h) (by kernel_rfl) (n := 7) [1, 2, 3, 6, 7, 8, 9] [] _ (by kernel_rfl) (fun K hK => ?_); (simp only [pickOps, List.getElem?_toArray, List.getElem?_cons_zero, List.getElem?_cons_succ, Option.toList_some, List.cons_append, List.nil_append]); (repeat (first | go_big_quiet_step (fail) | quiet_step (fail))); refine wpQuiet_nil (hK _ ?_); clear hK K
            (refine Eg.read (rs_pre 128 wo.drew.heap.size) (by intro c a d v w h; cases d <;> exact h) (by kernel_rfl) (i := 0) (n := 6) (l := [1, 2, 3, 6, 7, 8, 9]) rfl (by kernel_rfl) (by kernel_rfl) rfl ⟨_, fun w' hR => load_run rfl (load_pg (HPk.out.blk.ext ((Ext.refl wo).drew.trans hR.1)) HPL.out), ?_⟩); (simp only [Act.put, List.setIfInBounds_toArray, List.getElem_toArray, List.getElem_cons_succ, List.getElem_cons_zero, List.set_cons_succ, List.set_cons_zero])
            (refine Eg.read (rs_pre 128 wo.drew.heap.size) (by intro c a d v w h; cases d <;> exact h) (by kernel_rfl) (i := 5) (n := 5) (l := [1, 2, 3, 6, 7, 8, 9, 0]) rfl (by kernel_rfl) (by kernel_rfl) rfl ⟨_, fun w' hR => load_run rfl (load_pg (HPk.out.blk.ext ((Ext.refl wo).drew.trans hR.1)) HPL.out), ?_⟩); (simp only [Act.put, List.setIfInBounds_toArray, List.getElem_toArray, List.getElem_cons_succ, List.getElem_cons_zero, List.set_cons_succ, List.set_cons_zero])
            refine Eg.two ((rs_pre 128 wo.drew.heap.size)) (i := 4) (j := 12) (n := 4) (l := [1, 2, 3, 6, 7, 8, 9, 0, 5]) rfl rfl (by kernel_rfl) ?_ ?_
            · go_wp2_with fail
              refine (KA.out _).mono ?_
              rintro e w9 ⟨rfl, hEc⟩
              go_wp2_with fail
              refine ⟨Rs.of_ext hEc HX.size, ?_⟩
              replace HX := HX.trans hEc
              try replace hBq := hBq.ext hEc
              refine Eg.two ((rs_pre 128 wo.drew.heap.size)) (i := 10) (j := 12) (n := 3) (l := [1, 2, 3, 6, 7, 8, 9, 0, 5, 4]) rfl rfl (by kernel_rfl) ?_ ?_
              · go_wp2_with fail
                refine (KS.out _).mono ?_
                rintro e w10 ⟨rfl, hEc⟩
                go_wp2_with fail
                refine ⟨Rs.of_ext hEc HX.size, ?_⟩
                replace HX := HX.trans hEc
                try replace hBq := hBq.ext hEc
                refine Eg.batchK (rs_pre 128 wo.drew.heap.size) (by intro c a d v w h; cases d <;> exact h) (by kernel_rfl) (n := 2) [11] [1, 2, 3, 6, 7, 8, 9, 0, 5, 4, 10] _ (by kernel_rfl) (fun K hK => ?_); (simp only [pickOps, List.getElem?_toArray, List.getElem?_cons_zero, List.getElem?_cons_succ, Option.toList_some, List.cons_append, List.nil_append]); (repeat (first | go_big_quiet_step (fail) | quiet_step (fail))); refine wpQuiet_nil (hK _ ?_); clear hK K
                refine Eg.act (rs_pre 128 wo.drew.heap.size) (i := 12) (n := 1) (l := [1, 2, 3, 6, 7, 8, 9, 0, 5, 4, 10, 11]) rfl (by kernel_rfl) ?_
                go_wp2_with fail
                generalize hwn : World.alloc _ (.cells #[.int .i64 0, .int .i64 0] 128) = wn
                obtain ⟨hBq, hEn⟩ := alloc_facts hwn
                have hgq := HX.size
                first | (refine ⟨Rs.of_ext hEn hgq, ?_⟩) | (replace hEn := ext_drew2 hEn; replace hBq := Blk.drew hBq; refine ⟨Rs.of_ext hEn hgq, ?_⟩)
                replace HX := HX.trans hEn
                clear hwn
                refine Eg.act (rs_pre 128 wo.drew.heap.size) (i := 13) (n := 0) (l := [1, 2, 3, 6, 7, 8, 9, 0, 5, 4, 10, 11, 12]) rfl (by kernel_rfl) ?_
                go_wp2_with (refine wpList_store_row rfl 128 _ _ rfl _ _ rfl rfl _ _ hBq (Try.slSize _ _) rfl (sl_one _ _) ?_)
                refine ⟨Rs.setRow hgq hBq _ rfl, ?_⟩
                refine Eg.finish (by kernel_rfl) ?_
                go_wp2_with fail
                go_meet
                exact ⟨_, rfl, hBq.row _, hgq, ((Ext.refl wo).drew.trans HX).setRow hgq _⟩
              · go_wp2_with fail
                generalize hwn : World.alloc _ (.cells #[.int .i64 0, .int .i64 0] 128) = wn
                obtain ⟨hBq, hEn⟩ := alloc_facts hwn
                have hgq := HX.size
                first | (refine ⟨Rs.of_ext hEn hgq, ?_⟩) | (replace hEn := ext_drew2 hEn; replace hBq := Blk.drew hBq; refine ⟨Rs.of_ext hEn hgq, ?_⟩)
                replace HX := HX.trans hEn
                clear hwn
                refine Eg.act (rs_pre 128 wo.drew.heap.size) (i := 10) (n := 2) (l := [1, 2, 3, 6, 7, 8, 9, 0, 5, 4, 12]) rfl (by kernel_rfl) ?_
                go_wp2_with fail
                refine (KS.out _).mono ?_
                rintro e w10 ⟨rfl, hEc⟩
                go_wp2_with fail
                refine ⟨Rs.of_ext hEc HX.size, ?_⟩
                replace HX := HX.trans hEc
                try replace hBq := hBq.ext hEc
                refine Eg.batchK (rs_pre 128 wo.drew.heap.size) (by intro c a d v w h; cases d <;> exact h) (by kernel_rfl) (n := 1) [11] [1, 2, 3, 6, 7, 8, 9, 0, 5, 4, 12, 10] _ (by kernel_rfl) (fun K hK => ?_); (simp only [pickOps, List.getElem?_toArray, List.getElem?_cons_zero, List.getElem?_cons_succ, Option.toList_some, List.cons_append, List.nil_append]); (repeat (first | go_big_quiet_step (fail) | quiet_step (fail))); refine wpQuiet_nil (hK _ ?_); clear hK K
                refine Eg.act (rs_pre 128 wo.drew.heap.size) (i := 13) (n := 0) (l := [1, 2, 3, 6, 7, 8, 9, 0, 5, 4, 12, 10, 11]) rfl (by kernel_rfl) ?_
                go_wp2_with (refine wpList_store_row rfl 128 _ _ rfl _ _ rfl rfl _ _ hBq (Try.slSize _ _) rfl (sl_one _ _) ?_)
                refine ⟨Rs.setRow hgq hBq _ rfl, ?_⟩
                refine Eg.finish (by kernel_rfl) ?_
                go_wp2_with fail
                go_meet
                exact ⟨_, rfl, hBq.row _, hgq, ((Ext.refl wo).drew.trans HX).setRow hgq _⟩
            · go_wp2_with fail
              generalize hwn : World.alloc _ (.cells #[.int .i64 0, .int .i64 0] 128) = wn
              obtain ⟨hBq, hEn⟩ := alloc_facts hwn
              have hgq := HX.size
              first | (refine ⟨Rs.of_ext hEn hgq, ?_⟩) | (replace hEn := ext_drew2 hEn; replace hBq := Blk.drew hBq; refine ⟨Rs.of_ext hEn hgq, ?_⟩)
              replace HX := HX.trans hEn
              clear hwn
              refine Eg.act (rs_pre 128 wo.drew.heap.size) (i := 4) (n := 3) (l := [1, 2, 3, 6, 7, 8, 9, 0, 5, 12]) rfl (by kernel_rfl) ?_
              go_wp2_with fail
              refine (KA.out _).mono ?_
              rintro e w9 ⟨rfl, hEc⟩
              go_wp2_with fail
              refine ⟨Rs.of_ext hEc HX.size, ?_⟩
              replace HX := HX.trans hEc
              try replace hBq := hBq.ext hEc
              refine Eg.act (rs_pre 128 wo.drew.heap.size) (i := 10) (n := 2) (l := [1, 2, 3, 6, 7, 8, 9, 0, 5, 12, 4]) rfl (by kernel_rfl) ?_
              go_wp2_with fail
              refine (KS.out _).mono ?_
              rintro e w10 ⟨rfl, hEc⟩
              go_wp2_with fail
              refine ⟨Rs.of_ext hEc HX.size, ?_⟩
              replace HX := HX.trans hEc
              try replace hBq := hBq.ext hEc
              refine Eg.batchK (rs_pre 128 wo.drew.heap.size) (by intro c a d v w h; cases d <;> exact h) (by kernel_rfl) (n := 1) [11] [1, 2, 3, 6, 7, 8, 9, 0, 5, 12, 4, 10] _ (by kernel_rfl) (fun K hK => ?_); (simp only [pickOps, List.getElem?_toArray, List.getElem?_cons_zero, List.getElem?_cons_succ, Option.toList_some, List.cons_append, List.nil_append]); (repeat (first | go_big_quiet_step (fail) | quiet_step (fail))); refine wpQuiet_nil (hK _ ?_); clear hK K
              refine Eg.act (rs_pre 128 wo.drew.heap.size) (i := 13) (n := 0) (l := [1, 2, 3, 6, 7, 8, 9, 0, 5, 12, 4, 10, 11]) rfl (by kernel_rfl) ?_
              go_wp2_with (refine wpList_store_row rfl 128 _ _ rfl _ _ rfl rfl _ _ hBq (Try.slSize _ _) rfl (sl_one _ _) ?_)
              refine ⟨Rs.setRow hgq hBq _ rfl, ?_⟩
              refine Eg.finish (by kernel_rfl) ?_
              go_wp2_with fail
              go_meet
              exact ⟨_, rfl, hBq.row _, hgq, ((Ext.refl wo).drew.trans HX).setRow hgq _⟩
          case rest =>
          obtain ⟨bs, rfl, hBs, hbs, hEx⟩ := hcut
          obtain ⟨w4, rfl⟩ : ∃ w4 : World, w4 = wc := ⟨_, rfl⟩
          have HBs := Lib.hid hBs
          have HP4 := Lib.hid (HPk.out.ext hEx)
          have HE4 := Lib.hid (HEk.out.trans hEx)
          have HR4 : Hid (w4.ownsRow (w.heap.size + 1) 128 2 u5 k (slV P k)) := Lib.hid (World.ownsRow.kept HR.out (ext_grown hEx none) (by cases u5.ownBlock <;> simp))
          have HLT4 := Lib.hid (World.ownsRow.lt HR.out)
          have HPw := Lib.hid HPk.out.blk.lt
          have HBSZ := Lib.hid hbs
          obtain ⟨x0, x1⟩ := cell2 hBs
          clear hBs hbs hEx HPk HEk HR KA KS
          obtain ⟨A5, c5, rfl, hx5⟩ := slots_row HR4.out
          have HX5 := Lib.hid hx5
          clear hx5
          by_cases hE0 : a = 0 ∧ s = 0
          · obtain ⟨rfl, rfl⟩ := hE0
            have e9a : (((0 : Nat) : Int) == 0) = true := rfl
            by_cases hl : k + 1 = n
            · have e10 : ((k : Int) == (n : Int) - 1) = true := by rw [beq_iff_eq]; omega
              have hr := HLAST.out k hl HSE.out
              go_upto_region 10 with fail
              have HX : Ext w4 w4.drew := (Ext.refl w4).drew
              refine wp_eager Ext.pre (n := 36) (by kernel_rfl) (by kernel_rfl) ?_
              refine Eg.batchK Ext.pre (by intro c a d v w h; cases d <;> exact h) (by kernel_rfl) (n := 24) [0, 1, 2, 3, 4, 5, 6, 7, 8, 9, 10, 11] [] _ (by kernel_rfl) (fun K hK => ?_); (simp only [pickOps, List.getElem?_toArray, List.getElem?_cons_zero, List.getElem?_cons_succ, Option.toList_some, List.cons_append, List.nil_append]); (repeat (first | go_big_quiet_step (fail) | quiet_step (fail))); refine wpQuiet_nil (hK _ ?_); clear hK K
              (refine Eg.skip Ext.pre (by intro c a d v w h; cases d <;> exact h) (by kernel_rfl) (i := 12) (n := 23) (l := [0, 1, 2, 3, 4, 5, 6, 7, 8, 9, 10, 11]) rfl (by kernel_rfl) (by kernel_rfl) rfl ?_); (simp only [Act.put, List.setIfInBounds_toArray, List.getElem_toArray, List.getElem_cons_succ, List.getElem_cons_zero, List.set_cons_succ, List.set_cons_zero])
              refine Eg.batchK Ext.pre (by intro c a d v w h; cases d <;> exact h) (by kernel_rfl) (n := 20) [13, 14, 15] [0, 1, 2, 3, 4, 5, 6, 7, 8, 9, 10, 11, 12] _ (by kernel_rfl) (fun K hK => ?_); (simp only [pickOps, List.getElem?_toArray, List.getElem?_cons_zero, List.getElem?_cons_succ, Option.toList_some, List.cons_append, List.nil_append]); (repeat (first | go_big_quiet_step (fail) | quiet_step (fail))); refine wpQuiet_nil (hK _ ?_); clear hK K
              (refine Eg.skip Ext.pre (by intro c a d v w h; cases d <;> exact h) (by kernel_rfl) (i := 16) (n := 19) (l := [0, 1, 2, 3, 4, 5, 6, 7, 8, 9, 10, 11, 12, 13, 14, 15]) rfl (by kernel_rfl) (by kernel_rfl) rfl ?_); (simp only [Act.put, List.setIfInBounds_toArray, List.getElem_toArray, List.getElem_cons_succ, List.getElem_cons_zero, List.set_cons_succ, List.set_cons_zero])
              refine Eg.batchK Ext.pre (by intro c a d v w h; cases d <;> exact h) (by kernel_rfl) (n := 15) [17, 18, 19, 20] [0, 1, 2, 3, 4, 5, 6, 7, 8, 9, 10, 11, 12, 13, 14, 15, 16] _ (by kernel_rfl) (fun K hK => ?_); (simp only [pickOps, List.getElem?_toArray, List.getElem?_cons_zero, List.getElem?_cons_succ, Option.toList_some, List.cons_append, List.nil_append]); (repeat (first | go_big_quiet_step (fail) | quiet_step (fail))); refine wpQuiet_nil (hK _ ?_); clear hK K
              (refine Eg.skip Ext.pre (by intro c a d v w h; cases d <;> exact h) (by kernel_rfl) (i := 21) (n := 14) (l := [0, 1, 2, 3, 4, 5, 6, 7, 8, 9, 10, 11, 12, 13, 14, 15, 16, 17, 18, 19, 20]) rfl (by kernel_rfl) (by kernel_rfl) rfl ?_); (simp only [Act.put, List.setIfInBounds_toArray, List.getElem_toArray, List.getElem_cons_succ, List.getElem_cons_zero, List.set_cons_succ, List.set_cons_zero])
              (refine Eg.skip Ext.pre (by intro c a d v w h; cases d <;> exact h) (by kernel_rfl) (i := 22) (n := 13) (l := [0, 1, 2, 3, 4, 5, 6, 7, 8, 9, 10, 11, 12, 13, 14, 15, 16, 17, 18, 19, 20, 21]) rfl (by kernel_rfl) (by kernel_rfl) rfl ?_); (simp only [Act.put, List.setIfInBounds_toArray, List.getElem_toArray, List.getElem_cons_succ, List.getElem_cons_zero, List.set_cons_succ, List.set_cons_zero])
              refine Eg.act Ext.pre (i := 23) (n := 12) (l := [0, 1, 2, 3, 4, 5, 6, 7, 8, 9, 10, 11, 12, 13, 14, 15, 16, 17, 18, 19, 20, 21, 22]) rfl (by kernel_rfl) ?_
              refine wpList_step (fun K hK => ?_)
              go_simp
              refine hK _ _ ?_
              clear hK K
              refine wpList_nil ?_
              refine ⟨Ext.pre.refl _, ?_⟩
              refine Eg.batchK Ext.pre (by intro c a d v w h; cases d <;> exact h) (by kernel_rfl) (n := 7) [24, 25, 26, 27, 29] [0, 1, 2, 3, 4, 5, 6, 7, 8, 9, 10, 11, 12, 13, 14, 15, 16, 17, 18, 19, 20, 21, 22, 23] _ (by kernel_rfl) (fun K hK => ?_); (simp only [pickOps, List.getElem?_toArray, List.getElem?_cons_zero, List.getElem?_cons_succ, Option.toList_some, List.cons_append, List.nil_append]); (repeat (first | go_big_quiet_step (fail) | quiet_step (fail))); refine wpQuiet_nil (hK _ ?_); clear hK K
              (refine Eg.skip Ext.pre (by intro c a d v w h; cases d <;> exact h) (by kernel_rfl) (i := 28) (n := 6) (l := [0, 1, 2, 3, 4, 5, 6, 7, 8, 9, 10, 11, 12, 13, 14, 15, 16, 17, 18, 19, 20, 21, 22, 23, 24, 25, 26, 27, 29]) rfl (by kernel_rfl) (by kernel_rfl) rfl ?_); (simp only [Act.put, List.setIfInBounds_toArray, List.getElem_toArray, List.getElem_cons_succ, List.getElem_cons_zero, List.set_cons_succ, List.set_cons_zero])
              (refine Eg.skip Ext.pre (by intro c a d v w h; cases d <;> exact h) (by kernel_rfl) (i := 30) (n := 5) (l := [0, 1, 2, 3, 4, 5, 6, 7, 8, 9, 10, 11, 12, 13, 14, 15, 16, 17, 18, 19, 20, 21, 22, 23, 24, 25, 26, 27, 29, 28]) rfl (by kernel_rfl) (by kernel_rfl) rfl ?_); (simp only [Act.put, List.setIfInBounds_toArray, List.getElem_toArray, List.getElem_cons_succ, List.getElem_cons_zero, List.set_cons_succ, List.set_cons_zero])
              refine Eg.batchK Ext.pre (by intro c a d v w h; cases d <;> exact h) (by kernel_rfl) (n := 0) [31, 32, 33, 34, 35] [0, 1, 2, 3, 4, 5, 6, 7, 8, 9, 10, 11, 12, 13, 14, 15, 16, 17, 18, 19, 20, 21, 22, 23, 24, 25, 26, 27, 29, 28, 30] _ (by kernel_rfl) (fun K hK => ?_); (simp only [pickOps, List.getElem?_toArray, List.getElem?_cons_zero, List.getElem?_cons_succ, Option.toList_some, List.cons_append, List.nil_append]); (repeat (first | go_big_quiet_step (fail) | quiet_step (fail))); refine wpQuiet_nil (hK _ ?_); clear hK K
              refine Eg.finish (by kernel_rfl) ?_
              go_wp2_with fail
              go_ret2
              exact HNO.out _ hr (HE4.out.trans HX)
            · have e10 : ((k : Int) == (n : Int) - 1) = false := by rw [beq_eq_false_iff_ne]; omega
              have HOKk : Hid (∀ j, j < k + 1 → OkV P j) := Lib.hid (fun j hj => by
                by_cases e : j = k
                · subst e; exact .inl ⟨HAE.out, HSE.out⟩
                · exact HA.out j (by omega))
              go_upto_region 10 with fail
              have HX : Ext w4 w4.drew := (Ext.refl w4).drew
              refine wp_eager Ext.pre (n := 36) (by kernel_rfl) (by kernel_rfl) ?_
              refine Eg.batchK Ext.pre (by intro c a d v w h; cases d <;> exact h) (by kernel_rfl) (n := 24) [0, 1, 2, 3, 4, 5, 6, 7, 8, 9, 10, 11] [] _ (by kernel_rfl) (fun K hK => ?_); (simp only [pickOps, List.getElem?_toArray, List.getElem?_cons_zero, List.getElem?_cons_succ, Option.toList_some, List.cons_append, List.nil_append]); (repeat (first | go_big_quiet_step (fail) | quiet_step (fail))); refine wpQuiet_nil (hK _ ?_); clear hK K
              (refine Eg.skip Ext.pre (by intro c a d v w h; cases d <;> exact h) (by kernel_rfl) (i := 12) (n := 23) (l := [0, 1, 2, 3, 4, 5, 6, 7, 8, 9, 10, 11]) rfl (by kernel_rfl) (by kernel_rfl) rfl ?_); (simp only [Act.put, List.setIfInBounds_toArray, List.getElem_toArray, List.getElem_cons_succ, List.getElem_cons_zero, List.set_cons_succ, List.set_cons_zero])
              refine Eg.batchK Ext.pre (by intro c a d v w h; cases d <;> exact h) (by kernel_rfl) (n := 20) [13, 14, 15] [0, 1, 2, 3, 4, 5, 6, 7, 8, 9, 10, 11, 12] _ (by kernel_rfl) (fun K hK => ?_); (simp only [pickOps, List.getElem?_toArray, List.getElem?_cons_zero, List.getElem?_cons_succ, Option.toList_some, List.cons_append, List.nil_append]); (repeat (first | go_big_quiet_step (fail) | quiet_step (fail))); refine wpQuiet_nil (hK _ ?_); clear hK K
              (refine Eg.skip Ext.pre (by intro c a d v w h; cases d <;> exact h) (by kernel_rfl) (i := 16) (n := 19) (l := [0, 1, 2, 3, 4, 5, 6, 7, 8, 9, 10, 11, 12, 13, 14, 15]) rfl (by kernel_rfl) (by kernel_rfl) rfl ?_); (simp only [Act.put, List.setIfInBounds_toArray, List.getElem_toArray, List.getElem_cons_succ, List.getElem_cons_zero, List.set_cons_succ, List.set_cons_zero])
              refine Eg.batchK Ext.pre (by intro c a d v w h; cases d <;> exact h) (by kernel_rfl) (n := 15) [17, 18, 19, 20] [0, 1, 2, 3, 4, 5, 6, 7, 8, 9, 10, 11, 12, 13, 14, 15, 16] _ (by kernel_rfl) (fun K hK => ?_); (simp only [pickOps, List.getElem?_toArray, List.getElem?_cons_zero, List.getElem?_cons_succ, Option.toList_some, List.cons_append, List.nil_append]); (repeat (first | go_big_quiet_step (fail) | quiet_step (fail))); refine wpQuiet_nil (hK _ ?_); clear hK K
              (refine Eg.skip Ext.pre (by intro c a d v w h; cases d <;> exact h) (by kernel_rfl) (i := 21) (n := 14) (l := [0, 1, 2, 3, 4, 5, 6, 7, 8, 9, 10, 11, 12, 13, 14, 15, 16, 17, 18, 19, 20]) rfl (by kernel_rfl) (by kernel_rfl) rfl ?_); (simp only [Act.put, List.setIfInBounds_toArray, List.getElem_toArray, List.getElem_cons_succ, List.getElem_cons_zero, List.set_cons_succ, List.set_cons_zero])
              (refine Eg.skip Ext.pre (by intro c a d v w h; cases d <;> exact h) (by kernel_rfl) (i := 22) (n := 13) (l := [0, 1, 2, 3, 4, 5, 6, 7, 8, 9, 10, 11, 12, 13, 14, 15, 16, 17, 18, 19, 20, 21]) rfl (by kernel_rfl) (by kernel_rfl) rfl ?_); (simp only [Act.put, List.setIfInBounds_toArray, List.getElem_toArray, List.getElem_cons_succ, List.getElem_cons_zero, List.set_cons_succ, List.set_cons_zero])
              refine Eg.act Ext.pre (i := 23) (n := 12) (l := [0, 1, 2, 3, 4, 5, 6, 7, 8, 9, 10, 11, 12, 13, 14, 15, 16, 17, 18, 19, 20, 21, 22]) rfl (by kernel_rfl) ?_
              refine wpList_step (fun K hK => ?_)
              go_simp
              refine hK _ _ ?_
              clear hK K
              refine wpList_nil ?_
              refine ⟨Ext.pre.refl _, ?_⟩
              refine Eg.batchK Ext.pre (by intro c a d v w h; cases d <;> exact h) (by kernel_rfl) (n := 7) [24, 25, 26, 27, 29] [0, 1, 2, 3, 4, 5, 6, 7, 8, 9, 10, 11, 12, 13, 14, 15, 16, 17, 18, 19, 20, 21, 22, 23] _ (by kernel_rfl) (fun K hK => ?_); (simp only [pickOps, List.getElem?_toArray, List.getElem?_cons_zero, List.getElem?_cons_succ, Option.toList_some, List.cons_append, List.nil_append]); (repeat (first | go_big_quiet_step (fail) | quiet_step (fail))); refine wpQuiet_nil (hK _ ?_); clear hK K
              (refine Eg.skip Ext.pre (by intro c a d v w h; cases d <;> exact h) (by kernel_rfl) (i := 28) (n := 6) (l := [0, 1, 2, 3, 4, 5, 6, 7, 8, 9, 10, 11, 12, 13, 14, 15, 16, 17, 18, 19, 20, 21, 22, 23, 24, 25, 26, 27, 29]) rfl (by kernel_rfl) (by kernel_rfl) rfl ?_); (simp only [Act.put, List.setIfInBounds_toArray, List.getElem_toArray, List.getElem_cons_succ, List.getElem_cons_zero, List.set_cons_succ, List.set_cons_zero])
              (refine Eg.skip Ext.pre (by intro c a d v w h; cases d <;> exact h) (by kernel_rfl) (i := 30) (n := 5) (l := [0, 1, 2, 3, 4, 5, 6, 7, 8, 9, 10, 11, 12, 13, 14, 15, 16, 17, 18, 19, 20, 21, 22, 23, 24, 25, 26, 27, 29, 28]) rfl (by kernel_rfl) (by kernel_rfl) rfl ?_); (simp only [Act.put, List.setIfInBounds_toArray, List.getElem_toArray, List.getElem_cons_succ, List.getElem_cons_zero, List.set_cons_succ, List.set_cons_zero])
              refine Eg.batchK Ext.pre (by intro c a d v w h; cases d <;> exact h) (by kernel_rfl) (n := 0) [31, 32, 33, 34, 35] [0, 1, 2, 3, 4, 5, 6, 7, 8, 9, 10, 11, 12, 13, 14, 15, 16, 17, 18, 19, 20, 21, 22, 23, 24, 25, 26, 27, 29, 28, 30] _ (by kernel_rfl) (fun K hK => ?_); (simp only [pickOps, List.getElem?_toArray, List.getElem?_cons_zero, List.getElem?_cons_succ, Option.toList_some, List.cons_append, List.nil_append]); (repeat (first | go_big_quiet_step (fail) | quiet_step (fail))); refine wpQuiet_nil (hK _ ?_); clear hK K
              refine Eg.finish (by kernel_rfl) ?_
              have HXm := Lib.hid HX
              clear HX
              go_wp2_with fail
              obtain ⟨wm, rfl⟩ : ∃ wm, wm = w4.drew := ⟨_, rfl⟩
              go_loopw [9] (fun i wx => i = .int .i64 0 ∧ Ext w4 wx) (fun _ _ => 0)
              case atStart => exact ⟨rfl, HXm.out⟩
              case round =>
                obtain ⟨rfl, hX⟩ := hrel
                have HXr := Lib.hid hX
                clear hX
                by_cases h0 : 0 < k
                · have d0 : decide (0 < k) = true := decide_eq_true h0
                  have d0' : decide ((0 : Int) < (k : Int)) = true := decide_eq_true (by omega)
                  have HBr := HBs.out.ext HXr.out
                  obtain ⟨z0, z1⟩ := cell2 HBr
                  have HRr := Lib.hid (World.ownsRow.kept HR4.out (ext_grown HXr.out none) (by cases (Value.slice A5 k c5).ownBlock <;> simp))
                  have HOW := Lib.hid (World.ownsRow.alloc HRr.out (.cells #[.int .i64 ((0 : Nat) : Int), .int .i64 ((0 : Nat) : Int)] 128))
                  have HNW := Lib.hid (blk_news2 (Blk.new wr 128 #[.int .i64 ((0 : Nat) : Int), .int .i64 ((0 : Nat) : Int)]))
                  have HEr := Lib.hid ((HE4.out.trans HXr.out).trans (ext_new wr (.cells #[.int .i64 ((0 : Nat) : Int), .int .i64 ((0 : Nat) : Int)] 128)))
                  have HPr := Lib.hid ((HP4.out.ext HXr.out).ext (ext_new wr (.cells #[.int .i64 ((0 : Nat) : Int), .int .i64 ((0 : Nat) : Int)] 128)))
                  have HLTr := Lib.hid (World.ownsRow.lt HRr.out)
                  have HSZ : Hid (w.heap.size + 1 ≤ (wr.alloc (.cells #[.int .i64 ((0 : Nat) : Int), .int .i64 ((0 : Nat) : Int)] 128)).heap.size) := Lib.hid HPr.out.blk.lt
                  have HSV : Hid (slV P (k + 1) = slV P k ++ [.int .i64 ((0 : Nat) : Int), .int .i64 ((0 : Nat) : Int)]) := Lib.hid (by show slV P k ++ _ = _; rw [HAE.out, HSE.out])
                  clear HBr
                  go_wp2_with (at_builtin; refine wpList_append_own_at _ rfl _ _ _ rfl (w.heap.size + 1) 128 i0 (.agg #[.int .i64 0, .int .i64 0]) 2 16 Try.underlying94 hi hz0 hz1 hz2 rfl (by omega) _ k (slV P k) rfl HOW.out ⟨wr.heap.size, 0, none⟩ 1 1 [.int .i64 ((0 : Nat) : Int), .int .i64 ((0 : Nat) : Int)] rfl rfl HNW.out (by intro u hu; simp at hu; rcases hu with rfl | rfl <;> rfl) (by unfold maxLen; omega) (by omega) HSZ.out ?_; intro vN wN hownN hGN hnilN hatN; have HOWN := Lib.hid hownN; have HGN := Lib.hid hGN; clear hownN hGN hnilN hatN)
                  refine ⟨⟨k + 1, by omega, by go_num, by rw [HSV.out]; exact HOWN.out, HOKk.out, fun _ e => absurd e hl, ⟨HPr.out.blk.grown HGN.out (fun e => by
                    have h1 := HLT4.out _ e.symm
                    have h2 := HPw.out
                    omega), HPL.out⟩, HEr.out.grown HGN.out (fun k e => Nat.le_of_succ_le (HLTr.out k e).1)⟩, by simp [intOf]; omega⟩
                · have d0 : decide (0 < k) = false := decide_eq_false h0
                  have d0' : decide ((0 : Int) < (k : Int)) = false := decide_eq_false (by omega)
                  have HBr := HBs.out.ext HXr.out
                  obtain ⟨z0, z1⟩ := cell2 HBr
                  have HRr := Lib.hid (World.ownsRow.kept HR4.out (ext_grown HXr.out none) (by cases (Value.slice A5 k c5).ownBlock <;> simp))
                  have HOW := Lib.hid (World.ownsRow.alloc HRr.out (.cells #[.int .i64 ((0 : Nat) : Int), .int .i64 ((0 : Nat) : Int)] 128))
                  have HNW := Lib.hid (blk_news2 (Blk.new wr 128 #[.int .i64 ((0 : Nat) : Int), .int .i64 ((0 : Nat) : Int)]))
                  have HEr := Lib.hid ((HE4.out.trans HXr.out).trans (ext_new wr (.cells #[.int .i64 ((0 : Nat) : Int), .int .i64 ((0 : Nat) : Int)] 128)))
                  have HPr := Lib.hid ((HP4.out.ext HXr.out).ext (ext_new wr (.cells #[.int .i64 ((0 : Nat) : Int), .int .i64 ((0 : Nat) : Int)] 128)))
                  have HLTr := Lib.hid (World.ownsRow.lt HRr.out)
                  have HSZ : Hid (w.heap.size + 1 ≤ (wr.alloc (.cells #[.int .i64 ((0 : Nat) : Int), .int .i64 ((0 : Nat) : Int)] 128)).heap.size) := Lib.hid HPr.out.blk.lt
                  have HSV : Hid (slV P (k + 1) = slV P k ++ [.int .i64 ((0 : Nat) : Int), .int .i64 ((0 : Nat) : Int)]) := Lib.hid (by show slV P k ++ _ = _; rw [HAE.out, HSE.out])
                  clear HBr
                  go_wp2_with (at_builtin; refine wpList_append_own_at _ rfl _ _ _ rfl (w.heap.size + 1) 128 i0 (.agg #[.int .i64 0, .int .i64 0]) 2 16 Try.underlying94 hi hz0 hz1 hz2 rfl (by omega) _ k (slV P k) rfl HOW.out ⟨wr.heap.size, 0, none⟩ 1 1 [.int .i64 ((0 : Nat) : Int), .int .i64 ((0 : Nat) : Int)] rfl rfl HNW.out (by intro u hu; simp at hu; rcases hu with rfl | rfl <;> rfl) (by unfold maxLen; omega) (by omega) HSZ.out ?_; intro vN wN hownN hGN hnilN hatN; have HOWN := Lib.hid hownN; have HGN := Lib.hid hGN; clear hownN hGN hnilN hatN)
                  refine ⟨⟨k + 1, by omega, by go_num, by rw [HSV.out]; exact HOWN.out, HOKk.out, fun _ e => absurd e hl, ⟨HPr.out.blk.grown HGN.out (fun e => by
                    have h1 := HLT4.out _ e.symm
                    have h2 := HPw.out
                    omega), HPL.out⟩, HEr.out.grown HGN.out (fun k e => Nat.le_of_succ_le (HLTr.out k e).1)⟩, by simp [intOf]; omega⟩
          · have hs9 : a ≠ 0 ∨ s ≠ 0 := by omega
            by_cases ha0 : a = 0
            · have e9a : ((a : Int) == 0) = true := by rw [beq_iff_eq]; omega
              have e9b : ((s : Int) == 0) = false := by rw [beq_eq_false_iff_ne]; omega
              have d3 : decide ((s : Int) < 1) = false := decide_eq_false (by omega)
              by_cases h4 : 1000 < s
              · have d4 : decide ((1000 : Int) < (s : Int)) = true := decide_eq_true (by omega)
                have hr := HBAD.out k hkn (fun h => by
                  rcases h with ⟨q1, q2⟩ | ⟨q1, q2, q3, q4, q5⟩
                  · exact hE0 ⟨HAE.out.symm.trans q1, HSE.out.symm.trans q2⟩
                  · rw [HSE.out] at q1 q2
                    rw [HAE.out, HFR.out] at q3
                    rw [HAE.out, HSE.out] at q4
                    omega)
                go_upto_region 10 with fail
                have HX : Ext w4 w4.drew := (Ext.refl w4).drew
                refine wp_eager Ext.pre (n := 36) (by kernel_rfl) (by kernel_rfl) ?_
                refine Eg.batchK Ext.pre (by intro c a d v w h; cases d <;> exact h) (by kernel_rfl) (n := 24) [0, 1, 2, 3, 4, 5, 6, 7, 8, 9, 10, 11] [] _ (by kernel_rfl) (fun K hK => ?_); (simp only [pickOps, List.getElem?_toArray, List.getElem?_cons_zero, List.getElem?_cons_succ, Option.toList_some, List.cons_append, List.nil_append]); (repeat (first | go_big_quiet_step (fail) | quiet_step (fail))); refine wpQuiet_nil (hK _ ?_); clear hK K
                (refine Eg.read Ext.pre (by intro c a d v w h; cases d <;> exact h) (by kernel_rfl) (i := 12) (n := 23) (l := [0, 1, 2, 3, 4, 5, 6, 7, 8, 9, 10, 11]) rfl (by kernel_rfl) (by kernel_rfl) rfl ⟨_, fun w' hR => load_run rfl (load_ni (hR.cell (HX.cell x1))), ?_⟩); (simp only [Act.put, List.setIfInBounds_toArray, List.getElem_toArray, List.getElem_cons_succ, List.getElem_cons_zero, List.set_cons_succ, List.set_cons_zero])
                refine Eg.batchK Ext.pre (by intro c a d v w h; cases d <;> exact h) (by kernel_rfl) (n := 20) [13, 14, 15] [0, 1, 2, 3, 4, 5, 6, 7, 8, 9, 10, 11, 12] _ (by kernel_rfl) (fun K hK => ?_); (simp only [pickOps, List.getElem?_toArray, List.getElem?_cons_zero, List.getElem?_cons_succ, Option.toList_some, List.cons_append, List.nil_append]); (repeat (first | go_big_quiet_step (fail) | quiet_step (fail))); refine wpQuiet_nil (hK _ ?_); clear hK K
                (refine Eg.read Ext.pre (by intro c a d v w h; cases d <;> exact h) (by kernel_rfl) (i := 16) (n := 19) (l := [0, 1, 2, 3, 4, 5, 6, 7, 8, 9, 10, 11, 12, 13, 14, 15]) rfl (by kernel_rfl) (by kernel_rfl) rfl ⟨_, fun w' hR => load_run rfl (load_ni (hR.cell (HX.cell x1))), ?_⟩); (simp only [Act.put, List.setIfInBounds_toArray, List.getElem_toArray, List.getElem_cons_succ, List.getElem_cons_zero, List.set_cons_succ, List.set_cons_zero])
                refine Eg.batchK Ext.pre (by intro c a d v w h; cases d <;> exact h) (by kernel_rfl) (n := 15) [17, 18, 19, 20] [0, 1, 2, 3, 4, 5, 6, 7, 8, 9, 10, 11, 12, 13, 14, 15, 16] _ (by kernel_rfl) (fun K hK => ?_); (simp only [pickOps, List.getElem?_toArray, List.getElem?_cons_zero, List.getElem?_cons_succ, Option.toList_some, List.cons_append, List.nil_append]); (repeat (first | go_big_quiet_step (fail) | quiet_step (fail))); refine wpQuiet_nil (hK _ ?_); clear hK K
                (refine Eg.skip Ext.pre (by intro c a d v w h; cases d <;> exact h) (by kernel_rfl) (i := 21) (n := 14) (l := [0, 1, 2, 3, 4, 5, 6, 7, 8, 9, 10, 11, 12, 13, 14, 15, 16, 17, 18, 19, 20]) rfl (by kernel_rfl) (by kernel_rfl) rfl ?_); (simp only [Act.put, List.setIfInBounds_toArray, List.getElem_toArray, List.getElem_cons_succ, List.getElem_cons_zero, List.set_cons_succ, List.set_cons_zero])
                (refine Eg.skip Ext.pre (by intro c a d v w h; cases d <;> exact h) (by kernel_rfl) (i := 22) (n := 13) (l := [0, 1, 2, 3, 4, 5, 6, 7, 8, 9, 10, 11, 12, 13, 14, 15, 16, 17, 18, 19, 20, 21]) rfl (by kernel_rfl) (by kernel_rfl) rfl ?_); (simp only [Act.put, List.setIfInBounds_toArray, List.getElem_toArray, List.getElem_cons_succ, List.getElem_cons_zero, List.set_cons_succ, List.set_cons_zero])
                refine Eg.act Ext.pre (i := 23) (n := 12) (l := [0, 1, 2, 3, 4, 5, 6, 7, 8, 9, 10, 11, 12, 13, 14, 15, 16, 17, 18, 19, 20, 21, 22]) rfl (by kernel_rfl) ?_
                refine wpList_step (fun K hK => ?_)
                go_simp
                refine hK _ _ ?_
                clear hK K
                refine wpList_nil ?_
                refine ⟨Ext.pre.refl _, ?_⟩
                refine Eg.batchK Ext.pre (by intro c a d v w h; cases d <;> exact h) (by kernel_rfl) (n := 7) [24, 25, 26, 27, 29] [0, 1, 2, 3, 4, 5, 6, 7, 8, 9, 10, 11, 12, 13, 14, 15, 16, 17, 18, 19, 20, 21, 22, 23] _ (by kernel_rfl) (fun K hK => ?_); (simp only [pickOps, List.getElem?_toArray, List.getElem?_cons_zero, List.getElem?_cons_succ, Option.toList_some, List.cons_append, List.nil_append]); (repeat (first | go_big_quiet_step (fail) | quiet_step (fail))); refine wpQuiet_nil (hK _ ?_); clear hK K
                (refine Eg.skip Ext.pre (by intro c a d v w h; cases d <;> exact h) (by kernel_rfl) (i := 28) (n := 6) (l := [0, 1, 2, 3, 4, 5, 6, 7, 8, 9, 10, 11, 12, 13, 14, 15, 16, 17, 18, 19, 20, 21, 22, 23, 24, 25, 26, 27, 29]) rfl (by kernel_rfl) (by kernel_rfl) rfl ?_); (simp only [Act.put, List.setIfInBounds_toArray, List.getElem_toArray, List.getElem_cons_succ, List.getElem_cons_zero, List.set_cons_succ, List.set_cons_zero])
                (refine Eg.skip Ext.pre (by intro c a d v w h; cases d <;> exact h) (by kernel_rfl) (i := 30) (n := 5) (l := [0, 1, 2, 3, 4, 5, 6, 7, 8, 9, 10, 11, 12, 13, 14, 15, 16, 17, 18, 19, 20, 21, 22, 23, 24, 25, 26, 27, 29, 28]) rfl (by kernel_rfl) (by kernel_rfl) rfl ?_); (simp only [Act.put, List.setIfInBounds_toArray, List.getElem_toArray, List.getElem_cons_succ, List.getElem_cons_zero, List.set_cons_succ, List.set_cons_zero])
                refine Eg.batchK Ext.pre (by intro c a d v w h; cases d <;> exact h) (by kernel_rfl) (n := 0) [31, 32, 33, 34, 35] [0, 1, 2, 3, 4, 5, 6, 7, 8, 9, 10, 11, 12, 13, 14, 15, 16, 17, 18, 19, 20, 21, 22, 23, 24, 25, 26, 27, 29, 28, 30] _ (by kernel_rfl) (fun K hK => ?_); (simp only [pickOps, List.getElem?_toArray, List.getElem?_cons_zero, List.getElem?_cons_succ, Option.toList_some, List.cons_append, List.nil_append]); (repeat (first | go_big_quiet_step (fail) | quiet_step (fail))); refine wpQuiet_nil (hK _ ?_); clear hK K
                refine Eg.finish (by kernel_rfl) ?_
                go_wp2_with fail
                go_ret2
                exact HNO.out _ hr (HE4.out.trans HX)
              · have d4 : decide ((1000 : Int) < (s : Int)) = false := decide_eq_false (by omega)
                have d5 : decide ((a : Int) < (fr : Int)) = true := decide_eq_true (by omega)
                have d5a : decide ((0 : Int) < (fr : Int)) = true := decide_eq_true (by omega)
                have d5b : decide (0 < fr) = true := decide_eq_true (by omega)
                have hr := HBAD.out k hkn (fun h => by
                  rcases h with ⟨q1, q2⟩ | ⟨q1, q2, q3, q4, q5⟩
                  · exact hE0 ⟨HAE.out.symm.trans q1, HSE.out.symm.trans q2⟩
                  · rw [HSE.out] at q1 q2
                    rw [HAE.out, HFR.out] at q3
                    rw [HAE.out, HSE.out] at q4
                    omega)
                go_upto_region 10 with fail
                have HX : Ext w4 w4.drew := (Ext.refl w4).drew
                refine wp_eager Ext.pre (n := 36) (by kernel_rfl) (by kernel_rfl) ?_
                refine Eg.batchK Ext.pre (by intro c a d v w h; cases d <;> exact h) (by kernel_rfl) (n := 24) [0, 1, 2, 3, 4, 5, 6, 7, 8, 9, 10, 11] [] _ (by kernel_rfl) (fun K hK => ?_); (simp only [pickOps, List.getElem?_toArray, List.getElem?_cons_zero, List.getElem?_cons_succ, Option.toList_some, List.cons_append, List.nil_append]); (repeat (first | go_big_quiet_step (fail) | quiet_step (fail))); refine wpQuiet_nil (hK _ ?_); clear hK K
                (refine Eg.read Ext.pre (by intro c a d v w h; cases d <;> exact h) (by kernel_rfl) (i := 12) (n := 23) (l := [0, 1, 2, 3, 4, 5, 6, 7, 8, 9, 10, 11]) rfl (by kernel_rfl) (by kernel_rfl) rfl ⟨_, fun w' hR => load_run rfl (load_ni (hR.cell (HX.cell x1))), ?_⟩); (simp only [Act.put, List.setIfInBounds_toArray, List.getElem_toArray, List.getElem_cons_succ, List.getElem_cons_zero, List.set_cons_succ, List.set_cons_zero])
                refine Eg.batchK Ext.pre (by intro c a d v w h; cases d <;> exact h) (by kernel_rfl) (n := 20) [13, 14, 15] [0, 1, 2, 3, 4, 5, 6, 7, 8, 9, 10, 11, 12] _ (by kernel_rfl) (fun K hK => ?_); (simp only [pickOps, List.getElem?_toArray, List.getElem?_cons_zero, List.getElem?_cons_succ, Option.toList_some, List.cons_append, List.nil_append]); (repeat (first | go_big_quiet_step (fail) | quiet_step (fail))); refine wpQuiet_nil (hK _ ?_); clear hK K
                (refine Eg.read Ext.pre (by intro c a d v w h; cases d <;> exact h) (by kernel_rfl) (i := 16) (n := 19) (l := [0, 1, 2, 3, 4, 5, 6, 7, 8, 9, 10, 11, 12, 13, 14, 15]) rfl (by kernel_rfl) (by kernel_rfl) rfl ⟨_, fun w' hR => load_run rfl (load_ni (hR.cell (HX.cell x1))), ?_⟩); (simp only [Act.put, List.setIfInBounds_toArray, List.getElem_toArray, List.getElem_cons_succ, List.getElem_cons_zero, List.set_cons_succ, List.set_cons_zero])
                refine Eg.batchK Ext.pre (by intro c a d v w h; cases d <;> exact h) (by kernel_rfl) (n := 15) [17, 18, 19, 20] [0, 1, 2, 3, 4, 5, 6, 7, 8, 9, 10, 11, 12, 13, 14, 15, 16] _ (by kernel_rfl) (fun K hK => ?_); (simp only [pickOps, List.getElem?_toArray, List.getElem?_cons_zero, List.getElem?_cons_succ, Option.toList_some, List.cons_append, List.nil_append]); (repeat (first | go_big_quiet_step (fail) | quiet_step (fail))); refine wpQuiet_nil (hK _ ?_); clear hK K
                (refine Eg.read Ext.pre (by intro c a d v w h; cases d <;> exact h) (by kernel_rfl) (i := 21) (n := 14) (l := [0, 1, 2, 3, 4, 5, 6, 7, 8, 9, 10, 11, 12, 13, 14, 15, 16, 17, 18, 19, 20]) rfl (by kernel_rfl) (by kernel_rfl) rfl ⟨_, fun w' hR => load_run rfl (load_ni (hR.cell (HX.cell x0))), ?_⟩); (simp only [Act.put, List.setIfInBounds_toArray, List.getElem_toArray, List.getElem_cons_succ, List.getElem_cons_zero, List.set_cons_succ, List.set_cons_zero])
                (refine Eg.read Ext.pre (by intro c a d v w h; cases d <;> exact h) (by kernel_rfl) (i := 22) (n := 13) (l := [0, 1, 2, 3, 4, 5, 6, 7, 8, 9, 10, 11, 12, 13, 14, 15, 16, 17, 18, 19, 20, 21]) rfl (by kernel_rfl) (by kernel_rfl) rfl ⟨_, fun w' hR => load_run rfl (load_pg ((HP4.out.blk.ext HX).ext hR) HPL.out), ?_⟩); (simp only [Act.put, List.setIfInBounds_toArray, List.getElem_toArray, List.getElem_cons_succ, List.getElem_cons_zero, List.set_cons_succ, List.set_cons_zero])
                refine Eg.act Ext.pre (i := 23) (n := 12) (l := [0, 1, 2, 3, 4, 5, 6, 7, 8, 9, 10, 11, 12, 13, 14, 15, 16, 17, 18, 19, 20, 21, 22]) rfl (by kernel_rfl) ?_
                go_wp2_with fail
                refine (KF.out _).mono ?_
                rintro e w5 ⟨rfl, hE5⟩
                go_wp2_with fail
                refine ⟨hE5, ?_⟩
                replace HX := HX.trans hE5
                clear hE5
                refine Eg.batchK Ext.pre (by intro c a d v w h; cases d <;> exact h) (by kernel_rfl) (n := 7) [24, 25, 26, 27, 29] [0, 1, 2, 3, 4, 5, 6, 7, 8, 9, 10, 11, 12, 13, 14, 15, 16, 17, 18, 19, 20, 21, 22, 23] _ (by kernel_rfl) (fun K hK => ?_); (simp only [pickOps, List.getElem?_toArray, List.getElem?_cons_zero, List.getElem?_cons_succ, Option.toList_some, List.cons_append, List.nil_append]); (repeat (first | go_big_quiet_step (fail) | quiet_step (fail))); refine wpQuiet_nil (hK _ ?_); clear hK K
                (refine Eg.skip Ext.pre (by intro c a d v w h; cases d <;> exact h) (by kernel_rfl) (i := 28) (n := 6) (l := [0, 1, 2, 3, 4, 5, 6, 7, 8, 9, 10, 11, 12, 13, 14, 15, 16, 17, 18, 19, 20, 21, 22, 23, 24, 25, 26, 27, 29]) rfl (by kernel_rfl) (by kernel_rfl) rfl ?_); (simp only [Act.put, List.setIfInBounds_toArray, List.getElem_toArray, List.getElem_cons_succ, List.getElem_cons_zero, List.set_cons_succ, List.set_cons_zero])
                (refine Eg.skip Ext.pre (by intro c a d v w h; cases d <;> exact h) (by kernel_rfl) (i := 30) (n := 5) (l := [0, 1, 2, 3, 4, 5, 6, 7, 8, 9, 10, 11, 12, 13, 14, 15, 16, 17, 18, 19, 20, 21, 22, 23, 24, 25, 26, 27, 29, 28]) rfl (by kernel_rfl) (by kernel_rfl) rfl ?_); (simp only [Act.put, List.setIfInBounds_toArray, List.getElem_toArray, List.getElem_cons_succ, List.getElem_cons_zero, List.set_cons_succ, List.set_cons_zero])
                refine Eg.batchK Ext.pre (by intro c a d v w h; cases d <;> exact h) (by kernel_rfl) (n := 0) [31, 32, 33, 34, 35] [0, 1, 2, 3, 4, 5, 6, 7, 8, 9, 10, 11, 12, 13, 14, 15, 16, 17, 18, 19, 20, 21, 22, 23, 24, 25, 26, 27, 29, 28, 30] _ (by kernel_rfl) (fun K hK => ?_); (simp only [pickOps, List.getElem?_toArray, List.getElem?_cons_zero, List.getElem?_cons_succ, Option.toList_some, List.cons_append, List.nil_append]); (repeat (first | go_big_quiet_step (fail) | quiet_step (fail))); refine wpQuiet_nil (hK _ ?_); clear hK K
                refine Eg.finish (by kernel_rfl) ?_
                go_wp2_with fail
                go_ret2
                exact HNO.out _ hr (HE4.out.trans HX)
            · have e9a : ((a : Int) == 0) = false := by rw [beq_eq_false_iff_ne]; omega
              by_cases h3 : s < 1
              · have d3 : decide ((s : Int) < 1) = true := decide_eq_true (by omega)
                have hr := HBAD.out k hkn (fun h => by
                  rcases h with ⟨q1, q2⟩ | ⟨q1, q2, q3, q4, q5⟩
                  · exact hE0 ⟨HAE.out.symm.trans q1, HSE.out.symm.trans q2⟩
                  · rw [HSE.out] at q1 q2
                    rw [HAE.out, HFR.out] at q3
                    rw [HAE.out, HSE.out] at q4
                    omega)
                go_upto_region 10 with fail
                have HX : Ext w4 w4.drew := (Ext.refl w4).drew
                refine wp_eager Ext.pre (n := 36) (by kernel_rfl) (by kernel_rfl) ?_
                refine Eg.batchK Ext.pre (by intro c a d v w h; cases d <;> exact h) (by kernel_rfl) (n := 24) [0, 1, 2, 3, 4, 5, 6, 7, 8, 9, 10, 11] [] _ (by kernel_rfl) (fun K hK => ?_); (simp only [pickOps, List.getElem?_toArray, List.getElem?_cons_zero, List.getElem?_cons_succ, Option.toList_some, List.cons_append, List.nil_append]); (repeat (first | go_big_quiet_step (fail) | quiet_step (fail))); refine wpQuiet_nil (hK _ ?_); clear hK K
                (refine Eg.read Ext.pre (by intro c a d v w h; cases d <;> exact h) (by kernel_rfl) (i := 12) (n := 23) (l := [0, 1, 2, 3, 4, 5, 6, 7, 8, 9, 10, 11]) rfl (by kernel_rfl) (by kernel_rfl) rfl ⟨_, fun w' hR => load_run rfl (load_ni (hR.cell (HX.cell x1))), ?_⟩); (simp only [Act.put, List.setIfInBounds_toArray, List.getElem_toArray, List.getElem_cons_succ, List.getElem_cons_zero, List.set_cons_succ, List.set_cons_zero])
                refine Eg.batchK Ext.pre (by intro c a d v w h; cases d <;> exact h) (by kernel_rfl) (n := 20) [13, 14, 15] [0, 1, 2, 3, 4, 5, 6, 7, 8, 9, 10, 11, 12] _ (by kernel_rfl) (fun K hK => ?_); (simp only [pickOps, List.getElem?_toArray, List.getElem?_cons_zero, List.getElem?_cons_succ, Option.toList_some, List.cons_append, List.nil_append]); (repeat (first | go_big_quiet_step (fail) | quiet_step (fail))); refine wpQuiet_nil (hK _ ?_); clear hK K
                (refine Eg.skip Ext.pre (by intro c a d v w h; cases d <;> exact h) (by kernel_rfl) (i := 16) (n := 19) (l := [0, 1, 2, 3, 4, 5, 6, 7, 8, 9, 10, 11, 12, 13, 14, 15]) rfl (by kernel_rfl) (by kernel_rfl) rfl ?_); (simp only [Act.put, List.setIfInBounds_toArray, List.getElem_toArray, List.getElem_cons_succ, List.getElem_cons_zero, List.set_cons_succ, List.set_cons_zero])
                refine Eg.batchK Ext.pre (by intro c a d v w h; cases d <;> exact h) (by kernel_rfl) (n := 15) [17, 18, 19, 20] [0, 1, 2, 3, 4, 5, 6, 7, 8, 9, 10, 11, 12, 13, 14, 15, 16] _ (by kernel_rfl) (fun K hK => ?_); (simp only [pickOps, List.getElem?_toArray, List.getElem?_cons_zero, List.getElem?_cons_succ, Option.toList_some, List.cons_append, List.nil_append]); (repeat (first | go_big_quiet_step (fail) | quiet_step (fail))); refine wpQuiet_nil (hK _ ?_); clear hK K
                (refine Eg.skip Ext.pre (by intro c a d v w h; cases d <;> exact h) (by kernel_rfl) (i := 21) (n := 14) (l := [0, 1, 2, 3, 4, 5, 6, 7, 8, 9, 10, 11, 12, 13, 14, 15, 16, 17, 18, 19, 20]) rfl (by kernel_rfl) (by kernel_rfl) rfl ?_); (simp only [Act.put, List.setIfInBounds_toArray, List.getElem_toArray, List.getElem_cons_succ, List.getElem_cons_zero, List.set_cons_succ, List.set_cons_zero])
                (refine Eg.skip Ext.pre (by intro c a d v w h; cases d <;> exact h) (by kernel_rfl) (i := 22) (n := 13) (l := [0, 1, 2, 3, 4, 5, 6, 7, 8, 9, 10, 11, 12, 13, 14, 15, 16, 17, 18, 19, 20, 21]) rfl (by kernel_rfl) (by kernel_rfl) rfl ?_); (simp only [Act.put, List.setIfInBounds_toArray, List.getElem_toArray, List.getElem_cons_succ, List.getElem_cons_zero, List.set_cons_succ, List.set_cons_zero])
                refine Eg.act Ext.pre (i := 23) (n := 12) (l := [0, 1, 2, 3, 4, 5, 6, 7, 8, 9, 10, 11, 12, 13, 14, 15, 16, 17, 18, 19, 20, 21, 22]) rfl (by kernel_rfl) ?_
                refine wpList_step (fun K hK => ?_)
                go_simp
                refine hK _ _ ?_
                clear hK K
                refine wpList_nil ?_
                refine ⟨Ext.pre.refl _, ?_⟩
                refine Eg.batchK Ext.pre (by intro c a d v w h; cases d <;> exact h) (by kernel_rfl) (n := 7) [24, 25, 26, 27, 29] [0, 1, 2, 3, 4, 5, 6, 7, 8, 9, 10, 11, 12, 13, 14, 15, 16, 17, 18, 19, 20, 21, 22, 23] _ (by kernel_rfl) (fun K hK => ?_); (simp only [pickOps, List.getElem?_toArray, List.getElem?_cons_zero, List.getElem?_cons_succ, Option.toList_some, List.cons_append, List.nil_append]); (repeat (first | go_big_quiet_step (fail) | quiet_step (fail))); refine wpQuiet_nil (hK _ ?_); clear hK K
                (refine Eg.skip Ext.pre (by intro c a d v w h; cases d <;> exact h) (by kernel_rfl) (i := 28) (n := 6) (l := [0, 1, 2, 3, 4, 5, 6, 7, 8, 9, 10, 11, 12, 13, 14, 15, 16, 17, 18, 19, 20, 21, 22, 23, 24, 25, 26, 27, 29]) rfl (by kernel_rfl) (by kernel_rfl) rfl ?_); (simp only [Act.put, List.setIfInBounds_toArray, List.getElem_toArray, List.getElem_cons_succ, List.getElem_cons_zero, List.set_cons_succ, List.set_cons_zero])
                (refine Eg.skip Ext.pre (by intro c a d v w h; cases d <;> exact h) (by kernel_rfl) (i := 30) (n := 5) (l := [0, 1, 2, 3, 4, 5, 6, 7, 8, 9, 10, 11, 12, 13, 14, 15, 16, 17, 18, 19, 20, 21, 22, 23, 24, 25, 26, 27, 29, 28]) rfl (by kernel_rfl) (by kernel_rfl) rfl ?_); (simp only [Act.put, List.setIfInBounds_toArray, List.getElem_toArray, List.getElem_cons_succ, List.getElem_cons_zero, List.set_cons_succ, List.set_cons_zero])
                refine Eg.batchK Ext.pre (by intro c a d v w h; cases d <;> exact h) (by kernel_rfl) (n := 0) [31, 32, 33, 34, 35] [0, 1, 2, 3, 4, 5, 6, 7, 8, 9, 10, 11, 12, 13, 14, 15, 16, 17, 18, 19, 20, 21, 22, 23, 24, 25, 26, 27, 29, 28, 30] _ (by kernel_rfl) (fun K hK => ?_); (simp only [pickOps, List.getElem?_toArray, List.getElem?_cons_zero, List.getElem?_cons_succ, Option.toList_some, List.cons_append, List.nil_append]); (repeat (first | go_big_quiet_step (fail) | quiet_step (fail))); refine wpQuiet_nil (hK _ ?_); clear hK K
                refine Eg.finish (by kernel_rfl) ?_
                go_wp2_with fail
                go_ret2
                exact HNO.out _ hr (HE4.out.trans HX)
              · have d3 : decide ((s : Int) < 1) = false := decide_eq_false (by omega)
                by_cases h4 : 1000 < s
                · have d4 : decide ((1000 : Int) < (s : Int)) = true := decide_eq_true (by omega)
                  have hr := HBAD.out k hkn (fun h => by
                    rcases h with ⟨q1, q2⟩ | ⟨q1, q2, q3, q4, q5⟩
                    · exact hE0 ⟨HAE.out.symm.trans q1, HSE.out.symm.trans q2⟩
                    · rw [HSE.out] at q1 q2
                      rw [HAE.out, HFR.out] at q3
                      rw [HAE.out, HSE.out] at q4
                      omega)
                  go_upto_region 10 with fail
                  have HX : Ext w4 w4.drew := (Ext.refl w4).drew
                  refine wp_eager Ext.pre (n := 36) (by kernel_rfl) (by kernel_rfl) ?_
                  refine Eg.batchK Ext.pre (by intro c a d v w h; cases d <;> exact h) (by kernel_rfl) (n := 24) [0, 1, 2, 3, 4, 5, 6, 7, 8, 9, 10, 11] [] _ (by kernel_rfl) (fun K hK => ?_); (simp only [pickOps, List.getElem?_toArray, List.getElem?_cons_zero, List.getElem?_cons_succ, Option.toList_some, List.cons_append, List.nil_append]); (repeat (first | go_big_quiet_step (fail) | quiet_step (fail))); refine wpQuiet_nil (hK _ ?_); clear hK K
                  (refine Eg.read Ext.pre (by intro c a d v w h; cases d <;> exact h) (by kernel_rfl) (i := 12) (n := 23) (l := [0, 1, 2, 3, 4, 5, 6, 7, 8, 9, 10, 11]) rfl (by kernel_rfl) (by kernel_rfl) rfl ⟨_, fun w' hR => load_run rfl (load_ni (hR.cell (HX.cell x1))), ?_⟩); (simp only [Act.put, List.setIfInBounds_toArray, List.getElem_toArray, List.getElem_cons_succ, List.getElem_cons_zero, List.set_cons_succ, List.set_cons_zero])
                  refine Eg.batchK Ext.pre (by intro c a d v w h; cases d <;> exact h) (by kernel_rfl) (n := 20) [13, 14, 15] [0, 1, 2, 3, 4, 5, 6, 7, 8, 9, 10, 11, 12] _ (by kernel_rfl) (fun K hK => ?_); (simp only [pickOps, List.getElem?_toArray, List.getElem?_cons_zero, List.getElem?_cons_succ, Option.toList_some, List.cons_append, List.nil_append]); (repeat (first | go_big_quiet_step (fail) | quiet_step (fail))); refine wpQuiet_nil (hK _ ?_); clear hK K
                  (refine Eg.read Ext.pre (by intro c a d v w h; cases d <;> exact h) (by kernel_rfl) (i := 16) (n := 19) (l := [0, 1, 2, 3, 4, 5, 6, 7, 8, 9, 10, 11, 12, 13, 14, 15]) rfl (by kernel_rfl) (by kernel_rfl) rfl ⟨_, fun w' hR => load_run rfl (load_ni (hR.cell (HX.cell x1))), ?_⟩); (simp only [Act.put, List.setIfInBounds_toArray, List.getElem_toArray, List.getElem_cons_succ, List.getElem_cons_zero, List.set_cons_succ, List.set_cons_zero])
                  refine Eg.batchK Ext.pre (by intro c a d v w h; cases d <;> exact h) (by kernel_rfl) (n := 15) [17, 18, 19, 20] [0, 1, 2, 3, 4, 5, 6, 7, 8, 9, 10, 11, 12, 13, 14, 15, 16] _ (by kernel_rfl) (fun K hK => ?_); (simp only [pickOps, List.getElem?_toArray, List.getElem?_cons_zero, List.getElem?_cons_succ, Option.toList_some, List.cons_append, List.nil_append]); (repeat (first | go_big_quiet_step (fail) | quiet_step (fail))); refine wpQuiet_nil (hK _ ?_); clear hK K
                  (refine Eg.skip Ext.pre (by intro c a d v w h; cases d <;> exact h) (by kernel_rfl) (i := 21) (n := 14) (l := [0, 1, 2, 3, 4, 5, 6, 7, 8, 9, 10, 11, 12, 13, 14, 15, 16, 17, 18, 19, 20]) rfl (by kernel_rfl) (by kernel_rfl) rfl ?_); (simp only [Act.put, List.setIfInBounds_toArray, List.getElem_toArray, List.getElem_cons_succ, List.getElem_cons_zero, List.set_cons_succ, List.set_cons_zero])
                  (refine Eg.skip Ext.pre (by intro c a d v w h; cases d <;> exact h) (by kernel_rfl) (i := 22) (n := 13) (l := [0, 1, 2, 3, 4, 5, 6, 7, 8, 9, 10, 11, 12, 13, 14, 15, 16, 17, 18, 19, 20, 21]) rfl (by kernel_rfl) (by kernel_rfl) rfl ?_); (simp only [Act.put, List.setIfInBounds_toArray, List.getElem_toArray, List.getElem_cons_succ, List.getElem_cons_zero, List.set_cons_succ, List.set_cons_zero])
                  refine Eg.act Ext.pre (i := 23) (n := 12) (l := [0, 1, 2, 3, 4, 5, 6, 7, 8, 9, 10, 11, 12, 13, 14, 15, 16, 17, 18, 19, 20, 21, 22]) rfl (by kernel_rfl) ?_
                  refine wpList_step (fun K hK => ?_)
                  go_simp
                  refine hK _ _ ?_
                  clear hK K
                  refine wpList_nil ?_
                  refine ⟨Ext.pre.refl _, ?_⟩
                  refine Eg.batchK Ext.pre (by intro c a d v w h; cases d <;> exact h) (by kernel_rfl) (n := 7) [24, 25, 26, 27, 29] [0, 1, 2, 3, 4, 5, 6, 7, 8, 9, 10, 11, 12, 13, 14, 15, 16, 17, 18, 19, 20, 21, 22, 23] _ (by kernel_rfl) (fun K hK => ?_); (simp only [pickOps, List.getElem?_toArray, List.getElem?_cons_zero, List.getElem?_cons_succ, Option.toList_some, List.cons_append, List.nil_append]); (repeat (first | go_big_quiet_step (fail) | quiet_step (fail))); refine wpQuiet_nil (hK _ ?_); clear hK K
                  (refine Eg.skip Ext.pre (by intro c a d v w h; cases d <;> exact h) (by kernel_rfl) (i := 28) (n := 6) (l := [0, 1, 2, 3, 4, 5, 6, 7, 8, 9, 10, 11, 12, 13, 14, 15, 16, 17, 18, 19, 20, 21, 22, 23, 24, 25, 26, 27, 29]) rfl (by kernel_rfl) (by kernel_rfl) rfl ?_); (simp only [Act.put, List.setIfInBounds_toArray, List.getElem_toArray, List.getElem_cons_succ, List.getElem_cons_zero, List.set_cons_succ, List.set_cons_zero])
                  (refine Eg.skip Ext.pre (by intro c a d v w h; cases d <;> exact h) (by kernel_rfl) (i := 30) (n := 5) (l := [0, 1, 2, 3, 4, 5, 6, 7, 8, 9, 10, 11, 12, 13, 14, 15, 16, 17, 18, 19, 20, 21, 22, 23, 24, 25, 26, 27, 29, 28]) rfl (by kernel_rfl) (by kernel_rfl) rfl ?_); (simp only [Act.put, List.setIfInBounds_toArray, List.getElem_toArray, List.getElem_cons_succ, List.getElem_cons_zero, List.set_cons_succ, List.set_cons_zero])
                  refine Eg.batchK Ext.pre (by intro c a d v w h; cases d <;> exact h) (by kernel_rfl) (n := 0) [31, 32, 33, 34, 35] [0, 1, 2, 3, 4, 5, 6, 7, 8, 9, 10, 11, 12, 13, 14, 15, 16, 17, 18, 19, 20, 21, 22, 23, 24, 25, 26, 27, 29, 28, 30] _ (by kernel_rfl) (fun K hK => ?_); (simp only [pickOps, List.getElem?_toArray, List.getElem?_cons_zero, List.getElem?_cons_succ, Option.toList_some, List.cons_append, List.nil_append]); (repeat (first | go_big_quiet_step (fail) | quiet_step (fail))); refine wpQuiet_nil (hK _ ?_); clear hK K
                  refine Eg.finish (by kernel_rfl) ?_
                  go_wp2_with fail
                  go_ret2
                  exact HNO.out _ hr (HE4.out.trans HX)
                · have d4 : decide ((1000 : Int) < (s : Int)) = false := decide_eq_false (by omega)
                  by_cases h5 : a < fr
                  · have d5 : decide ((a : Int) < (fr : Int)) = true := decide_eq_true (by omega)
                    have hr := HBAD.out k hkn (fun h => by
                      rcases h with ⟨q1, q2⟩ | ⟨q1, q2, q3, q4, q5⟩
                      · exact hE0 ⟨HAE.out.symm.trans q1, HSE.out.symm.trans q2⟩
                      · rw [HSE.out] at q1 q2
                        rw [HAE.out, HFR.out] at q3
                        rw [HAE.out, HSE.out] at q4
                        omega)
                    go_upto_region 10 with fail
                    have HX : Ext w4 w4.drew := (Ext.refl w4).drew
                    refine wp_eager Ext.pre (n := 36) (by kernel_rfl) (by kernel_rfl) ?_
                    refine Eg.batchK Ext.pre (by intro c a d v w h; cases d <;> exact h) (by kernel_rfl) (n := 24) [0, 1, 2, 3, 4, 5, 6, 7, 8, 9, 10, 11] [] _ (by kernel_rfl) (fun K hK => ?_); (simp only [pickOps, List.getElem?_toArray, List.getElem?_cons_zero, List.getElem?_cons_succ, Option.toList_some, List.cons_append, List.nil_append]); (repeat (first | go_big_quiet_step (fail) | quiet_step (fail))); refine wpQuiet_nil (hK _ ?_); clear hK K
                    (refine Eg.read Ext.pre (by intro c a d v w h; cases d <;> exact h) (by kernel_rfl) (i := 12) (n := 23) (l := [0, 1, 2, 3, 4, 5, 6, 7, 8, 9, 10, 11]) rfl (by kernel_rfl) (by kernel_rfl) rfl ⟨_, fun w' hR => load_run rfl (load_ni (hR.cell (HX.cell x1))), ?_⟩); (simp only [Act.put, List.setIfInBounds_toArray, List.getElem_toArray, List.getElem_cons_succ, List.getElem_cons_zero, List.set_cons_succ, List.set_cons_zero])
                    refine Eg.batchK Ext.pre (by intro c a d v w h; cases d <;> exact h) (by kernel_rfl) (n := 20) [13, 14, 15] [0, 1, 2, 3, 4, 5, 6, 7, 8, 9, 10, 11, 12] _ (by kernel_rfl) (fun K hK => ?_); (simp only [pickOps, List.getElem?_toArray, List.getElem?_cons_zero, List.getElem?_cons_succ, Option.toList_some, List.cons_append, List.nil_append]); (repeat (first | go_big_quiet_step (fail) | quiet_step (fail))); refine wpQuiet_nil (hK _ ?_); clear hK K
                    (refine Eg.read Ext.pre (by intro c a d v w h; cases d <;> exact h) (by kernel_rfl) (i := 16) (n := 19) (l := [0, 1, 2, 3, 4, 5, 6, 7, 8, 9, 10, 11, 12, 13, 14, 15]) rfl (by kernel_rfl) (by kernel_rfl) rfl ⟨_, fun w' hR => load_run rfl (load_ni (hR.cell (HX.cell x1))), ?_⟩); (simp only [Act.put, List.setIfInBounds_toArray, List.getElem_toArray, List.getElem_cons_succ, List.getElem_cons_zero, List.set_cons_succ, List.set_cons_zero])
                    refine Eg.batchK Ext.pre (by intro c a d v w h; cases d <;> exact h) (by kernel_rfl) (n := 15) [17, 18, 19, 20] [0, 1, 2, 3, 4, 5, 6, 7, 8, 9, 10, 11, 12, 13, 14, 15, 16] _ (by kernel_rfl) (fun K hK => ?_); (simp only [pickOps, List.getElem?_toArray, List.getElem?_cons_zero, List.getElem?_cons_succ, Option.toList_some, List.cons_append, List.nil_append]); (repeat (first | go_big_quiet_step (fail) | quiet_step (fail))); refine wpQuiet_nil (hK _ ?_); clear hK K
                    (refine Eg.read Ext.pre (by intro c a d v w h; cases d <;> exact h) (by kernel_rfl) (i := 21) (n := 14) (l := [0, 1, 2, 3, 4, 5, 6, 7, 8, 9, 10, 11, 12, 13, 14, 15, 16, 17, 18, 19, 20]) rfl (by kernel_rfl) (by kernel_rfl) rfl ⟨_, fun w' hR => load_run rfl (load_ni (hR.cell (HX.cell x0))), ?_⟩); (simp only [Act.put, List.setIfInBounds_toArray, List.getElem_toArray, List.getElem_cons_succ, List.getElem_cons_zero, List.set_cons_succ, List.set_cons_zero])
                    (refine Eg.read Ext.pre (by intro c a d v w h; cases d <;> exact h) (by kernel_rfl) (i := 22) (n := 13) (l := [0, 1, 2, 3, 4, 5, 6, 7, 8, 9, 10, 11, 12, 13, 14, 15, 16, 17, 18, 19, 20, 21]) rfl (by kernel_rfl) (by kernel_rfl) rfl ⟨_, fun w' hR => load_run rfl (load_pg ((HP4.out.blk.ext HX).ext hR) HPL.out), ?_⟩); (simp only [Act.put, List.setIfInBounds_toArray, List.getElem_toArray, List.getElem_cons_succ, List.getElem_cons_zero, List.set_cons_succ, List.set_cons_zero])
                    refine Eg.act Ext.pre (i := 23) (n := 12) (l := [0, 1, 2, 3, 4, 5, 6, 7, 8, 9, 10, 11, 12, 13, 14, 15, 16, 17, 18, 19, 20, 21, 22]) rfl (by kernel_rfl) ?_
                    go_wp2_with fail
                    refine (KF.out _).mono ?_
                    rintro e w5 ⟨rfl, hE5⟩
                    go_wp2_with fail
                    refine ⟨hE5, ?_⟩
                    replace HX := HX.trans hE5
                    clear hE5
                    refine Eg.batchK Ext.pre (by intro c a d v w h; cases d <;> exact h) (by kernel_rfl) (n := 7) [24, 25, 26, 27, 29] [0, 1, 2, 3, 4, 5, 6, 7, 8, 9, 10, 11, 12, 13, 14, 15, 16, 17, 18, 19, 20, 21, 22, 23] _ (by kernel_rfl) (fun K hK => ?_); (simp only [pickOps, List.getElem?_toArray, List.getElem?_cons_zero, List.getElem?_cons_succ, Option.toList_some, List.cons_append, List.nil_append]); (repeat (first | go_big_quiet_step (fail) | quiet_step (fail))); refine wpQuiet_nil (hK _ ?_); clear hK K
                    (refine Eg.skip Ext.pre (by intro c a d v w h; cases d <;> exact h) (by kernel_rfl) (i := 28) (n := 6) (l := [0, 1, 2, 3, 4, 5, 6, 7, 8, 9, 10, 11, 12, 13, 14, 15, 16, 17, 18, 19, 20, 21, 22, 23, 24, 25, 26, 27, 29]) rfl (by kernel_rfl) (by kernel_rfl) rfl ?_); (simp only [Act.put, List.setIfInBounds_toArray, List.getElem_toArray, List.getElem_cons_succ, List.getElem_cons_zero, List.set_cons_succ, List.set_cons_zero])
                    (refine Eg.skip Ext.pre (by intro c a d v w h; cases d <;> exact h) (by kernel_rfl) (i := 30) (n := 5) (l := [0, 1, 2, 3, 4, 5, 6, 7, 8, 9, 10, 11, 12, 13, 14, 15, 16, 17, 18, 19, 20, 21, 22, 23, 24, 25, 26, 27, 29, 28]) rfl (by kernel_rfl) (by kernel_rfl) rfl ?_); (simp only [Act.put, List.setIfInBounds_toArray, List.getElem_toArray, List.getElem_cons_succ, List.getElem_cons_zero, List.set_cons_succ, List.set_cons_zero])
                    refine Eg.batchK Ext.pre (by intro c a d v w h; cases d <;> exact h) (by kernel_rfl) (n := 0) [31, 32, 33, 34, 35] [0, 1, 2, 3, 4, 5, 6, 7, 8, 9, 10, 11, 12, 13, 14, 15, 16, 17, 18, 19, 20, 21, 22, 23, 24, 25, 26, 27, 29, 28, 30] _ (by kernel_rfl) (fun K hK => ?_); (simp only [pickOps, List.getElem?_toArray, List.getElem?_cons_zero, List.getElem?_cons_succ, Option.toList_some, List.cons_append, List.nil_append]); (repeat (first | go_big_quiet_step (fail) | quiet_step (fail))); refine wpQuiet_nil (hK _ ?_); clear hK K
                    refine Eg.finish (by kernel_rfl) ?_
                    go_wp2_with fail
                    go_ret2
                    exact HNO.out _ hr (HE4.out.trans HX)
                  · have d5 : decide ((a : Int) < (fr : Int)) = false := decide_eq_false (by omega)
                    by_cases h6 : 1024 < a + s
                    · have d6 : decide ((1024 : Int) < (a : Int) + (s : Int)) = true := decide_eq_true (by omega)
                      have hr := HBAD.out k hkn (fun h => by
                        rcases h with ⟨q1, q2⟩ | ⟨q1, q2, q3, q4, q5⟩
                        · exact hE0 ⟨HAE.out.symm.trans q1, HSE.out.symm.trans q2⟩
                        · rw [HSE.out] at q1 q2
                          rw [HAE.out, HFR.out] at q3
                          rw [HAE.out, HSE.out] at q4
                          omega)
                      go_upto_region 10 with fail
                      have HX : Ext w4 w4.drew := (Ext.refl w4).drew
                      refine wp_eager Ext.pre (n := 36) (by kernel_rfl) (by kernel_rfl) ?_
                      refine Eg.batchK Ext.pre (by intro c a d v w h; cases d <;> exact h) (by kernel_rfl) (n := 24) [0, 1, 2, 3, 4, 5, 6, 7, 8, 9, 10, 11] [] _ (by kernel_rfl) (fun K hK => ?_); (simp only [pickOps, List.getElem?_toArray, List.getElem?_cons_zero, List.getElem?_cons_succ, Option.toList_some, List.cons_append, List.nil_append]); (repeat (first | go_big_quiet_step (fail) | quiet_step (fail))); refine wpQuiet_nil (hK _ ?_); clear hK K
                      (refine Eg.read Ext.pre (by intro c a d v w h; cases d <;> exact h) (by kernel_rfl) (i := 12) (n := 23) (l := [0, 1, 2, 3, 4, 5, 6, 7, 8, 9, 10, 11]) rfl (by kernel_rfl) (by kernel_rfl) rfl ⟨_, fun w' hR => load_run rfl (load_ni (hR.cell (HX.cell x1))), ?_⟩); (simp only [Act.put, List.setIfInBounds_toArray, List.getElem_toArray, List.getElem_cons_succ, List.getElem_cons_zero, List.set_cons_succ, List.set_cons_zero])
                      refine Eg.batchK Ext.pre (by intro c a d v w h; cases d <;> exact h) (by kernel_rfl) (n := 20) [13, 14, 15] [0, 1, 2, 3, 4, 5, 6, 7, 8, 9, 10, 11, 12] _ (by kernel_rfl) (fun K hK => ?_); (simp only [pickOps, List.getElem?_toArray, List.getElem?_cons_zero, List.getElem?_cons_succ, Option.toList_some, List.cons_append, List.nil_append]); (repeat (first | go_big_quiet_step (fail) | quiet_step (fail))); refine wpQuiet_nil (hK _ ?_); clear hK K
                      (refine Eg.read Ext.pre (by intro c a d v w h; cases d <;> exact h) (by kernel_rfl) (i := 16) (n := 19) (l := [0, 1, 2, 3, 4, 5, 6, 7, 8, 9, 10, 11, 12, 13, 14, 15]) rfl (by kernel_rfl) (by kernel_rfl) rfl ⟨_, fun w' hR => load_run rfl (load_ni (hR.cell (HX.cell x1))), ?_⟩); (simp only [Act.put, List.setIfInBounds_toArray, List.getElem_toArray, List.getElem_cons_succ, List.getElem_cons_zero, List.set_cons_succ, List.set_cons_zero])
                      refine Eg.batchK Ext.pre (by intro c a d v w h; cases d <;> exact h) (by kernel_rfl) (n := 15) [17, 18, 19, 20] [0, 1, 2, 3, 4, 5, 6, 7, 8, 9, 10, 11, 12, 13, 14, 15, 16] _ (by kernel_rfl) (fun K hK => ?_); (simp only [pickOps, List.getElem?_toArray, List.getElem?_cons_zero, List.getElem?_cons_succ, Option.toList_some, List.cons_append, List.nil_append]); (repeat (first | go_big_quiet_step (fail) | quiet_step (fail))); refine wpQuiet_nil (hK _ ?_); clear hK K
                      (refine Eg.read Ext.pre (by intro c a d v w h; cases d <;> exact h) (by kernel_rfl) (i := 21) (n := 14) (l := [0, 1, 2, 3, 4, 5, 6, 7, 8, 9, 10, 11, 12, 13, 14, 15, 16, 17, 18, 19, 20]) rfl (by kernel_rfl) (by kernel_rfl) rfl ⟨_, fun w' hR => load_run rfl (load_ni (hR.cell (HX.cell x0))), ?_⟩); (simp only [Act.put, List.setIfInBounds_toArray, List.getElem_toArray, List.getElem_cons_succ, List.getElem_cons_zero, List.set_cons_succ, List.set_cons_zero])
                      (refine Eg.read Ext.pre (by intro c a d v w h; cases d <;> exact h) (by kernel_rfl) (i := 22) (n := 13) (l := [0, 1, 2, 3, 4, 5, 6, 7, 8, 9, 10, 11, 12, 13, 14, 15, 16, 17, 18, 19, 20, 21]) rfl (by kernel_rfl) (by kernel_rfl) rfl ⟨_, fun w' hR => load_run rfl (load_pg ((HP4.out.blk.ext HX).ext hR) HPL.out), ?_⟩); (simp only [Act.put, List.setIfInBounds_toArray, List.getElem_toArray, List.getElem_cons_succ, List.getElem_cons_zero, List.set_cons_succ, List.set_cons_zero])
                      refine Eg.act Ext.pre (i := 23) (n := 12) (l := [0, 1, 2, 3, 4, 5, 6, 7, 8, 9, 10, 11, 12, 13, 14, 15, 16, 17, 18, 19, 20, 21, 22]) rfl (by kernel_rfl) ?_
                      go_wp2_with fail
                      refine (KF.out _).mono ?_
                      rintro e w5 ⟨rfl, hE5⟩
                      go_wp2_with fail
                      refine ⟨hE5, ?_⟩
                      replace HX := HX.trans hE5
                      clear hE5
                      refine Eg.batchK Ext.pre (by intro c a d v w h; cases d <;> exact h) (by kernel_rfl) (n := 7) [24, 25, 26, 27, 29] [0, 1, 2, 3, 4, 5, 6, 7, 8, 9, 10, 11, 12, 13, 14, 15, 16, 17, 18, 19, 20, 21, 22, 23] _ (by kernel_rfl) (fun K hK => ?_); (simp only [pickOps, List.getElem?_toArray, List.getElem?_cons_zero, List.getElem?_cons_succ, Option.toList_some, List.cons_append, List.nil_append]); (repeat (first | go_big_quiet_step (fail) | quiet_step (fail))); refine wpQuiet_nil (hK _ ?_); clear hK K
                      (refine Eg.read Ext.pre (by intro c a d v w h; cases d <;> exact h) (by kernel_rfl) (i := 28) (n := 6) (l := [0, 1, 2, 3, 4, 5, 6, 7, 8, 9, 10, 11, 12, 13, 14, 15, 16, 17, 18, 19, 20, 21, 22, 23, 24, 25, 26, 27, 29]) rfl (by kernel_rfl) (by kernel_rfl) rfl ⟨_, fun w' hR => load_run rfl (load_ni (hR.cell (HX.cell x0))), ?_⟩); (simp only [Act.put, List.setIfInBounds_toArray, List.getElem_toArray, List.getElem_cons_succ, List.getElem_cons_zero, List.set_cons_succ, List.set_cons_zero])
                      (refine Eg.read Ext.pre (by intro c a d v w h; cases d <;> exact h) (by kernel_rfl) (i := 30) (n := 5) (l := [0, 1, 2, 3, 4, 5, 6, 7, 8, 9, 10, 11, 12, 13, 14, 15, 16, 17, 18, 19, 20, 21, 22, 23, 24, 25, 26, 27, 29, 28]) rfl (by kernel_rfl) (by kernel_rfl) rfl ⟨_, fun w' hR => load_run rfl (load_ni (hR.cell (HX.cell x1))), ?_⟩); (simp only [Act.put, List.setIfInBounds_toArray, List.getElem_toArray, List.getElem_cons_succ, List.getElem_cons_zero, List.set_cons_succ, List.set_cons_zero])
                      refine Eg.batchK Ext.pre (by intro c a d v w h; cases d <;> exact h) (by kernel_rfl) (n := 0) [31, 32, 33, 34, 35] [0, 1, 2, 3, 4, 5, 6, 7, 8, 9, 10, 11, 12, 13, 14, 15, 16, 17, 18, 19, 20, 21, 22, 23, 24, 25, 26, 27, 29, 28, 30] _ (by kernel_rfl) (fun K hK => ?_); (simp only [pickOps, List.getElem?_toArray, List.getElem?_cons_zero, List.getElem?_cons_succ, Option.toList_some, List.cons_append, List.nil_append]); (repeat (first | go_big_quiet_step (fail) | quiet_step (fail))); refine wpQuiet_nil (hK _ ?_); clear hK K
                      refine Eg.finish (by kernel_rfl) ?_
                      go_wp2_with fail
                      go_ret2
                      exact HNO.out _ hr (HE4.out.trans HX)
                    · have d6 : decide ((1024 : Int) < (a : Int) + (s : Int)) = false := decide_eq_false (by omega)
                      go_upto_region 10 with fail
                      have HX : Ext w4 w4.drew := (Ext.refl w4).drew
                      refine wp_eager Ext.pre (n := 36) (by kernel_rfl) (by kernel_rfl) ?_
                      refine Eg.batchK Ext.pre (by intro c a d v w h; cases d <;> exact h) (by kernel_rfl) (n := 24) [0, 1, 2, 3, 4, 5, 6, 7, 8, 9, 10, 11] [] _ (by kernel_rfl) (fun K hK => ?_); (simp only [pickOps, List.getElem?_toArray, List.getElem?_cons_zero, List.getElem?_cons_succ, Option.toList_some, List.cons_append, List.nil_append]); (repeat (first | go_big_quiet_step (fail) | quiet_step (fail))); refine wpQuiet_nil (hK _ ?_); clear hK K
                      (refine Eg.read Ext.pre (by intro c a d v w h; cases d <;> exact h) (by kernel_rfl) (i := 12) (n := 23) (l := [0, 1, 2, 3, 4, 5, 6, 7, 8, 9, 10, 11]) rfl (by kernel_rfl) (by kernel_rfl) rfl ⟨_, fun w' hR => load_run rfl (load_ni (hR.cell (HX.cell x1))), ?_⟩); (simp only [Act.put, List.setIfInBounds_toArray, List.getElem_toArray, List.getElem_cons_succ, List.getElem_cons_zero, List.set_cons_succ, List.set_cons_zero])
                      refine Eg.batchK Ext.pre (by intro c a d v w h; cases d <;> exact h) (by kernel_rfl) (n := 20) [13, 14, 15] [0, 1, 2, 3, 4, 5, 6, 7, 8, 9, 10, 11, 12] _ (by kernel_rfl) (fun K hK => ?_); (simp only [pickOps, List.getElem?_toArray, List.getElem?_cons_zero, List.getElem?_cons_succ, Option.toList_some, List.cons_append, List.nil_append]); (repeat (first | go_big_quiet_step (fail) | quiet_step (fail))); refine wpQuiet_nil (hK _ ?_); clear hK K
                      (refine Eg.read Ext.pre (by intro c a d v w h; cases d <;> exact h) (by kernel_rfl) (i := 16) (n := 19) (l := [0, 1, 2, 3, 4, 5, 6, 7, 8, 9, 10, 11, 12, 13, 14, 15]) rfl (by kernel_rfl) (by kernel_rfl) rfl ⟨_, fun w' hR => load_run rfl (load_ni (hR.cell (HX.cell x1))), ?_⟩); (simp only [Act.put, List.setIfInBounds_toArray, List.getElem_toArray, List.getElem_cons_succ, List.getElem_cons_zero, List.set_cons_succ, List.set_cons_zero])
                      refine Eg.batchK Ext.pre (by intro c a d v w h; cases d <;> exact h) (by kernel_rfl) (n := 15) [17, 18, 19, 20] [0, 1, 2, 3, 4, 5, 6, 7, 8, 9, 10, 11, 12, 13, 14, 15, 16] _ (by kernel_rfl) (fun K hK => ?_); (simp only [pickOps, List.getElem?_toArray, List.getElem?_cons_zero, List.getElem?_cons_succ, Option.toList_some, List.cons_append, List.nil_append]); (repeat (first | go_big_quiet_step (fail) | quiet_step (fail))); refine wpQuiet_nil (hK _ ?_); clear hK K
                      (refine Eg.read Ext.pre (by intro c a d v w h; cases d <;> exact h) (by kernel_rfl) (i := 21) (n := 14) (l := [0, 1, 2, 3, 4, 5, 6, 7, 8, 9, 10, 11, 12, 13, 14, 15, 16, 17, 18, 19, 20]) rfl (by kernel_rfl) (by kernel_rfl) rfl ⟨_, fun w' hR => load_run rfl (load_ni (hR.cell (HX.cell x0))), ?_⟩); (simp only [Act.put, List.setIfInBounds_toArray, List.getElem_toArray, List.getElem_cons_succ, List.getElem_cons_zero, List.set_cons_succ, List.set_cons_zero])
                      (refine Eg.read Ext.pre (by intro c a d v w h; cases d <;> exact h) (by kernel_rfl) (i := 22) (n := 13) (l := [0, 1, 2, 3, 4, 5, 6, 7, 8, 9, 10, 11, 12, 13, 14, 15, 16, 17, 18, 19, 20, 21]) rfl (by kernel_rfl) (by kernel_rfl) rfl ⟨_, fun w' hR => load_run rfl (load_pg ((HP4.out.blk.ext HX).ext hR) HPL.out), ?_⟩); (simp only [Act.put, List.setIfInBounds_toArray, List.getElem_toArray, List.getElem_cons_succ, List.getElem_cons_zero, List.set_cons_succ, List.set_cons_zero])
                      refine Eg.act Ext.pre (i := 23) (n := 12) (l := [0, 1, 2, 3, 4, 5, 6, 7, 8, 9, 10, 11, 12, 13, 14, 15, 16, 17, 18, 19, 20, 21, 22]) rfl (by kernel_rfl) ?_
                      go_wp2_with fail
                      refine (KF.out _).mono ?_
                      rintro e w5 ⟨rfl, hE5⟩
                      go_wp2_with fail
                      refine ⟨hE5, ?_⟩
                      replace HX := HX.trans hE5
                      clear hE5
                      refine Eg.batchK Ext.pre (by intro c a d v w h; cases d <;> exact h) (by kernel_rfl) (n := 7) [24, 25, 26, 27, 29] [0, 1, 2, 3, 4, 5, 6, 7, 8, 9, 10, 11, 12, 13, 14, 15, 16, 17, 18, 19, 20, 21, 22, 23] _ (by kernel_rfl) (fun K hK => ?_); (simp only [pickOps, List.getElem?_toArray, List.getElem?_cons_zero, List.getElem?_cons_succ, Option.toList_some, List.cons_append, List.nil_append]); (repeat (first | go_big_quiet_step (fail) | quiet_step (fail))); refine wpQuiet_nil (hK _ ?_); clear hK K
                      (refine Eg.read Ext.pre (by intro c a d v w h; cases d <;> exact h) (by kernel_rfl) (i := 28) (n := 6) (l := [0, 1, 2, 3, 4, 5, 6, 7, 8, 9, 10, 11, 12, 13, 14, 15, 16, 17, 18, 19, 20, 21, 22, 23, 24, 25, 26, 27, 29]) rfl (by kernel_rfl) (by kernel_rfl) rfl ⟨_, fun w' hR => load_run rfl (load_ni (hR.cell (HX.cell x0))), ?_⟩); (simp only [Act.put, List.setIfInBounds_toArray, List.getElem_toArray, List.getElem_cons_succ, List.getElem_cons_zero, List.set_cons_succ, List.set_cons_zero])
                      (refine Eg.read Ext.pre (by intro c a d v w h; cases d <;> exact h) (by kernel_rfl) (i := 30) (n := 5) (l := [0, 1, 2, 3, 4, 5, 6, 7, 8, 9, 10, 11, 12, 13, 14, 15, 16, 17, 18, 19, 20, 21, 22, 23, 24, 25, 26, 27, 29, 28]) rfl (by kernel_rfl) (by kernel_rfl) rfl ⟨_, fun w' hR => load_run rfl (load_ni (hR.cell (HX.cell x1))), ?_⟩); (simp only [Act.put, List.setIfInBounds_toArray, List.getElem_toArray, List.getElem_cons_succ, List.getElem_cons_zero, List.set_cons_succ, List.set_cons_zero])
                      refine Eg.batchK Ext.pre (by intro c a d v w h; cases d <;> exact h) (by kernel_rfl) (n := 0) [31, 32, 33, 34, 35] [0, 1, 2, 3, 4, 5, 6, 7, 8, 9, 10, 11, 12, 13, 14, 15, 16, 17, 18, 19, 20, 21, 22, 23, 24, 25, 26, 27, 29, 28, 30] _ (by kernel_rfl) (fun K hK => ?_); (simp only [pickOps, List.getElem?_toArray, List.getElem?_cons_zero, List.getElem?_cons_succ, Option.toList_some, List.cons_append, List.nil_append]); (repeat (first | go_big_quiet_step (fail) | quiet_step (fail))); refine wpQuiet_nil (hK _ ?_); clear hK K
                      refine Eg.finish (by kernel_rfl) ?_
                      have HXm := Lib.hid HX
                      clear HX
                      go_wp2_with fail
                      go_loopw [9] (fun i wx => ∃ j : Nat, j ≤ k ∧ i = .int .i64 (j : Int) ∧ (∀ t, t < j → slotS P t = 0 ∨ slotA P t + slotS P t ≤ a ∨ a + s ≤ slotA P t) ∧ Ext w4 wx) (fun i _ => k - (intOf i).toNat)
                      case atStart => exact ⟨0, Nat.zero_le _, rfl, fun t ht => by omega, HXm.out⟩
                      case round =>
                        obtain ⟨j, hj, rfl, hno, hX⟩ := hrel
                        have HXr := Lib.hid hX
                        have HNO2 := Lib.hid hno
                        clear hX hno
                        by_cases hjk : j < k
                        · have dj : decide ((j : Int) < (k : Int)) = true := decide_eq_true (by omega)
                          obtain ⟨g5, rfl, y0', y1'⟩ := HX5.out.at_ hjk
                          have y0 := HXr.out.cell y0'
                          have y1 := HXr.out.cell y1'
                          have z0 := HXr.out.cell x0
                          have z1 := HXr.out.cell x1
                          have haj16 := slotA_lt P j
                          have hsj16 := slotS_lt P j
                          obtain ⟨aj, haj⟩ : ∃ aj, slotA P j = aj := ⟨_, rfl⟩
                          obtain ⟨sj, hsj⟩ : ∃ sj, slotS P j = sj := ⟨_, rfl⟩
                          have HAJ := Lib.hid haj
                          have HSJ := Lib.hid hsj
                          rw [haj] at y0 haj16
                          rw [hsj] at y1 hsj16
                          clear y0' y1' haj hsj
                          by_cases q1 : 0 < sj
                          · have g1 : decide (0 < sj) = true := decide_eq_true q1
                            have g1' : decide ((0 : Int) < (sj : Int)) = true := decide_eq_true (by omega)
                            by_cases q2 : aj < a + s
                            · have g2 : decide ((aj : Int) < (a : Int) + (s : Int)) = true := decide_eq_true (by omega)
                              by_cases q3 : a < aj + sj
                              · have g3 : decide ((a : Int) < (aj : Int) + (sj : Int)) = true := decide_eq_true (by omega)
                                have hr := HBAD.out k hkn (fun h => by
                                  rcases h with ⟨_, q⟩ | ⟨_, _, _, _, q⟩
                                  · rw [HSE.out] at q; omega
                                  · have := q j hjk
                                    rw [HAE.out, HSE.out, HAJ.out, HSJ.out] at this
                                    omega)
                                go_upto_region 15 with fail
                                refine wp_eager Ext.pre (n := 35) (by kernel_rfl) (by kernel_rfl) ?_
                                refine Eg.batchK Ext.pre (by intro c a d v w h; cases d <;> exact h) (by kernel_rfl) (n := 31) [0, 1, 2, 3] [] _ (by kernel_rfl) (fun K hK => ?_); (simp only [pickOps, List.getElem?_toArray, List.getElem?_cons_zero, List.getElem?_cons_succ, Option.toList_some, List.cons_append, List.nil_append]); (repeat (first | go_big_quiet_step (fail) | quiet_step (fail))); refine wpQuiet_nil (hK _ ?_); clear hK K
                                (refine Eg.read Ext.pre (by intro c a d v w h; cases d <;> exact h) (by kernel_rfl) (i := 4) (n := 30) (l := [0, 1, 2, 3]) rfl (by kernel_rfl) (by kernel_rfl) rfl ⟨_, fun w' hR => load_run rfl (load_ni (hR.cell (a := wr.drew) y1)), ?_⟩); (simp only [Act.put, List.setIfInBounds_toArray, List.getElem_toArray, List.getElem_cons_succ, List.getElem_cons_zero, List.set_cons_succ, List.set_cons_zero])
                                refine Eg.batchK Ext.pre (by intro c a d v w h; cases d <;> exact h) (by kernel_rfl) (n := 22) [5, 6, 7, 8, 9, 10, 12, 14] [0, 1, 2, 3, 4] _ (by kernel_rfl) (fun K hK => ?_); (simp only [pickOps, List.getElem?_toArray, List.getElem?_cons_zero, List.getElem?_cons_succ, Option.toList_some, List.cons_append, List.nil_append]); (repeat (first | go_big_quiet_step (fail) | quiet_step (fail))); refine wpQuiet_nil (hK _ ?_); clear hK K
                                (refine Eg.read Ext.pre (by intro c a d v w h; cases d <;> exact h) (by kernel_rfl) (i := 11) (n := 21) (l := [0, 1, 2, 3, 4, 5, 6, 7, 8, 9, 10, 12, 14]) rfl (by kernel_rfl) (by kernel_rfl) rfl ⟨_, fun w' hR => load_run rfl (load_ni (hR.cell (a := wr.drew) y0)), ?_⟩); (simp only [Act.put, List.setIfInBounds_toArray, List.getElem_toArray, List.getElem_cons_succ, List.getElem_cons_zero, List.set_cons_succ, List.set_cons_zero])
                                (refine Eg.read Ext.pre (by intro c a d v w h; cases d <;> exact h) (by kernel_rfl) (i := 13) (n := 20) (l := [0, 1, 2, 3, 4, 5, 6, 7, 8, 9, 10, 12, 14, 11]) rfl (by kernel_rfl) (by kernel_rfl) rfl ⟨_, fun w' hR => load_run rfl (load_ni (hR.cell (a := wr.drew) z0)), ?_⟩); (simp only [Act.put, List.setIfInBounds_toArray, List.getElem_toArray, List.getElem_cons_succ, List.getElem_cons_zero, List.set_cons_succ, List.set_cons_zero])
                                (refine Eg.read Ext.pre (by intro c a d v w h; cases d <;> exact h) (by kernel_rfl) (i := 15) (n := 19) (l := [0, 1, 2, 3, 4, 5, 6, 7, 8, 9, 10, 12, 14, 11, 13]) rfl (by kernel_rfl) (by kernel_rfl) rfl ⟨_, fun w' hR => load_run rfl (load_ni (hR.cell (a := wr.drew) z1)), ?_⟩); (simp only [Act.put, List.setIfInBounds_toArray, List.getElem_toArray, List.getElem_cons_succ, List.getElem_cons_zero, List.set_cons_succ, List.set_cons_zero])
                                refine Eg.batchK Ext.pre (by intro c a d v w h; cases d <;> exact h) (by kernel_rfl) (n := 6) [16, 17, 18, 19, 20, 22, 23, 24, 25, 27, 28, 29, 30] [0, 1, 2, 3, 4, 5, 6, 7, 8, 9, 10, 12, 14, 11, 13, 15] _ (by kernel_rfl) (fun K hK => ?_); (simp only [pickOps, List.getElem?_toArray, List.getElem?_cons_zero, List.getElem?_cons_succ, Option.toList_some, List.cons_append, List.nil_append]); (repeat (first | go_big_quiet_step (fail) | quiet_step (fail))); refine wpQuiet_nil (hK _ ?_); clear hK K
                                (refine Eg.read Ext.pre (by intro c a d v w h; cases d <;> exact h) (by kernel_rfl) (i := 21) (n := 5) (l := [0, 1, 2, 3, 4, 5, 6, 7, 8, 9, 10, 12, 14, 11, 13, 15, 16, 17, 18, 19, 20, 22, 23, 24, 25, 27, 28, 29, 30]) rfl (by kernel_rfl) (by kernel_rfl) rfl ⟨_, fun w' hR => load_run rfl (load_ni (hR.cell (a := wr.drew) z0)), ?_⟩); (simp only [Act.put, List.setIfInBounds_toArray, List.getElem_toArray, List.getElem_cons_succ, List.getElem_cons_zero, List.set_cons_succ, List.set_cons_zero])
                                (refine Eg.read Ext.pre (by intro c a d v w h; cases d <;> exact h) (by kernel_rfl) (i := 26) (n := 4) (l := [0, 1, 2, 3, 4, 5, 6, 7, 8, 9, 10, 12, 14, 11, 13, 15, 16, 17, 18, 19, 20, 22, 23, 24, 25, 27, 28, 29, 30, 21]) rfl (by kernel_rfl) (by kernel_rfl) rfl ⟨_, fun w' hR => load_run rfl (load_ni (hR.cell (a := wr.drew) y0)), ?_⟩); (simp only [Act.put, List.setIfInBounds_toArray, List.getElem_toArray, List.getElem_cons_succ, List.getElem_cons_zero, List.set_cons_succ, List.set_cons_zero])
                                (refine Eg.read Ext.pre (by intro c a d v w h; cases d <;> exact h) (by kernel_rfl) (i := 31) (n := 3) (l := [0, 1, 2, 3, 4, 5, 6, 7, 8, 9, 10, 12, 14, 11, 13, 15, 16, 17, 18, 19, 20, 22, 23, 24, 25, 27, 28, 29, 30, 21, 26]) rfl (by kernel_rfl) (by kernel_rfl) rfl ⟨_, fun w' hR => load_run rfl (load_ni (hR.cell (a := wr.drew) y1)), ?_⟩); (simp only [Act.put, List.setIfInBounds_toArray, List.getElem_toArray, List.getElem_cons_succ, List.getElem_cons_zero, List.set_cons_succ, List.set_cons_zero])
                                refine Eg.batchK Ext.pre (by intro c a d v w h; cases d <;> exact h) (by kernel_rfl) (n := 0) [32, 33, 34] [0, 1, 2, 3, 4, 5, 6, 7, 8, 9, 10, 12, 14, 11, 13, 15, 16, 17, 18, 19, 20, 22, 23, 24, 25, 27, 28, 29, 30, 21, 26, 31] _ (by kernel_rfl) (fun K hK => ?_); (simp only [pickOps, List.getElem?_toArray, List.getElem?_cons_zero, List.getElem?_cons_succ, Option.toList_some, List.cons_append, List.nil_append]); (repeat (first | go_big_quiet_step (fail) | quiet_step (fail))); refine wpQuiet_nil (hK _ ?_); clear hK K
                                refine Eg.finish (by kernel_rfl) ?_
                                go_wp2_with fail
                                go_ret2
                                exact HNO.out _ hr ((HE4.out.trans HXr.out).drew)
                              · have g3 : decide ((a : Int) < (aj : Int) + (sj : Int)) = false := decide_eq_false (by omega)
                                have HNX : Hid (∀ t, t < j + 1 → slotS P t = 0 ∨ slotA P t + slotS P t ≤ a ∨ a + s ≤ slotA P t) := Lib.hid (fun t ht => by
                                  by_cases e : t = j
                                  · subst e; rw [HAJ.out, HSJ.out]; omega
                                  · exact HNO2.out t (by omega))
                                go_upto_region 15 with fail
                                refine wp_eager Ext.pre (n := 35) (by kernel_rfl) (by kernel_rfl) ?_
                                refine Eg.batchK Ext.pre (by intro c a d v w h; cases d <;> exact h) (by kernel_rfl) (n := 31) [0, 1, 2, 3] [] _ (by kernel_rfl) (fun K hK => ?_); (simp only [pickOps, List.getElem?_toArray, List.getElem?_cons_zero, List.getElem?_cons_succ, Option.toList_some, List.cons_append, List.nil_append]); (repeat (first | go_big_quiet_step (fail) | quiet_step (fail))); refine wpQuiet_nil (hK _ ?_); clear hK K
                                (refine Eg.read Ext.pre (by intro c a d v w h; cases d <;> exact h) (by kernel_rfl) (i := 4) (n := 30) (l := [0, 1, 2, 3]) rfl (by kernel_rfl) (by kernel_rfl) rfl ⟨_, fun w' hR => load_run rfl (load_ni (hR.cell (a := wr.drew) y1)), ?_⟩); (simp only [Act.put, List.setIfInBounds_toArray, List.getElem_toArray, List.getElem_cons_succ, List.getElem_cons_zero, List.set_cons_succ, List.set_cons_zero])
                                refine Eg.batchK Ext.pre (by intro c a d v w h; cases d <;> exact h) (by kernel_rfl) (n := 22) [5, 6, 7, 8, 9, 10, 12, 14] [0, 1, 2, 3, 4] _ (by kernel_rfl) (fun K hK => ?_); (simp only [pickOps, List.getElem?_toArray, List.getElem?_cons_zero, List.getElem?_cons_succ, Option.toList_some, List.cons_append, List.nil_append]); (repeat (first | go_big_quiet_step (fail) | quiet_step (fail))); refine wpQuiet_nil (hK _ ?_); clear hK K
                                (refine Eg.read Ext.pre (by intro c a d v w h; cases d <;> exact h) (by kernel_rfl) (i := 11) (n := 21) (l := [0, 1, 2, 3, 4, 5, 6, 7, 8, 9, 10, 12, 14]) rfl (by kernel_rfl) (by kernel_rfl) rfl ⟨_, fun w' hR => load_run rfl (load_ni (hR.cell (a := wr.drew) y0)), ?_⟩); (simp only [Act.put, List.setIfInBounds_toArray, List.getElem_toArray, List.getElem_cons_succ, List.getElem_cons_zero, List.set_cons_succ, List.set_cons_zero])
                                (refine Eg.read Ext.pre (by intro c a d v w h; cases d <;> exact h) (by kernel_rfl) (i := 13) (n := 20) (l := [0, 1, 2, 3, 4, 5, 6, 7, 8, 9, 10, 12, 14, 11]) rfl (by kernel_rfl) (by kernel_rfl) rfl ⟨_, fun w' hR => load_run rfl (load_ni (hR.cell (a := wr.drew) z0)), ?_⟩); (simp only [Act.put, List.setIfInBounds_toArray, List.getElem_toArray, List.getElem_cons_succ, List.getElem_cons_zero, List.set_cons_succ, List.set_cons_zero])
                                (refine Eg.read Ext.pre (by intro c a d v w h; cases d <;> exact h) (by kernel_rfl) (i := 15) (n := 19) (l := [0, 1, 2, 3, 4, 5, 6, 7, 8, 9, 10, 12, 14, 11, 13]) rfl (by kernel_rfl) (by kernel_rfl) rfl ⟨_, fun w' hR => load_run rfl (load_ni (hR.cell (a := wr.drew) z1)), ?_⟩); (simp only [Act.put, List.setIfInBounds_toArray, List.getElem_toArray, List.getElem_cons_succ, List.getElem_cons_zero, List.set_cons_succ, List.set_cons_zero])
                                refine Eg.batchK Ext.pre (by intro c a d v w h; cases d <;> exact h) (by kernel_rfl) (n := 6) [16, 17, 18, 19, 20, 22, 23, 24, 25, 27, 28, 29, 30] [0, 1, 2, 3, 4, 5, 6, 7, 8, 9, 10, 12, 14, 11, 13, 15] _ (by kernel_rfl) (fun K hK => ?_); (simp only [pickOps, List.getElem?_toArray, List.getElem?_cons_zero, List.getElem?_cons_succ, Option.toList_some, List.cons_append, List.nil_append]); (repeat (first | go_big_quiet_step (fail) | quiet_step (fail))); refine wpQuiet_nil (hK _ ?_); clear hK K
                                (refine Eg.read Ext.pre (by intro c a d v w h; cases d <;> exact h) (by kernel_rfl) (i := 21) (n := 5) (l := [0, 1, 2, 3, 4, 5, 6, 7, 8, 9, 10, 12, 14, 11, 13, 15, 16, 17, 18, 19, 20, 22, 23, 24, 25, 27, 28, 29, 30]) rfl (by kernel_rfl) (by kernel_rfl) rfl ⟨_, fun w' hR => load_run rfl (load_ni (hR.cell (a := wr.drew) z0)), ?_⟩); (simp only [Act.put, List.setIfInBounds_toArray, List.getElem_toArray, List.getElem_cons_succ, List.getElem_cons_zero, List.set_cons_succ, List.set_cons_zero])
                                (refine Eg.read Ext.pre (by intro c a d v w h; cases d <;> exact h) (by kernel_rfl) (i := 26) (n := 4) (l := [0, 1, 2, 3, 4, 5, 6, 7, 8, 9, 10, 12, 14, 11, 13, 15, 16, 17, 18, 19, 20, 22, 23, 24, 25, 27, 28, 29, 30, 21]) rfl (by kernel_rfl) (by kernel_rfl) rfl ⟨_, fun w' hR => load_run rfl (load_ni (hR.cell (a := wr.drew) y0)), ?_⟩); (simp only [Act.put, List.setIfInBounds_toArray, List.getElem_toArray, List.getElem_cons_succ, List.getElem_cons_zero, List.set_cons_succ, List.set_cons_zero])
                                (refine Eg.read Ext.pre (by intro c a d v w h; cases d <;> exact h) (by kernel_rfl) (i := 31) (n := 3) (l := [0, 1, 2, 3, 4, 5, 6, 7, 8, 9, 10, 12, 14, 11, 13, 15, 16, 17, 18, 19, 20, 22, 23, 24, 25, 27, 28, 29, 30, 21, 26]) rfl (by kernel_rfl) (by kernel_rfl) rfl ⟨_, fun w' hR => load_run rfl (load_ni (hR.cell (a := wr.drew) y1)), ?_⟩); (simp only [Act.put, List.setIfInBounds_toArray, List.getElem_toArray, List.getElem_cons_succ, List.getElem_cons_zero, List.set_cons_succ, List.set_cons_zero])
                                refine Eg.batchK Ext.pre (by intro c a d v w h; cases d <;> exact h) (by kernel_rfl) (n := 0) [32, 33, 34] [0, 1, 2, 3, 4, 5, 6, 7, 8, 9, 10, 12, 14, 11, 13, 15, 16, 17, 18, 19, 20, 22, 23, 24, 25, 27, 28, 29, 30, 21, 26, 31] _ (by kernel_rfl) (fun K hK => ?_); (simp only [pickOps, List.getElem?_toArray, List.getElem?_cons_zero, List.getElem?_cons_succ, Option.toList_some, List.cons_append, List.nil_append]); (repeat (first | go_big_quiet_step (fail) | quiet_step (fail))); refine wpQuiet_nil (hK _ ?_); clear hK K
                                refine Eg.finish (by kernel_rfl) ?_
                                go_wp2_with fail
                                exact ⟨⟨j + 1, by omega, by go_num, HNX.out, HXr.out.drew⟩, by simp [intOf]; omega⟩
                            · have g2 : decide ((aj : Int) < (a : Int) + (s : Int)) = false := decide_eq_false (by omega)
                              have HNX : Hid (∀ t, t < j + 1 → slotS P t = 0 ∨ slotA P t + slotS P t ≤ a ∨ a + s ≤ slotA P t) := Lib.hid (fun t ht => by
                                by_cases e : t = j
                                · subst e; rw [HAJ.out, HSJ.out]; omega
                                · exact HNO2.out t (by omega))
                              go_upto_region 15 with fail
                              refine wp_eager Ext.pre (n := 35) (by kernel_rfl) (by kernel_rfl) ?_
                              refine Eg.batchK Ext.pre (by intro c a d v w h; cases d <;> exact h) (by kernel_rfl) (n := 31) [0, 1, 2, 3] [] _ (by kernel_rfl) (fun K hK => ?_); (simp only [pickOps, List.getElem?_toArray, List.getElem?_cons_zero, List.getElem?_cons_succ, Option.toList_some, List.cons_append, List.nil_append]); (repeat (first | go_big_quiet_step (fail) | quiet_step (fail))); refine wpQuiet_nil (hK _ ?_); clear hK K
                              (refine Eg.read Ext.pre (by intro c a d v w h; cases d <;> exact h) (by kernel_rfl) (i := 4) (n := 30) (l := [0, 1, 2, 3]) rfl (by kernel_rfl) (by kernel_rfl) rfl ⟨_, fun w' hR => load_run rfl (load_ni (hR.cell (a := wr.drew) y1)), ?_⟩); (simp only [Act.put, List.setIfInBounds_toArray, List.getElem_toArray, List.getElem_cons_succ, List.getElem_cons_zero, List.set_cons_succ, List.set_cons_zero])
                              refine Eg.batchK Ext.pre (by intro c a d v w h; cases d <;> exact h) (by kernel_rfl) (n := 22) [5, 6, 7, 8, 9, 10, 12, 14] [0, 1, 2, 3, 4] _ (by kernel_rfl) (fun K hK => ?_); (simp only [pickOps, List.getElem?_toArray, List.getElem?_cons_zero, List.getElem?_cons_succ, Option.toList_some, List.cons_append, List.nil_append]); (repeat (first | go_big_quiet_step (fail) | quiet_step (fail))); refine wpQuiet_nil (hK _ ?_); clear hK K
                              (refine Eg.read Ext.pre (by intro c a d v w h; cases d <;> exact h) (by kernel_rfl) (i := 11) (n := 21) (l := [0, 1, 2, 3, 4, 5, 6, 7, 8, 9, 10, 12, 14]) rfl (by kernel_rfl) (by kernel_rfl) rfl ⟨_, fun w' hR => load_run rfl (load_ni (hR.cell (a := wr.drew) y0)), ?_⟩); (simp only [Act.put, List.setIfInBounds_toArray, List.getElem_toArray, List.getElem_cons_succ, List.getElem_cons_zero, List.set_cons_succ, List.set_cons_zero])
                              (refine Eg.read Ext.pre (by intro c a d v w h; cases d <;> exact h) (by kernel_rfl) (i := 13) (n := 20) (l := [0, 1, 2, 3, 4, 5, 6, 7, 8, 9, 10, 12, 14, 11]) rfl (by kernel_rfl) (by kernel_rfl) rfl ⟨_, fun w' hR => load_run rfl (load_ni (hR.cell (a := wr.drew) z0)), ?_⟩); (simp only [Act.put, List.setIfInBounds_toArray, List.getElem_toArray, List.getElem_cons_succ, List.getElem_cons_zero, List.set_cons_succ, List.set_cons_zero])
                              (refine Eg.read Ext.pre (by intro c a d v w h; cases d <;> exact h) (by kernel_rfl) (i := 15) (n := 19) (l := [0, 1, 2, 3, 4, 5, 6, 7, 8, 9, 10, 12, 14, 11, 13]) rfl (by kernel_rfl) (by kernel_rfl) rfl ⟨_, fun w' hR => load_run rfl (load_ni (hR.cell (a := wr.drew) z1)), ?_⟩); (simp only [Act.put, List.setIfInBounds_toArray, List.getElem_toArray, List.getElem_cons_succ, List.getElem_cons_zero, List.set_cons_succ, List.set_cons_zero])
                              refine Eg.batchK Ext.pre (by intro c a d v w h; cases d <;> exact h) (by kernel_rfl) (n := 6) [16, 17, 18, 19, 20, 22, 23, 24, 25, 27, 28, 29, 30] [0, 1, 2, 3, 4, 5, 6, 7, 8, 9, 10, 12, 14, 11, 13, 15] _ (by kernel_rfl) (fun K hK => ?_); (simp only [pickOps, List.getElem?_toArray, List.getElem?_cons_zero, List.getElem?_cons_succ, Option.toList_some, List.cons_append, List.nil_append]); (repeat (first | go_big_quiet_step (fail) | quiet_step (fail))); refine wpQuiet_nil (hK _ ?_); clear hK K
                              (refine Eg.skip Ext.pre (by intro c a d v w h; cases d <;> exact h) (by kernel_rfl) (i := 21) (n := 5) (l := [0, 1, 2, 3, 4, 5, 6, 7, 8, 9, 10, 12, 14, 11, 13, 15, 16, 17, 18, 19, 20, 22, 23, 24, 25, 27, 28, 29, 30]) rfl (by kernel_rfl) (by kernel_rfl) rfl ?_); (simp only [Act.put, List.setIfInBounds_toArray, List.getElem_toArray, List.getElem_cons_succ, List.getElem_cons_zero, List.set_cons_succ, List.set_cons_zero])
                              (refine Eg.skip Ext.pre (by intro c a d v w h; cases d <;> exact h) (by kernel_rfl) (i := 26) (n := 4) (l := [0, 1, 2, 3, 4, 5, 6, 7, 8, 9, 10, 12, 14, 11, 13, 15, 16, 17, 18, 19, 20, 22, 23, 24, 25, 27, 28, 29, 30, 21]) rfl (by kernel_rfl) (by kernel_rfl) rfl ?_); (simp only [Act.put, List.setIfInBounds_toArray, List.getElem_toArray, List.getElem_cons_succ, List.getElem_cons_zero, List.set_cons_succ, List.set_cons_zero])
                              (refine Eg.skip Ext.pre (by intro c a d v w h; cases d <;> exact h) (by kernel_rfl) (i := 31) (n := 3) (l := [0, 1, 2, 3, 4, 5, 6, 7, 8, 9, 10, 12, 14, 11, 13, 15, 16, 17, 18, 19, 20, 22, 23, 24, 25, 27, 28, 29, 30, 21, 26]) rfl (by kernel_rfl) (by kernel_rfl) rfl ?_); (simp only [Act.put, List.setIfInBounds_toArray, List.getElem_toArray, List.getElem_cons_succ, List.getElem_cons_zero, List.set_cons_succ, List.set_cons_zero])
                              refine Eg.batchK Ext.pre (by intro c a d v w h; cases d <;> exact h) (by kernel_rfl) (n := 0) [32, 33, 34] [0, 1, 2, 3, 4, 5, 6, 7, 8, 9, 10, 12, 14, 11, 13, 15, 16, 17, 18, 19, 20, 22, 23, 24, 25, 27, 28, 29, 30, 21, 26, 31] _ (by kernel_rfl) (fun K hK => ?_); (simp only [pickOps, List.getElem?_toArray, List.getElem?_cons_zero, List.getElem?_cons_succ, Option.toList_some, List.cons_append, List.nil_append]); (repeat (first | go_big_quiet_step (fail) | quiet_step (fail))); refine wpQuiet_nil (hK _ ?_); clear hK K
                              refine Eg.finish (by kernel_rfl) ?_
                              go_wp2_with fail
                              exact ⟨⟨j + 1, by omega, by go_num, HNX.out, HXr.out.drew⟩, by simp [intOf]; omega⟩
                          · have g1 : decide (0 < sj) = false := decide_eq_false q1
                            have g1' : decide ((0 : Int) < (sj : Int)) = false := decide_eq_false (by omega)
                            have HNX : Hid (∀ t, t < j + 1 → slotS P t = 0 ∨ slotA P t + slotS P t ≤ a ∨ a + s ≤ slotA P t) := Lib.hid (fun t ht => by
                              by_cases e : t = j
                              · subst e; rw [HAJ.out, HSJ.out]; omega
                              · exact HNO2.out t (by omega))
                            go_upto_region 15 with fail
                            refine wp_eager Ext.pre (n := 35) (by kernel_rfl) (by kernel_rfl) ?_
                            refine Eg.batchK Ext.pre (by intro c a d v w h; cases d <;> exact h) (by kernel_rfl) (n := 31) [0, 1, 2, 3] [] _ (by kernel_rfl) (fun K hK => ?_); (simp only [pickOps, List.getElem?_toArray, List.getElem?_cons_zero, List.getElem?_cons_succ, Option.toList_some, List.cons_append, List.nil_append]); (repeat (first | go_big_quiet_step (fail) | quiet_step (fail))); refine wpQuiet_nil (hK _ ?_); clear hK K
                            (refine Eg.read Ext.pre (by intro c a d v w h; cases d <;> exact h) (by kernel_rfl) (i := 4) (n := 30) (l := [0, 1, 2, 3]) rfl (by kernel_rfl) (by kernel_rfl) rfl ⟨_, fun w' hR => load_run rfl (load_ni (hR.cell (a := wr.drew) y1)), ?_⟩); (simp only [Act.put, List.setIfInBounds_toArray, List.getElem_toArray, List.getElem_cons_succ, List.getElem_cons_zero, List.set_cons_succ, List.set_cons_zero])
                            refine Eg.batchK Ext.pre (by intro c a d v w h; cases d <;> exact h) (by kernel_rfl) (n := 22) [5, 6, 7, 8, 9, 10, 12, 14] [0, 1, 2, 3, 4] _ (by kernel_rfl) (fun K hK => ?_); (simp only [pickOps, List.getElem?_toArray, List.getElem?_cons_zero, List.getElem?_cons_succ, Option.toList_some, List.cons_append, List.nil_append]); (repeat (first | go_big_quiet_step (fail) | quiet_step (fail))); refine wpQuiet_nil (hK _ ?_); clear hK K
                            (refine Eg.skip Ext.pre (by intro c a d v w h; cases d <;> exact h) (by kernel_rfl) (i := 11) (n := 21) (l := [0, 1, 2, 3, 4, 5, 6, 7, 8, 9, 10, 12, 14]) rfl (by kernel_rfl) (by kernel_rfl) rfl ?_); (simp only [Act.put, List.setIfInBounds_toArray, List.getElem_toArray, List.getElem_cons_succ, List.getElem_cons_zero, List.set_cons_succ, List.set_cons_zero])
                            (refine Eg.skip Ext.pre (by intro c a d v w h; cases d <;> exact h) (by kernel_rfl) (i := 13) (n := 20) (l := [0, 1, 2, 3, 4, 5, 6, 7, 8, 9, 10, 12, 14, 11]) rfl (by kernel_rfl) (by kernel_rfl) rfl ?_); (simp only [Act.put, List.setIfInBounds_toArray, List.getElem_toArray, List.getElem_cons_succ, List.getElem_cons_zero, List.set_cons_succ, List.set_cons_zero])
                            (refine Eg.skip Ext.pre (by intro c a d v w h; cases d <;> exact h) (by kernel_rfl) (i := 15) (n := 19) (l := [0, 1, 2, 3, 4, 5, 6, 7, 8, 9, 10, 12, 14, 11, 13]) rfl (by kernel_rfl) (by kernel_rfl) rfl ?_); (simp only [Act.put, List.setIfInBounds_toArray, List.getElem_toArray, List.getElem_cons_succ, List.getElem_cons_zero, List.set_cons_succ, List.set_cons_zero])
                            refine Eg.batchK Ext.pre (by intro c a d v w h; cases d <;> exact h) (by kernel_rfl) (n := 6) [16, 17, 18, 19, 20, 22, 23, 24, 25, 27, 28, 29, 30] [0, 1, 2, 3, 4, 5, 6, 7, 8, 9, 10, 12, 14, 11, 13, 15] _ (by kernel_rfl) (fun K hK => ?_); (simp only [pickOps, List.getElem?_toArray, List.getElem?_cons_zero, List.getElem?_cons_succ, Option.toList_some, List.cons_append, List.nil_append]); (repeat (first | go_big_quiet_step (fail) | quiet_step (fail))); refine wpQuiet_nil (hK _ ?_); clear hK K
                            (refine Eg.skip Ext.pre (by intro c a d v w h; cases d <;> exact h) (by kernel_rfl) (i := 21) (n := 5) (l := [0, 1, 2, 3, 4, 5, 6, 7, 8, 9, 10, 12, 14, 11, 13, 15, 16, 17, 18, 19, 20, 22, 23, 24, 25, 27, 28, 29, 30]) rfl (by kernel_rfl) (by kernel_rfl) rfl ?_); (simp only [Act.put, List.setIfInBounds_toArray, List.getElem_toArray, List.getElem_cons_succ, List.getElem_cons_zero, List.set_cons_succ, List.set_cons_zero])
                            (refine Eg.skip Ext.pre (by intro c a d v w h; cases d <;> exact h) (by kernel_rfl) (i := 26) (n := 4) (l := [0, 1, 2, 3, 4, 5, 6, 7, 8, 9, 10, 12, 14, 11, 13, 15, 16, 17, 18, 19, 20, 22, 23, 24, 25, 27, 28, 29, 30, 21]) rfl (by kernel_rfl) (by kernel_rfl) rfl ?_); (simp only [Act.put, List.setIfInBounds_toArray, List.getElem_toArray, List.getElem_cons_succ, List.getElem_cons_zero, List.set_cons_succ, List.set_cons_zero])
                            (refine Eg.skip Ext.pre (by intro c a d v w h; cases d <;> exact h) (by kernel_rfl) (i := 31) (n := 3) (l := [0, 1, 2, 3, 4, 5, 6, 7, 8, 9, 10, 12, 14, 11, 13, 15, 16, 17, 18, 19, 20, 22, 23, 24, 25, 27, 28, 29, 30, 21, 26]) rfl (by kernel_rfl) (by kernel_rfl) rfl ?_); (simp only [Act.put, List.setIfInBounds_toArray, List.getElem_toArray, List.getElem_cons_succ, List.getElem_cons_zero, List.set_cons_succ, List.set_cons_zero])
                            refine Eg.batchK Ext.pre (by intro c a d v w h; cases d <;> exact h) (by kernel_rfl) (n := 0) [32, 33, 34] [0, 1, 2, 3, 4, 5, 6, 7, 8, 9, 10, 12, 14, 11, 13, 15, 16, 17, 18, 19, 20, 22, 23, 24, 25, 27, 28, 29, 30, 21, 26, 31] _ (by kernel_rfl) (fun K hK => ?_); (simp only [pickOps, List.getElem?_toArray, List.getElem?_cons_zero, List.getElem?_cons_succ, Option.toList_some, List.cons_append, List.nil_append]); (repeat (first | go_big_quiet_step (fail) | quiet_step (fail))); refine wpQuiet_nil (hK _ ?_); clear hK K
                            refine Eg.finish (by kernel_rfl) ?_
                            go_wp2_with fail
                            exact ⟨⟨j + 1, by omega, by go_num, HNX.out, HXr.out.drew⟩, by simp [intOf]; omega⟩
                        · obtain rfl : j = k := by omega
                          have dj : decide ((j : Int) < (j : Int)) = false := decide_eq_false (by omega)
                          have HOKk : Hid (∀ i, i < j + 1 → OkV P i) := Lib.hid (fun i hi => by
                            by_cases e : i = j
                            · subst e; right; rw [HAE.out, HSE.out, HFR.out]; exact ⟨by omega, by omega, by omega, by omega, HNO2.out⟩
                            · exact HA.out i (by omega))
                          have HBr := HBs.out.ext HXr.out
                          obtain ⟨z0, z1⟩ := cell2 HBr
                          have HRr := Lib.hid (World.ownsRow.kept HR4.out (ext_grown HXr.out none) (by cases (Value.slice A5 j c5).ownBlock <;> simp))
                          have HOW := Lib.hid (World.ownsRow.alloc HRr.out (.cells #[.int .i64 (a : Int), .int .i64 (s : Int)] 128))
                          have HNW := Lib.hid (blk_news2 (Blk.new wr 128 #[.int .i64 (a : Int), .int .i64 (s : Int)]))
                          have HEr := Lib.hid ((HE4.out.trans HXr.out).trans (ext_new wr (.cells #[.int .i64 (a : Int), .int .i64 (s : Int)] 128)))
                          have HPr := Lib.hid ((HP4.out.ext HXr.out).ext (ext_new wr (.cells #[.int .i64 (a : Int), .int .i64 (s : Int)] 128)))
                          have HLTr := Lib.hid (World.ownsRow.lt HRr.out)
                          have HSZ : Hid (w.heap.size + 1 ≤ (wr.alloc (.cells #[.int .i64 (a : Int), .int .i64 (s : Int)] 128)).heap.size) := Lib.hid HPr.out.blk.lt
                          have HSV : Hid (slV P (j + 1) = slV P j ++ [.int .i64 (a : Int), .int .i64 (s : Int)]) := Lib.hid (by show slV P j ++ _ = _; rw [HAE.out, HSE.out])
                          clear HBr
                          go_wp2_with (at_builtin; refine wpList_append_own_at _ rfl _ _ _ rfl (w.heap.size + 1) 128 i0 (.agg #[.int .i64 0, .int .i64 0]) 2 16 Try.underlying94 hi hz0 hz1 hz2 rfl (by omega) _ j (slV P j) rfl HOW.out ⟨wr.heap.size, 0, none⟩ 1 1 [.int .i64 (a : Int), .int .i64 (s : Int)] rfl rfl HNW.out (by intro u hu; simp at hu; rcases hu with rfl | rfl <;> rfl) (by unfold maxLen; omega) (by omega) HSZ.out ?_; intro vN wN hownN hGN hnilN hatN; have HOWN := Lib.hid hownN; have HGN := Lib.hid hGN; clear hownN hGN hnilN hatN)
                          refine ⟨⟨j + 1, by omega, by go_num, by rw [HSV.out]; exact HOWN.out, HOKk.out, fun _ _ => by rw [show j + 1 - 1 = j by omega, HSE.out]; omega, ⟨HPr.out.blk.grown HGN.out (fun e => by
                            have h1 := HLT4.out _ e.symm
                            have h2 := HPw.out
                            omega), HPL.out⟩, HEr.out.grown HGN.out (fun k e => Nat.le_of_succ_le (HLTr.out k e).1)⟩, by simp [intOf]; omega⟩
        · obtain rfl : k = n := by omega
          have hd : decide ((k : Int) < (k : Int)) = false := decide_eq_false (by omega)
          have hr : rightB P = true := HALL.out (by omega) (by omega) HA.out (by
            rcases Nat.eq_zero_or_pos k with h | h
            · exact .inl h
            · exact .inr (HL.out h rfl))
          go_wp2_with fail
          go_ret2
          exact HYES.out _ hr _ HR.out HEk.out

end Go.Proofs.Ytgbfeagoadlhmaa
