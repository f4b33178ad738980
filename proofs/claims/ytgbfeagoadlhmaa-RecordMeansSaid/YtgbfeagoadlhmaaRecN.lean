
/-
  record.coder, where it reads: what each kind names (by recn.py).
-/
import Derived.Test.YtgbfeagoadlhmaaRecM
set_option linter.unusedVariables false
set_option linter.unusedSimpArgs false
namespace Go.Proofs.Ytgbfeagoadlhmaa
open Go.RowKit Pl

attribute [local go_sem] Oper.semAt_some

/-- the coder's block is as it was -/
def GcR (gc : Nat) (w w' : World) : Prop := w'.heap[gc]? = w.heap[gc]?
theorem gc_pre (gc : Nat) : Pre (GcR gc) := ⟨fun _ => rfl, fun h k => k.trans h⟩
theorem GcR.ptr {w w' : World} {gr gc rd : Nat} {cs : Array Value} {s : Option (List UInt8)} (hR : GcR gc w w') (h : Ci w gr gc rd cs s) : w'.cell? ⟨gc, 0, none⟩ = some (.pointer (some ⟨gr, 0, none⟩)) := by
  have hb : Blk w' gc 112 #[.pointer (some ⟨gr, 0, none⟩), .slice none 0 0, .pointer (some ⟨rd, 0, none⟩)] := hR.trans h.co
  rw [hb.cell]; rfl
theorem gc_same {w w' : World} {gr gc rd : Nat} {cs cs' : Array Value} {s s' : Option (List UInt8)} (h : Ci w gr gc rd cs s) (h' : Ci w' gr gc rd cs' s') : GcR gc w w' := by
  have h1 := h.co
  have h2 := h'.co
  unfold Blk at h1 h2
  unfold GcR
  rw [h1, h2]
theorem Nums.far {w : World} {S : Option Addr} {u : List Nat} (h : Nums w S u) {g : Nat} (hS : ∀ b o, S = some ⟨b, o, none⟩ → b ≠ g) (i : Nat) (x : Value) : Nums (w.setCell ⟨g, i, none⟩ x) S u := by
  rcases h with h | ⟨b, o, rfl, hc⟩
  · exact .inl h
  · refine .inr ⟨b, o, rfl, fun j hj => ?_⟩
    rw [World.cell?_of_block (w := w) (heap_setCell_other w ⟨g, i, none⟩ b x (hS b o rfl))]
    exact hc j hj

set_option maxHeartbeats 3200000 in
set_option maxRecDepth 100000 in
theorem change_ci (w : World) (gr gc rd : Nat) (kd : Int) (x : Nat) (pg : Nat) (of : Nat) (bl : List UInt8) (h_xid : x < 18446744073709551616) (h_page : pg < 65536) (h_off : of < 65536) (h_b : bl.length ≤ 65535) (h : Ci w gr gc rd #[.int .i64 kd, .int .u64 0, .int .i64 0, .int .i64 0, .slice none 0 0, .slice none 0 0, .int .u64 0, .int .u64 0, .int .u64 0] (some (put x 8 ++ (put pg 2 ++ (put of 2 ++ (blob bl ++ ([] : List UInt8))))))) :
    Calls Try.prog 89 #[.pointer (some ⟨gc, 0, none⟩)] w fun e w' => (∃ x, e = .returned x) ∧ ∃ A4 c4 A5 c5, Ci w' gr gc rd (recC ⟨kd, x, (pg : Int), (of : Int), bl, [], 0, 0, 0⟩ A4 c4 A5 c5) (some []) ∧ By w' A4 (bl : List UInt8) ∧ (bl : List UInt8).length ≤ c4 ∧ Nums w' A5 ([] : List Nat) ∧ ([] : List Nat).length ≤ c5 ∧ (∀ b o, A5 = some ⟨b, o, none⟩ → w.heap.size ≤ b) ∧ OthR gr rd w w' := by
  have HC0 := Lib.hid h
  have HT0 := Lib.hid (OthR.refl gr rd w)
  clear h
  go_enter Try.func89, Try.ntmps89
  have K0 := number_ci _ gr gc rd _ x 8 0 (put pg 2 ++ (put of 2 ++ (blob bl ++ ([] : List UInt8)))) (by omega) (by omega) (by omega) HC0.out.drew
  rw [show ((8 : Nat) : Int) = 8 from rfl] at K0
  have K0 := Lib.hid K0
  have hx0 : w.drew.cell? ⟨gr, 1, none⟩ = some (.int .u64 0) := by rw [HC0.out.drew.rc.cell]; rfl
  go_upto_region 0 with fail
  refine wp_eager (gc_pre gc) (n := 16) (by kernel_rfl) (by kernel_rfl) ?_
  refine Eg.batchK (gc_pre gc) (by intro c a d v w h; cases d <;> exact h) (by kernel_rfl) (n := 9) [0, 1, 2, 4, 5, 6, 7] [] _ (by kernel_rfl) (fun K hK => ?_); (simp only [pickOps, List.getElem?_toArray, List.getElem?_cons_zero, List.getElem?_cons_succ, Option.toList_some, List.cons_append, List.nil_append]); (repeat (first | go_big_quiet_step (fail) | quiet_step (fail))); refine wpQuiet_nil (hK _ ?_); clear hK K
  (refine Eg.read (gc_pre gc) (by intro c a d v w h; cases d <;> exact h) (by kernel_rfl) (i := 3) (n := 8) (l := [0, 1, 2, 4, 5, 6, 7]) rfl (by kernel_rfl) (by kernel_rfl) rfl ⟨_, fun w' hR => load_run rfl (load_ptrR (GcR.ptr hR HC0.out.drew)), ?_⟩); (simp only [Act.put, List.setIfInBounds_toArray, List.getElem_toArray, List.getElem_cons_succ, List.getElem_cons_zero, List.set_cons_succ, List.set_cons_zero])
  (refine Eg.read (gc_pre gc) (by intro c a d v w h; cases d <;> exact h) (by kernel_rfl) (i := 8) (n := 7) (l := [0, 1, 2, 4, 5, 6, 7, 3]) rfl (by kernel_rfl) (by kernel_rfl) rfl ⟨_, fun w' hR => load_run rfl (load_ptrR (GcR.ptr hR HC0.out.drew)), ?_⟩); (simp only [Act.put, List.setIfInBounds_toArray, List.getElem_toArray, List.getElem_cons_succ, List.getElem_cons_zero, List.set_cons_succ, List.set_cons_zero])
  refine Eg.batchK (gc_pre gc) (by intro c a d v w h; cases d <;> exact h) (by kernel_rfl) (n := 5) [9, 10] [0, 1, 2, 4, 5, 6, 7, 3, 8] _ (by kernel_rfl) (fun K hK => ?_); (simp only [pickOps, List.getElem?_toArray, List.getElem?_cons_zero, List.getElem?_cons_succ, Option.toList_some, List.cons_append, List.nil_append]); (repeat (first | go_big_quiet_step (fail) | quiet_step (fail))); refine wpQuiet_nil (hK _ ?_); clear hK K
  refine Eg.act (gc_pre gc) (i := 11) (n := 4) (l := [0, 1, 2, 4, 5, 6, 7, 3, 8, 9, 10]) rfl (by kernel_rfl) ?_
  go_wp2_with (refine wpList_run_gR rfl _ (load_run rfl (load_u64 hx0)) ?_)
  refine ⟨(gc_pre gc).refl _, ?_⟩
  refine Eg.act (gc_pre gc) (i := 12) (n := 3) (l := [0, 1, 2, 4, 5, 6, 7, 3, 8, 9, 10, 11]) rfl (by kernel_rfl) ?_
  go_wp2_with fail
  refine K0.out.mono ?_
  rintro e wa0 ⟨rfl, hCa, hUa⟩
  have HTa := Lib.hid (OthR.push (HT0.out.drew) hUa.grown (fun r e => by cases e; exact .inr (.inl rfl)))
  have hxa : wa0.cell? ⟨gr, 1, none⟩ = some (.int .u64 0) := by rw [hCa.rc.cell]; rfl
  have hfa := hCa.rc.frozen 1
  have HGa := Lib.hid (gc_same HC0.out.drew hCa)
  have HCn := Lib.hid (hCa.set (noByteR _ _ _ _ _ _ _ _ _ _ _ _ _) 1 (.int .u64 (x : Int)))
  have HGb := Lib.hid (gc_same hCa HCn.out)
  clear hCa hUa
  go_wp2_with fail
  refine ⟨HGa.out, ?_⟩
  refine Eg.batchK (gc_pre gc) (by intro c a d v w h; cases d <;> exact h) (by kernel_rfl) (n := 1) [13, 14] [0, 1, 2, 4, 5, 6, 7, 3, 8, 9, 10, 11, 12] _ (by kernel_rfl) (fun K hK => ?_); (simp only [pickOps, List.getElem?_toArray, List.getElem?_cons_zero, List.getElem?_cons_succ, Option.toList_some, List.cons_append, List.nil_append]); (repeat (first | go_big_quiet_step (fail) | quiet_step (fail))); refine wpQuiet_nil (hK _ ?_); clear hK K
  refine Eg.act (gc_pre gc) (i := 15) (n := 0) (l := [0, 1, 2, 4, 5, 6, 7, 3, 8, 9, 10, 11, 12, 13, 14]) rfl (by kernel_rfl) ?_
  go_wp2_with fail
  refine ⟨HGb.out, ?_⟩
  refine Eg.finish (by kernel_rfl) ?_
  have HC1 : Hid (Ci (wa0.setCell ⟨gr, 1, none⟩ (.int .u64 (x : Int))) gr gc rd #[.int .i64 kd, .int .u64 (x : Int), .int .i64 0, .int .i64 0, .slice none 0 0, .slice none 0 0, .int .u64 0, .int .u64 0, .int .u64 0] (some (put pg 2 ++ (put of 2 ++ (blob bl ++ ([] : List UInt8)))))) := Lib.hid HCn.out
  have HT1 := Lib.hid (HTa.out.push (grown_cell wa0 ⟨gr, 1, none⟩ (.int .u64 (x : Int))) (fun r e => by cases e; exact .inl rfl))
  clear K0 hx0 HC0 HT0 HTa hxa hfa HGa HCn HGb
  obtain ⟨w_1, hw_1⟩ : ∃ W, wa0.setCell ⟨gr, 1, none⟩ (.int .u64 (x : Int)) = W := ⟨_, rfl⟩
  rw [hw_1] at HC1 HT1 ⊢
  clear hw_1
  have K1 := place_ci _ gr gc rd _ pg 0 (put of 2 ++ (blob bl ++ ([] : List UInt8))) (by omega) (by omega) HC1.out.drew
  rw [show ((0 : Nat) : Int) = 0 from rfl] at K1
  have K1 := Lib.hid K1
  have hx1 : w_1.drew.cell? ⟨gr, 2, none⟩ = some (.int .i64 0) := by rw [HC1.out.drew.rc.cell]; rfl
  go_upto_region 1 with fail
  refine wp_eager (gc_pre gc) (n := 16) (by kernel_rfl) (by kernel_rfl) ?_
  refine Eg.batchK (gc_pre gc) (by intro c a d v w h; cases d <;> exact h) (by kernel_rfl) (n := 9) [0, 1, 2, 4, 5, 6, 7] [] _ (by kernel_rfl) (fun K hK => ?_); (simp only [pickOps, List.getElem?_toArray, List.getElem?_cons_zero, List.getElem?_cons_succ, Option.toList_some, List.cons_append, List.nil_append]); (repeat (first | go_big_quiet_step (fail) | quiet_step (fail))); refine wpQuiet_nil (hK _ ?_); clear hK K
  (refine Eg.read (gc_pre gc) (by intro c a d v w h; cases d <;> exact h) (by kernel_rfl) (i := 3) (n := 8) (l := [0, 1, 2, 4, 5, 6, 7]) rfl (by kernel_rfl) (by kernel_rfl) rfl ⟨_, fun w' hR => load_run rfl (load_ptrR (GcR.ptr hR HC1.out.drew)), ?_⟩); (simp only [Act.put, List.setIfInBounds_toArray, List.getElem_toArray, List.getElem_cons_succ, List.getElem_cons_zero, List.set_cons_succ, List.set_cons_zero])
  (refine Eg.read (gc_pre gc) (by intro c a d v w h; cases d <;> exact h) (by kernel_rfl) (i := 8) (n := 7) (l := [0, 1, 2, 4, 5, 6, 7, 3]) rfl (by kernel_rfl) (by kernel_rfl) rfl ⟨_, fun w' hR => load_run rfl (load_ptrR (GcR.ptr hR HC1.out.drew)), ?_⟩); (simp only [Act.put, List.setIfInBounds_toArray, List.getElem_toArray, List.getElem_cons_succ, List.getElem_cons_zero, List.set_cons_succ, List.set_cons_zero])
  refine Eg.batchK (gc_pre gc) (by intro c a d v w h; cases d <;> exact h) (by kernel_rfl) (n := 5) [9, 10] [0, 1, 2, 4, 5, 6, 7, 3, 8] _ (by kernel_rfl) (fun K hK => ?_); (simp only [pickOps, List.getElem?_toArray, List.getElem?_cons_zero, List.getElem?_cons_succ, Option.toList_some, List.cons_append, List.nil_append]); (repeat (first | go_big_quiet_step (fail) | quiet_step (fail))); refine wpQuiet_nil (hK _ ?_); clear hK K
  refine Eg.act (gc_pre gc) (i := 11) (n := 4) (l := [0, 1, 2, 4, 5, 6, 7, 3, 8, 9, 10]) rfl (by kernel_rfl) ?_
  go_wp2_with (refine wpList_run_gR rfl _ (load_run rfl (load_int hx1)) ?_)
  refine ⟨(gc_pre gc).refl _, ?_⟩
  refine Eg.act (gc_pre gc) (i := 12) (n := 3) (l := [0, 1, 2, 4, 5, 6, 7, 3, 8, 9, 10, 11]) rfl (by kernel_rfl) ?_
  go_wp2_with fail
  refine K1.out.mono ?_
  rintro e wa1 ⟨rfl, hCa, hUa⟩
  have HTa := Lib.hid (OthR.push (HT1.out.drew) hUa.grown (fun r e => by cases e; exact .inr (.inl rfl)))
  have hxa : wa1.cell? ⟨gr, 2, none⟩ = some (.int .i64 0) := by rw [hCa.rc.cell]; rfl
  have hfa := hCa.rc.frozen 2
  have HGa := Lib.hid (gc_same HC1.out.drew hCa)
  have HCn := Lib.hid (hCa.set (noByteR _ _ _ _ _ _ _ _ _ _ _ _ _) 2 (.int .i64 (pg : Int)))
  have HGb := Lib.hid (gc_same hCa HCn.out)
  clear hCa hUa
  go_wp2_with fail
  refine ⟨HGa.out, ?_⟩
  refine Eg.batchK (gc_pre gc) (by intro c a d v w h; cases d <;> exact h) (by kernel_rfl) (n := 1) [13, 14] [0, 1, 2, 4, 5, 6, 7, 3, 8, 9, 10, 11, 12] _ (by kernel_rfl) (fun K hK => ?_); (simp only [pickOps, List.getElem?_toArray, List.getElem?_cons_zero, List.getElem?_cons_succ, Option.toList_some, List.cons_append, List.nil_append]); (repeat (first | go_big_quiet_step (fail) | quiet_step (fail))); refine wpQuiet_nil (hK _ ?_); clear hK K
  refine Eg.act (gc_pre gc) (i := 15) (n := 0) (l := [0, 1, 2, 4, 5, 6, 7, 3, 8, 9, 10, 11, 12, 13, 14]) rfl (by kernel_rfl) ?_
  go_wp2_with fail
  refine ⟨HGb.out, ?_⟩
  refine Eg.finish (by kernel_rfl) ?_
  have HC2 : Hid (Ci (wa1.setCell ⟨gr, 2, none⟩ (.int .i64 (pg : Int))) gr gc rd #[.int .i64 kd, .int .u64 (x : Int), .int .i64 (pg : Int), .int .i64 0, .slice none 0 0, .slice none 0 0, .int .u64 0, .int .u64 0, .int .u64 0] (some (put of 2 ++ (blob bl ++ ([] : List UInt8))))) := Lib.hid HCn.out
  have HT2 := Lib.hid (HTa.out.push (grown_cell wa1 ⟨gr, 2, none⟩ (.int .i64 (pg : Int))) (fun r e => by cases e; exact .inl rfl))
  clear K1 hx1 HC1 HT1 HTa hxa hfa HGa HCn HGb
  obtain ⟨w_2, hw_2⟩ : ∃ W, wa1.setCell ⟨gr, 2, none⟩ (.int .i64 (pg : Int)) = W := ⟨_, rfl⟩
  rw [hw_2] at HC2 HT2 ⊢
  clear hw_2
  have K2 := place_ci _ gr gc rd _ of 0 (blob bl ++ ([] : List UInt8)) (by omega) (by omega) HC2.out.drew
  rw [show ((0 : Nat) : Int) = 0 from rfl] at K2
  have K2 := Lib.hid K2
  have hx2 : w_2.drew.cell? ⟨gr, 3, none⟩ = some (.int .i64 0) := by rw [HC2.out.drew.rc.cell]; rfl
  go_upto_region 2 with fail
  refine wp_eager (gc_pre gc) (n := 16) (by kernel_rfl) (by kernel_rfl) ?_
  refine Eg.batchK (gc_pre gc) (by intro c a d v w h; cases d <;> exact h) (by kernel_rfl) (n := 9) [0, 1, 2, 4, 5, 6, 7] [] _ (by kernel_rfl) (fun K hK => ?_); (simp only [pickOps, List.getElem?_toArray, List.getElem?_cons_zero, List.getElem?_cons_succ, Option.toList_some, List.cons_append, List.nil_append]); (repeat (first | go_big_quiet_step (fail) | quiet_step (fail))); refine wpQuiet_nil (hK _ ?_); clear hK K
  (refine Eg.read (gc_pre gc) (by intro c a d v w h; cases d <;> exact h) (by kernel_rfl) (i := 3) (n := 8) (l := [0, 1, 2, 4, 5, 6, 7]) rfl (by kernel_rfl) (by kernel_rfl) rfl ⟨_, fun w' hR => load_run rfl (load_ptrR (GcR.ptr hR HC2.out.drew)), ?_⟩); (simp only [Act.put, List.setIfInBounds_toArray, List.getElem_toArray, List.getElem_cons_succ, List.getElem_cons_zero, List.set_cons_succ, List.set_cons_zero])
  (refine Eg.read (gc_pre gc) (by intro c a d v w h; cases d <;> exact h) (by kernel_rfl) (i := 8) (n := 7) (l := [0, 1, 2, 4, 5, 6, 7, 3]) rfl (by kernel_rfl) (by kernel_rfl) rfl ⟨_, fun w' hR => load_run rfl (load_ptrR (GcR.ptr hR HC2.out.drew)), ?_⟩); (simp only [Act.put, List.setIfInBounds_toArray, List.getElem_toArray, List.getElem_cons_succ, List.getElem_cons_zero, List.set_cons_succ, List.set_cons_zero])
  refine Eg.batchK (gc_pre gc) (by intro c a d v w h; cases d <;> exact h) (by kernel_rfl) (n := 5) [9, 10] [0, 1, 2, 4, 5, 6, 7, 3, 8] _ (by kernel_rfl) (fun K hK => ?_); (simp only [pickOps, List.getElem?_toArray, List.getElem?_cons_zero, List.getElem?_cons_succ, Option.toList_some, List.cons_append, List.nil_append]); (repeat (first | go_big_quiet_step (fail) | quiet_step (fail))); refine wpQuiet_nil (hK _ ?_); clear hK K
  refine Eg.act (gc_pre gc) (i := 11) (n := 4) (l := [0, 1, 2, 4, 5, 6, 7, 3, 8, 9, 10]) rfl (by kernel_rfl) ?_
  go_wp2_with (refine wpList_run_gR rfl _ (load_run rfl (load_int hx2)) ?_)
  refine ⟨(gc_pre gc).refl _, ?_⟩
  refine Eg.act (gc_pre gc) (i := 12) (n := 3) (l := [0, 1, 2, 4, 5, 6, 7, 3, 8, 9, 10, 11]) rfl (by kernel_rfl) ?_
  go_wp2_with fail
  refine K2.out.mono ?_
  rintro e wa2 ⟨rfl, hCa, hUa⟩
  have HTa := Lib.hid (OthR.push (HT2.out.drew) hUa.grown (fun r e => by cases e; exact .inr (.inl rfl)))
  have hxa : wa2.cell? ⟨gr, 3, none⟩ = some (.int .i64 0) := by rw [hCa.rc.cell]; rfl
  have hfa := hCa.rc.frozen 3
  have HGa := Lib.hid (gc_same HC2.out.drew hCa)
  have HCn := Lib.hid (hCa.set (noByteR _ _ _ _ _ _ _ _ _ _ _ _ _) 3 (.int .i64 (of : Int)))
  have HGb := Lib.hid (gc_same hCa HCn.out)
  clear hCa hUa
  go_wp2_with fail
  refine ⟨HGa.out, ?_⟩
  refine Eg.batchK (gc_pre gc) (by intro c a d v w h; cases d <;> exact h) (by kernel_rfl) (n := 1) [13, 14] [0, 1, 2, 4, 5, 6, 7, 3, 8, 9, 10, 11, 12] _ (by kernel_rfl) (fun K hK => ?_); (simp only [pickOps, List.getElem?_toArray, List.getElem?_cons_zero, List.getElem?_cons_succ, Option.toList_some, List.cons_append, List.nil_append]); (repeat (first | go_big_quiet_step (fail) | quiet_step (fail))); refine wpQuiet_nil (hK _ ?_); clear hK K
  refine Eg.act (gc_pre gc) (i := 15) (n := 0) (l := [0, 1, 2, 4, 5, 6, 7, 3, 8, 9, 10, 11, 12, 13, 14]) rfl (by kernel_rfl) ?_
  go_wp2_with fail
  refine ⟨HGb.out, ?_⟩
  refine Eg.finish (by kernel_rfl) ?_
  have HC3 : Hid (Ci (wa2.setCell ⟨gr, 3, none⟩ (.int .i64 (of : Int))) gr gc rd #[.int .i64 kd, .int .u64 (x : Int), .int .i64 (pg : Int), .int .i64 (of : Int), .slice none 0 0, .slice none 0 0, .int .u64 0, .int .u64 0, .int .u64 0] (some (blob bl ++ ([] : List UInt8)))) := Lib.hid HCn.out
  have HT3 := Lib.hid (HTa.out.push (grown_cell wa2 ⟨gr, 3, none⟩ (.int .i64 (of : Int))) (fun r e => by cases e; exact .inl rfl))
  clear K2 hx2 HC2 HT2 HTa hxa hfa HGa HCn HGb
  obtain ⟨w_3, hw_3⟩ : ∃ W, wa2.setCell ⟨gr, 3, none⟩ (.int .i64 (of : Int)) = W := ⟨_, rfl⟩
  rw [hw_3] at HC3 HT3 ⊢
  clear hw_3
  have K3 := bytes_ci _ gr gc rd _ bl ([] : List UInt8) (.slice none 0 0) h_b HC3.out.drew
  have K3 := Lib.hid K3
  have hx3 : w_3.drew.cell? ⟨gr, 4, none⟩ = some (.slice none 0 0) := by rw [HC3.out.drew.rc.cell]; rfl
  go_upto_region 3 with fail
  refine wp_eager (gc_pre gc) (n := 16) (by kernel_rfl) (by kernel_rfl) ?_
  refine Eg.batchK (gc_pre gc) (by intro c a d v w h; cases d <;> exact h) (by kernel_rfl) (n := 9) [0, 1, 2, 4, 5, 6, 7] [] _ (by kernel_rfl) (fun K hK => ?_); (simp only [pickOps, List.getElem?_toArray, List.getElem?_cons_zero, List.getElem?_cons_succ, Option.toList_some, List.cons_append, List.nil_append]); (repeat (first | go_big_quiet_step (fail) | quiet_step (fail))); refine wpQuiet_nil (hK _ ?_); clear hK K
  (refine Eg.read (gc_pre gc) (by intro c a d v w h; cases d <;> exact h) (by kernel_rfl) (i := 3) (n := 8) (l := [0, 1, 2, 4, 5, 6, 7]) rfl (by kernel_rfl) (by kernel_rfl) rfl ⟨_, fun w' hR => load_run rfl (load_ptrR (GcR.ptr hR HC3.out.drew)), ?_⟩); (simp only [Act.put, List.setIfInBounds_toArray, List.getElem_toArray, List.getElem_cons_succ, List.getElem_cons_zero, List.set_cons_succ, List.set_cons_zero])
  (refine Eg.read (gc_pre gc) (by intro c a d v w h; cases d <;> exact h) (by kernel_rfl) (i := 8) (n := 7) (l := [0, 1, 2, 4, 5, 6, 7, 3]) rfl (by kernel_rfl) (by kernel_rfl) rfl ⟨_, fun w' hR => load_run rfl (load_ptrR (GcR.ptr hR HC3.out.drew)), ?_⟩); (simp only [Act.put, List.setIfInBounds_toArray, List.getElem_toArray, List.getElem_cons_succ, List.getElem_cons_zero, List.set_cons_succ, List.set_cons_zero])
  refine Eg.batchK (gc_pre gc) (by intro c a d v w h; cases d <;> exact h) (by kernel_rfl) (n := 5) [9, 10] [0, 1, 2, 4, 5, 6, 7, 3, 8] _ (by kernel_rfl) (fun K hK => ?_); (simp only [pickOps, List.getElem?_toArray, List.getElem?_cons_zero, List.getElem?_cons_succ, Option.toList_some, List.cons_append, List.nil_append]); (repeat (first | go_big_quiet_step (fail) | quiet_step (fail))); refine wpQuiet_nil (hK _ ?_); clear hK K
  refine Eg.act (gc_pre gc) (i := 11) (n := 4) (l := [0, 1, 2, 4, 5, 6, 7, 3, 8, 9, 10]) rfl (by kernel_rfl) ?_
  go_wp2_with (refine wpList_run_gR rfl _ (load_run rfl (load_slb hx3)) ?_)
  refine ⟨(gc_pre gc).refl _, ?_⟩
  refine Eg.act (gc_pre gc) (i := 12) (n := 3) (l := [0, 1, 2, 4, 5, 6, 7, 3, 8, 9, 10, 11]) rfl (by kernel_rfl) ?_
  go_wp2_with fail
  refine K3.out.mono ?_
  rintro e wa3 ⟨A4, c4, rfl, hYa, hLa, hCa, hUa⟩
  have HTa := Lib.hid (OthR.push (HT3.out.drew) hUa.grown (fun r e => by cases e; exact .inr (.inl rfl)))
  have hxa : wa3.cell? ⟨gr, 4, none⟩ = some (.slice none 0 0) := by rw [hCa.rc.cell]; rfl
  have hfa := hCa.rc.frozen 4
  have HGa := Lib.hid (gc_same HC3.out.drew hCa)
  have HCn := Lib.hid (hCa.set (noByteR _ _ _ _ _ _ _ _ _ _ _ _ _) 4 (.slice A4 bl.length c4))
  have HGb := Lib.hid (gc_same hCa HCn.out)
  have HYb := Lib.hid (hYa.upd hCa.rc (noByteR _ _ _ _ _ _ _ _ _ _ _ _ _) (Upd.set _ gr 4 (.slice A4 bl.length c4)))
  have HLb := Lib.hid hLa
  clear hYa hLa
  clear hCa hUa
  go_wp2_with fail
  refine ⟨HGa.out, ?_⟩
  refine Eg.batchK (gc_pre gc) (by intro c a d v w h; cases d <;> exact h) (by kernel_rfl) (n := 1) [13, 14] [0, 1, 2, 4, 5, 6, 7, 3, 8, 9, 10, 11, 12] _ (by kernel_rfl) (fun K hK => ?_); (simp only [pickOps, List.getElem?_toArray, List.getElem?_cons_zero, List.getElem?_cons_succ, Option.toList_some, List.cons_append, List.nil_append]); (repeat (first | go_big_quiet_step (fail) | quiet_step (fail))); refine wpQuiet_nil (hK _ ?_); clear hK K
  refine Eg.act (gc_pre gc) (i := 15) (n := 0) (l := [0, 1, 2, 4, 5, 6, 7, 3, 8, 9, 10, 11, 12, 13, 14]) rfl (by kernel_rfl) ?_
  go_wp2_with fail
  refine ⟨HGb.out, ?_⟩
  refine Eg.finish (by kernel_rfl) ?_
  have HC4 : Hid (Ci (wa3.setCell ⟨gr, 4, none⟩ (.slice A4 bl.length c4)) gr gc rd #[.int .i64 kd, .int .u64 (x : Int), .int .i64 (pg : Int), .int .i64 (of : Int), .slice A4 bl.length c4, .slice none 0 0, .int .u64 0, .int .u64 0, .int .u64 0] (some ([] : List UInt8))) := Lib.hid HCn.out
  have HT4 := Lib.hid (HTa.out.push (grown_cell wa3 ⟨gr, 4, none⟩ (.slice A4 bl.length c4)) (fun r e => by cases e; exact .inl rfl))
  clear K3 hx3 HC3 HT3 HTa hxa hfa HGa HCn HGb
  go_end0
  exact ⟨⟨_, rfl⟩, A4, c4, none, 0, HC4.out, HYb.out, HLb.out, .inl rfl, Nat.le_refl _, (fun b o e => by cases e), HT4.out⟩

set_option maxHeartbeats 3200000 in
set_option maxRecDepth 100000 in
theorem image_ci (w : World) (gr gc rd : Nat) (kd : Int) (x : Nat) (pg : Nat) (bl : List UInt8) (h_xid : x < 18446744073709551616) (h_page : pg < 65536) (h_b : bl.length ≤ 65535) (h : Ci w gr gc rd #[.int .i64 kd, .int .u64 0, .int .i64 0, .int .i64 0, .slice none 0 0, .slice none 0 0, .int .u64 0, .int .u64 0, .int .u64 0] (some (put x 8 ++ (put pg 2 ++ (blob bl ++ ([] : List UInt8)))))) :
    Calls Try.prog 90 #[.pointer (some ⟨gc, 0, none⟩)] w fun e w' => (∃ x, e = .returned x) ∧ ∃ A4 c4 A5 c5, Ci w' gr gc rd (recC ⟨kd, x, (pg : Int), 0, bl, [], 0, 0, 0⟩ A4 c4 A5 c5) (some []) ∧ By w' A4 (bl : List UInt8) ∧ (bl : List UInt8).length ≤ c4 ∧ Nums w' A5 ([] : List Nat) ∧ ([] : List Nat).length ≤ c5 ∧ (∀ b o, A5 = some ⟨b, o, none⟩ → w.heap.size ≤ b) ∧ OthR gr rd w w' := by
  have HC0 := Lib.hid h
  have HT0 := Lib.hid (OthR.refl gr rd w)
  clear h
  go_enter Try.func90, Try.ntmps90
  have K0 := number_ci _ gr gc rd _ x 8 0 (put pg 2 ++ (blob bl ++ ([] : List UInt8))) (by omega) (by omega) (by omega) HC0.out.drew
  rw [show ((8 : Nat) : Int) = 8 from rfl] at K0
  have K0 := Lib.hid K0
  have hx0 : w.drew.cell? ⟨gr, 1, none⟩ = some (.int .u64 0) := by rw [HC0.out.drew.rc.cell]; rfl
  go_upto_region 0 with fail
  refine wp_eager (gc_pre gc) (n := 16) (by kernel_rfl) (by kernel_rfl) ?_
  refine Eg.batchK (gc_pre gc) (by intro c a d v w h; cases d <;> exact h) (by kernel_rfl) (n := 9) [0, 1, 2, 4, 5, 6, 7] [] _ (by kernel_rfl) (fun K hK => ?_); (simp only [pickOps, List.getElem?_toArray, List.getElem?_cons_zero, List.getElem?_cons_succ, Option.toList_some, List.cons_append, List.nil_append]); (repeat (first | go_big_quiet_step (fail) | quiet_step (fail))); refine wpQuiet_nil (hK _ ?_); clear hK K
  (refine Eg.read (gc_pre gc) (by intro c a d v w h; cases d <;> exact h) (by kernel_rfl) (i := 3) (n := 8) (l := [0, 1, 2, 4, 5, 6, 7]) rfl (by kernel_rfl) (by kernel_rfl) rfl ⟨_, fun w' hR => load_run rfl (load_ptrR (GcR.ptr hR HC0.out.drew)), ?_⟩); (simp only [Act.put, List.setIfInBounds_toArray, List.getElem_toArray, List.getElem_cons_succ, List.getElem_cons_zero, List.set_cons_succ, List.set_cons_zero])
  (refine Eg.read (gc_pre gc) (by intro c a d v w h; cases d <;> exact h) (by kernel_rfl) (i := 8) (n := 7) (l := [0, 1, 2, 4, 5, 6, 7, 3]) rfl (by kernel_rfl) (by kernel_rfl) rfl ⟨_, fun w' hR => load_run rfl (load_ptrR (GcR.ptr hR HC0.out.drew)), ?_⟩); (simp only [Act.put, List.setIfInBounds_toArray, List.getElem_toArray, List.getElem_cons_succ, List.getElem_cons_zero, List.set_cons_succ, List.set_cons_zero])
  refine Eg.batchK (gc_pre gc) (by intro c a d v w h; cases d <;> exact h) (by kernel_rfl) (n := 5) [9, 10] [0, 1, 2, 4, 5, 6, 7, 3, 8] _ (by kernel_rfl) (fun K hK => ?_); (simp only [pickOps, List.getElem?_toArray, List.getElem?_cons_zero, List.getElem?_cons_succ, Option.toList_some, List.cons_append, List.nil_append]); (repeat (first | go_big_quiet_step (fail) | quiet_step (fail))); refine wpQuiet_nil (hK _ ?_); clear hK K
  refine Eg.act (gc_pre gc) (i := 11) (n := 4) (l := [0, 1, 2, 4, 5, 6, 7, 3, 8, 9, 10]) rfl (by kernel_rfl) ?_
  go_wp2_with (refine wpList_run_gR rfl _ (load_run rfl (load_u64 hx0)) ?_)
  refine ⟨(gc_pre gc).refl _, ?_⟩
  refine Eg.act (gc_pre gc) (i := 12) (n := 3) (l := [0, 1, 2, 4, 5, 6, 7, 3, 8, 9, 10, 11]) rfl (by kernel_rfl) ?_
  go_wp2_with fail
  refine K0.out.mono ?_
  rintro e wa0 ⟨rfl, hCa, hUa⟩
  have HTa := Lib.hid (OthR.push (HT0.out.drew) hUa.grown (fun r e => by cases e; exact .inr (.inl rfl)))
  have hxa : wa0.cell? ⟨gr, 1, none⟩ = some (.int .u64 0) := by rw [hCa.rc.cell]; rfl
  have hfa := hCa.rc.frozen 1
  have HGa := Lib.hid (gc_same HC0.out.drew hCa)
  have HCn := Lib.hid (hCa.set (noByteR _ _ _ _ _ _ _ _ _ _ _ _ _) 1 (.int .u64 (x : Int)))
  have HGb := Lib.hid (gc_same hCa HCn.out)
  clear hCa hUa
  go_wp2_with fail
  refine ⟨HGa.out, ?_⟩
  refine Eg.batchK (gc_pre gc) (by intro c a d v w h; cases d <;> exact h) (by kernel_rfl) (n := 1) [13, 14] [0, 1, 2, 4, 5, 6, 7, 3, 8, 9, 10, 11, 12] _ (by kernel_rfl) (fun K hK => ?_); (simp only [pickOps, List.getElem?_toArray, List.getElem?_cons_zero, List.getElem?_cons_succ, Option.toList_some, List.cons_append, List.nil_append]); (repeat (first | go_big_quiet_step (fail) | quiet_step (fail))); refine wpQuiet_nil (hK _ ?_); clear hK K
  refine Eg.act (gc_pre gc) (i := 15) (n := 0) (l := [0, 1, 2, 4, 5, 6, 7, 3, 8, 9, 10, 11, 12, 13, 14]) rfl (by kernel_rfl) ?_
  go_wp2_with fail
  refine ⟨HGb.out, ?_⟩
  refine Eg.finish (by kernel_rfl) ?_
  have HC1 : Hid (Ci (wa0.setCell ⟨gr, 1, none⟩ (.int .u64 (x : Int))) gr gc rd #[.int .i64 kd, .int .u64 (x : Int), .int .i64 0, .int .i64 0, .slice none 0 0, .slice none 0 0, .int .u64 0, .int .u64 0, .int .u64 0] (some (put pg 2 ++ (blob bl ++ ([] : List UInt8))))) := Lib.hid HCn.out
  have HT1 := Lib.hid (HTa.out.push (grown_cell wa0 ⟨gr, 1, none⟩ (.int .u64 (x : Int))) (fun r e => by cases e; exact .inl rfl))
  clear K0 hx0 HC0 HT0 HTa hxa hfa HGa HCn HGb
  obtain ⟨w_1, hw_1⟩ : ∃ W, wa0.setCell ⟨gr, 1, none⟩ (.int .u64 (x : Int)) = W := ⟨_, rfl⟩
  rw [hw_1] at HC1 HT1 ⊢
  clear hw_1
  have K1 := place_ci _ gr gc rd _ pg 0 (blob bl ++ ([] : List UInt8)) (by omega) (by omega) HC1.out.drew
  rw [show ((0 : Nat) : Int) = 0 from rfl] at K1
  have K1 := Lib.hid K1
  have hx1 : w_1.drew.cell? ⟨gr, 2, none⟩ = some (.int .i64 0) := by rw [HC1.out.drew.rc.cell]; rfl
  go_upto_region 1 with fail
  refine wp_eager (gc_pre gc) (n := 16) (by kernel_rfl) (by kernel_rfl) ?_
  refine Eg.batchK (gc_pre gc) (by intro c a d v w h; cases d <;> exact h) (by kernel_rfl) (n := 9) [0, 1, 2, 4, 5, 6, 7] [] _ (by kernel_rfl) (fun K hK => ?_); (simp only [pickOps, List.getElem?_toArray, List.getElem?_cons_zero, List.getElem?_cons_succ, Option.toList_some, List.cons_append, List.nil_append]); (repeat (first | go_big_quiet_step (fail) | quiet_step (fail))); refine wpQuiet_nil (hK _ ?_); clear hK K
  (refine Eg.read (gc_pre gc) (by intro c a d v w h; cases d <;> exact h) (by kernel_rfl) (i := 3) (n := 8) (l := [0, 1, 2, 4, 5, 6, 7]) rfl (by kernel_rfl) (by kernel_rfl) rfl ⟨_, fun w' hR => load_run rfl (load_ptrR (GcR.ptr hR HC1.out.drew)), ?_⟩); (simp only [Act.put, List.setIfInBounds_toArray, List.getElem_toArray, List.getElem_cons_succ, List.getElem_cons_zero, List.set_cons_succ, List.set_cons_zero])
  (refine Eg.read (gc_pre gc) (by intro c a d v w h; cases d <;> exact h) (by kernel_rfl) (i := 8) (n := 7) (l := [0, 1, 2, 4, 5, 6, 7, 3]) rfl (by kernel_rfl) (by kernel_rfl) rfl ⟨_, fun w' hR => load_run rfl (load_ptrR (GcR.ptr hR HC1.out.drew)), ?_⟩); (simp only [Act.put, List.setIfInBounds_toArray, List.getElem_toArray, List.getElem_cons_succ, List.getElem_cons_zero, List.set_cons_succ, List.set_cons_zero])
  refine Eg.batchK (gc_pre gc) (by intro c a d v w h; cases d <;> exact h) (by kernel_rfl) (n := 5) [9, 10] [0, 1, 2, 4, 5, 6, 7, 3, 8] _ (by kernel_rfl) (fun K hK => ?_); (simp only [pickOps, List.getElem?_toArray, List.getElem?_cons_zero, List.getElem?_cons_succ, Option.toList_some, List.cons_append, List.nil_append]); (repeat (first | go_big_quiet_step (fail) | quiet_step (fail))); refine wpQuiet_nil (hK _ ?_); clear hK K
  refine Eg.act (gc_pre gc) (i := 11) (n := 4) (l := [0, 1, 2, 4, 5, 6, 7, 3, 8, 9, 10]) rfl (by kernel_rfl) ?_
  go_wp2_with (refine wpList_run_gR rfl _ (load_run rfl (load_int hx1)) ?_)
  refine ⟨(gc_pre gc).refl _, ?_⟩
  refine Eg.act (gc_pre gc) (i := 12) (n := 3) (l := [0, 1, 2, 4, 5, 6, 7, 3, 8, 9, 10, 11]) rfl (by kernel_rfl) ?_
  go_wp2_with fail
  refine K1.out.mono ?_
  rintro e wa1 ⟨rfl, hCa, hUa⟩
  have HTa := Lib.hid (OthR.push (HT1.out.drew) hUa.grown (fun r e => by cases e; exact .inr (.inl rfl)))
  have hxa : wa1.cell? ⟨gr, 2, none⟩ = some (.int .i64 0) := by rw [hCa.rc.cell]; rfl
  have hfa := hCa.rc.frozen 2
  have HGa := Lib.hid (gc_same HC1.out.drew hCa)
  have HCn := Lib.hid (hCa.set (noByteR _ _ _ _ _ _ _ _ _ _ _ _ _) 2 (.int .i64 (pg : Int)))
  have HGb := Lib.hid (gc_same hCa HCn.out)
  clear hCa hUa
  go_wp2_with fail
  refine ⟨HGa.out, ?_⟩
  refine Eg.batchK (gc_pre gc) (by intro c a d v w h; cases d <;> exact h) (by kernel_rfl) (n := 1) [13, 14] [0, 1, 2, 4, 5, 6, 7, 3, 8, 9, 10, 11, 12] _ (by kernel_rfl) (fun K hK => ?_); (simp only [pickOps, List.getElem?_toArray, List.getElem?_cons_zero, List.getElem?_cons_succ, Option.toList_some, List.cons_append, List.nil_append]); (repeat (first | go_big_quiet_step (fail) | quiet_step (fail))); refine wpQuiet_nil (hK _ ?_); clear hK K
  refine Eg.act (gc_pre gc) (i := 15) (n := 0) (l := [0, 1, 2, 4, 5, 6, 7, 3, 8, 9, 10, 11, 12, 13, 14]) rfl (by kernel_rfl) ?_
  go_wp2_with fail
  refine ⟨HGb.out, ?_⟩
  refine Eg.finish (by kernel_rfl) ?_
  have HC2 : Hid (Ci (wa1.setCell ⟨gr, 2, none⟩ (.int .i64 (pg : Int))) gr gc rd #[.int .i64 kd, .int .u64 (x : Int), .int .i64 (pg : Int), .int .i64 0, .slice none 0 0, .slice none 0 0, .int .u64 0, .int .u64 0, .int .u64 0] (some (blob bl ++ ([] : List UInt8)))) := Lib.hid HCn.out
  have HT2 := Lib.hid (HTa.out.push (grown_cell wa1 ⟨gr, 2, none⟩ (.int .i64 (pg : Int))) (fun r e => by cases e; exact .inl rfl))
  clear K1 hx1 HC1 HT1 HTa hxa hfa HGa HCn HGb
  obtain ⟨w_2, hw_2⟩ : ∃ W, wa1.setCell ⟨gr, 2, none⟩ (.int .i64 (pg : Int)) = W := ⟨_, rfl⟩
  rw [hw_2] at HC2 HT2 ⊢
  clear hw_2
  have K2 := bytes_ci _ gr gc rd _ bl ([] : List UInt8) (.slice none 0 0) h_b HC2.out.drew
  have K2 := Lib.hid K2
  have hx2 : w_2.drew.cell? ⟨gr, 4, none⟩ = some (.slice none 0 0) := by rw [HC2.out.drew.rc.cell]; rfl
  go_upto_region 2 with fail
  refine wp_eager (gc_pre gc) (n := 16) (by kernel_rfl) (by kernel_rfl) ?_
  refine Eg.batchK (gc_pre gc) (by intro c a d v w h; cases d <;> exact h) (by kernel_rfl) (n := 9) [0, 1, 2, 4, 5, 6, 7] [] _ (by kernel_rfl) (fun K hK => ?_); (simp only [pickOps, List.getElem?_toArray, List.getElem?_cons_zero, List.getElem?_cons_succ, Option.toList_some, List.cons_append, List.nil_append]); (repeat (first | go_big_quiet_step (fail) | quiet_step (fail))); refine wpQuiet_nil (hK _ ?_); clear hK K
  (refine Eg.read (gc_pre gc) (by intro c a d v w h; cases d <;> exact h) (by kernel_rfl) (i := 3) (n := 8) (l := [0, 1, 2, 4, 5, 6, 7]) rfl (by kernel_rfl) (by kernel_rfl) rfl ⟨_, fun w' hR => load_run rfl (load_ptrR (GcR.ptr hR HC2.out.drew)), ?_⟩); (simp only [Act.put, List.setIfInBounds_toArray, List.getElem_toArray, List.getElem_cons_succ, List.getElem_cons_zero, List.set_cons_succ, List.set_cons_zero])
  (refine Eg.read (gc_pre gc) (by intro c a d v w h; cases d <;> exact h) (by kernel_rfl) (i := 8) (n := 7) (l := [0, 1, 2, 4, 5, 6, 7, 3]) rfl (by kernel_rfl) (by kernel_rfl) rfl ⟨_, fun w' hR => load_run rfl (load_ptrR (GcR.ptr hR HC2.out.drew)), ?_⟩); (simp only [Act.put, List.setIfInBounds_toArray, List.getElem_toArray, List.getElem_cons_succ, List.getElem_cons_zero, List.set_cons_succ, List.set_cons_zero])
  refine Eg.batchK (gc_pre gc) (by intro c a d v w h; cases d <;> exact h) (by kernel_rfl) (n := 5) [9, 10] [0, 1, 2, 4, 5, 6, 7, 3, 8] _ (by kernel_rfl) (fun K hK => ?_); (simp only [pickOps, List.getElem?_toArray, List.getElem?_cons_zero, List.getElem?_cons_succ, Option.toList_some, List.cons_append, List.nil_append]); (repeat (first | go_big_quiet_step (fail) | quiet_step (fail))); refine wpQuiet_nil (hK _ ?_); clear hK K
  refine Eg.act (gc_pre gc) (i := 11) (n := 4) (l := [0, 1, 2, 4, 5, 6, 7, 3, 8, 9, 10]) rfl (by kernel_rfl) ?_
  go_wp2_with (refine wpList_run_gR rfl _ (load_run rfl (load_slb hx2)) ?_)
  refine ⟨(gc_pre gc).refl _, ?_⟩
  refine Eg.act (gc_pre gc) (i := 12) (n := 3) (l := [0, 1, 2, 4, 5, 6, 7, 3, 8, 9, 10, 11]) rfl (by kernel_rfl) ?_
  go_wp2_with fail
  refine K2.out.mono ?_
  rintro e wa2 ⟨A4, c4, rfl, hYa, hLa, hCa, hUa⟩
  have HTa := Lib.hid (OthR.push (HT2.out.drew) hUa.grown (fun r e => by cases e; exact .inr (.inl rfl)))
  have hxa : wa2.cell? ⟨gr, 4, none⟩ = some (.slice none 0 0) := by rw [hCa.rc.cell]; rfl
  have hfa := hCa.rc.frozen 4
  have HGa := Lib.hid (gc_same HC2.out.drew hCa)
  have HCn := Lib.hid (hCa.set (noByteR _ _ _ _ _ _ _ _ _ _ _ _ _) 4 (.slice A4 bl.length c4))
  have HGb := Lib.hid (gc_same hCa HCn.out)
  have HYb := Lib.hid (hYa.upd hCa.rc (noByteR _ _ _ _ _ _ _ _ _ _ _ _ _) (Upd.set _ gr 4 (.slice A4 bl.length c4)))
  have HLb := Lib.hid hLa
  clear hYa hLa
  clear hCa hUa
  go_wp2_with fail
  refine ⟨HGa.out, ?_⟩
  refine Eg.batchK (gc_pre gc) (by intro c a d v w h; cases d <;> exact h) (by kernel_rfl) (n := 1) [13, 14] [0, 1, 2, 4, 5, 6, 7, 3, 8, 9, 10, 11, 12] _ (by kernel_rfl) (fun K hK => ?_); (simp only [pickOps, List.getElem?_toArray, List.getElem?_cons_zero, List.getElem?_cons_succ, Option.toList_some, List.cons_append, List.nil_append]); (repeat (first | go_big_quiet_step (fail) | quiet_step (fail))); refine wpQuiet_nil (hK _ ?_); clear hK K
  refine Eg.act (gc_pre gc) (i := 15) (n := 0) (l := [0, 1, 2, 4, 5, 6, 7, 3, 8, 9, 10, 11, 12, 13, 14]) rfl (by kernel_rfl) ?_
  go_wp2_with fail
  refine ⟨HGb.out, ?_⟩
  refine Eg.finish (by kernel_rfl) ?_
  have HC3 : Hid (Ci (wa2.setCell ⟨gr, 4, none⟩ (.slice A4 bl.length c4)) gr gc rd #[.int .i64 kd, .int .u64 (x : Int), .int .i64 (pg : Int), .int .i64 0, .slice A4 bl.length c4, .slice none 0 0, .int .u64 0, .int .u64 0, .int .u64 0] (some ([] : List UInt8))) := Lib.hid HCn.out
  have HT3 := Lib.hid (HTa.out.push (grown_cell wa2 ⟨gr, 4, none⟩ (.slice A4 bl.length c4)) (fun r e => by cases e; exact .inl rfl))
  clear K2 hx2 HC2 HT2 HTa hxa hfa HGa HCn HGb
  go_end0
  exact ⟨⟨_, rfl⟩, A4, c4, none, 0, HC3.out, HYb.out, HLb.out, .inl rfl, Nat.le_refl _, (fun b o e => by cases e), HT3.out⟩

set_option maxHeartbeats 3200000 in
set_option maxRecDepth 100000 in
theorem ended_ci (w : World) (gr gc rd : Nat) (kd : Int) (x : Nat) (u : List Nat) (h_xid : x < 18446744073709551616) (h_u : u.length ≤ 9000) (h_u2 : ∀ i, i < u.length → u.getD i 0 < 18446744073709551616) (h : Ci w gr gc rd #[.int .i64 kd, .int .u64 0, .int .i64 0, .int .i64 0, .slice none 0 0, .slice none 0 0, .int .u64 0, .int .u64 0, .int .u64 0] (some (put x 8 ++ (subsB u ++ ([] : List UInt8))))) :
    Calls Try.prog 91 #[.pointer (some ⟨gc, 0, none⟩)] w fun e w' => (∃ x, e = .returned x) ∧ ∃ A4 c4 A5 c5, Ci w' gr gc rd (recC ⟨kd, x, 0, 0, [], u, 0, 0, 0⟩ A4 c4 A5 c5) (some []) ∧ By w' A4 ([] : List UInt8) ∧ ([] : List UInt8).length ≤ c4 ∧ Nums w' A5 (u : List Nat) ∧ (u : List Nat).length ≤ c5 ∧ (∀ b o, A5 = some ⟨b, o, none⟩ → w.heap.size ≤ b) ∧ OthR gr rd w w' := by
  have HC0 := Lib.hid h
  have HT0 := Lib.hid (OthR.refl gr rd w)
  have HUB := Lib.hid h_u2
  clear h_u2
  clear h
  go_enter Try.func91, Try.ntmps91
  have K0 := number_ci _ gr gc rd _ x 8 0 (subsB u ++ ([] : List UInt8)) (by omega) (by omega) (by omega) HC0.out.drew
  rw [show ((8 : Nat) : Int) = 8 from rfl] at K0
  have K0 := Lib.hid K0
  have hx0 : w.drew.cell? ⟨gr, 1, none⟩ = some (.int .u64 0) := by rw [HC0.out.drew.rc.cell]; rfl
  go_upto_region 0 with fail
  refine wp_eager (gc_pre gc) (n := 16) (by kernel_rfl) (by kernel_rfl) ?_
  refine Eg.batchK (gc_pre gc) (by intro c a d v w h; cases d <;> exact h) (by kernel_rfl) (n := 9) [0, 1, 2, 4, 5, 6, 7] [] _ (by kernel_rfl) (fun K hK => ?_); (simp only [pickOps, List.getElem?_toArray, List.getElem?_cons_zero, List.getElem?_cons_succ, Option.toList_some, List.cons_append, List.nil_append]); (repeat (first | go_big_quiet_step (fail) | quiet_step (fail))); refine wpQuiet_nil (hK _ ?_); clear hK K
  (refine Eg.read (gc_pre gc) (by intro c a d v w h; cases d <;> exact h) (by kernel_rfl) (i := 3) (n := 8) (l := [0, 1, 2, 4, 5, 6, 7]) rfl (by kernel_rfl) (by kernel_rfl) rfl ⟨_, fun w' hR => load_run rfl (load_ptrR (GcR.ptr hR HC0.out.drew)), ?_⟩); (simp only [Act.put, List.setIfInBounds_toArray, List.getElem_toArray, List.getElem_cons_succ, List.getElem_cons_zero, List.set_cons_succ, List.set_cons_zero])
  (refine Eg.read (gc_pre gc) (by intro c a d v w h; cases d <;> exact h) (by kernel_rfl) (i := 8) (n := 7) (l := [0, 1, 2, 4, 5, 6, 7, 3]) rfl (by kernel_rfl) (by kernel_rfl) rfl ⟨_, fun w' hR => load_run rfl (load_ptrR (GcR.ptr hR HC0.out.drew)), ?_⟩); (simp only [Act.put, List.setIfInBounds_toArray, List.getElem_toArray, List.getElem_cons_succ, List.getElem_cons_zero, List.set_cons_succ, List.set_cons_zero])
  refine Eg.batchK (gc_pre gc) (by intro c a d v w h; cases d <;> exact h) (by kernel_rfl) (n := 5) [9, 10] [0, 1, 2, 4, 5, 6, 7, 3, 8] _ (by kernel_rfl) (fun K hK => ?_); (simp only [pickOps, List.getElem?_toArray, List.getElem?_cons_zero, List.getElem?_cons_succ, Option.toList_some, List.cons_append, List.nil_append]); (repeat (first | go_big_quiet_step (fail) | quiet_step (fail))); refine wpQuiet_nil (hK _ ?_); clear hK K
  refine Eg.act (gc_pre gc) (i := 11) (n := 4) (l := [0, 1, 2, 4, 5, 6, 7, 3, 8, 9, 10]) rfl (by kernel_rfl) ?_
  go_wp2_with (refine wpList_run_gR rfl _ (load_run rfl (load_u64 hx0)) ?_)
  refine ⟨(gc_pre gc).refl _, ?_⟩
  refine Eg.act (gc_pre gc) (i := 12) (n := 3) (l := [0, 1, 2, 4, 5, 6, 7, 3, 8, 9, 10, 11]) rfl (by kernel_rfl) ?_
  go_wp2_with fail
  refine K0.out.mono ?_
  rintro e wa0 ⟨rfl, hCa, hUa⟩
  have HTa := Lib.hid (OthR.push (HT0.out.drew) hUa.grown (fun r e => by cases e; exact .inr (.inl rfl)))
  have hxa : wa0.cell? ⟨gr, 1, none⟩ = some (.int .u64 0) := by rw [hCa.rc.cell]; rfl
  have hfa := hCa.rc.frozen 1
  have HGa := Lib.hid (gc_same HC0.out.drew hCa)
  have HCn := Lib.hid (hCa.set (noByteR _ _ _ _ _ _ _ _ _ _ _ _ _) 1 (.int .u64 (x : Int)))
  have HGb := Lib.hid (gc_same hCa HCn.out)
  clear hCa hUa
  go_wp2_with fail
  refine ⟨HGa.out, ?_⟩
  refine Eg.batchK (gc_pre gc) (by intro c a d v w h; cases d <;> exact h) (by kernel_rfl) (n := 1) [13, 14] [0, 1, 2, 4, 5, 6, 7, 3, 8, 9, 10, 11, 12] _ (by kernel_rfl) (fun K hK => ?_); (simp only [pickOps, List.getElem?_toArray, List.getElem?_cons_zero, List.getElem?_cons_succ, Option.toList_some, List.cons_append, List.nil_append]); (repeat (first | go_big_quiet_step (fail) | quiet_step (fail))); refine wpQuiet_nil (hK _ ?_); clear hK K
  refine Eg.act (gc_pre gc) (i := 15) (n := 0) (l := [0, 1, 2, 4, 5, 6, 7, 3, 8, 9, 10, 11, 12, 13, 14]) rfl (by kernel_rfl) ?_
  go_wp2_with fail
  refine ⟨HGb.out, ?_⟩
  refine Eg.finish (by kernel_rfl) ?_
  have HC1 : Hid (Ci (wa0.setCell ⟨gr, 1, none⟩ (.int .u64 (x : Int))) gr gc rd #[.int .i64 kd, .int .u64 (x : Int), .int .i64 0, .int .i64 0, .slice none 0 0, .slice none 0 0, .int .u64 0, .int .u64 0, .int .u64 0] (some (subsB u ++ ([] : List UInt8)))) := Lib.hid HCn.out
  have HT1 := Lib.hid (HTa.out.push (grown_cell wa0 ⟨gr, 1, none⟩ (.int .u64 (x : Int))) (fun r e => by cases e; exact .inl rfl))
  clear K0 hx0 HC0 HT0 HTa hxa hfa HGa HCn HGb
  obtain ⟨w_1, hw_1⟩ : ∃ W, wa0.setCell ⟨gr, 1, none⟩ (.int .u64 (x : Int)) = W := ⟨_, rfl⟩
  rw [hw_1] at HC1 HT1 ⊢
  clear hw_1
  have K1 := subs_ci _ gr gc rd _ u ([] : List UInt8) h_u HUB.out HC1.out.drew
  have K1 := Lib.hid K1
  have hx1 : w_1.drew.cell? ⟨gr, 5, none⟩ = some (.slice none 0 0) := by rw [HC1.out.drew.rc.cell]; rfl
  go_upto_region 1 with fail
  refine wp_eager (gc_pre gc) (n := 16) (by kernel_rfl) (by kernel_rfl) ?_
  refine Eg.batchK (gc_pre gc) (by intro c a d v w h; cases d <;> exact h) (by kernel_rfl) (n := 9) [0, 1, 2, 4, 5, 6, 7] [] _ (by kernel_rfl) (fun K hK => ?_); (simp only [pickOps, List.getElem?_toArray, List.getElem?_cons_zero, List.getElem?_cons_succ, Option.toList_some, List.cons_append, List.nil_append]); (repeat (first | go_big_quiet_step (fail) | quiet_step (fail))); refine wpQuiet_nil (hK _ ?_); clear hK K
  (refine Eg.read (gc_pre gc) (by intro c a d v w h; cases d <;> exact h) (by kernel_rfl) (i := 3) (n := 8) (l := [0, 1, 2, 4, 5, 6, 7]) rfl (by kernel_rfl) (by kernel_rfl) rfl ⟨_, fun w' hR => load_run rfl (load_ptrR (GcR.ptr hR HC1.out.drew)), ?_⟩); (simp only [Act.put, List.setIfInBounds_toArray, List.getElem_toArray, List.getElem_cons_succ, List.getElem_cons_zero, List.set_cons_succ, List.set_cons_zero])
  (refine Eg.read (gc_pre gc) (by intro c a d v w h; cases d <;> exact h) (by kernel_rfl) (i := 8) (n := 7) (l := [0, 1, 2, 4, 5, 6, 7, 3]) rfl (by kernel_rfl) (by kernel_rfl) rfl ⟨_, fun w' hR => load_run rfl (load_ptrR (GcR.ptr hR HC1.out.drew)), ?_⟩); (simp only [Act.put, List.setIfInBounds_toArray, List.getElem_toArray, List.getElem_cons_succ, List.getElem_cons_zero, List.set_cons_succ, List.set_cons_zero])
  refine Eg.batchK (gc_pre gc) (by intro c a d v w h; cases d <;> exact h) (by kernel_rfl) (n := 5) [9, 10] [0, 1, 2, 4, 5, 6, 7, 3, 8] _ (by kernel_rfl) (fun K hK => ?_); (simp only [pickOps, List.getElem?_toArray, List.getElem?_cons_zero, List.getElem?_cons_succ, Option.toList_some, List.cons_append, List.nil_append]); (repeat (first | go_big_quiet_step (fail) | quiet_step (fail))); refine wpQuiet_nil (hK _ ?_); clear hK K
  refine Eg.act (gc_pre gc) (i := 11) (n := 4) (l := [0, 1, 2, 4, 5, 6, 7, 3, 8, 9, 10]) rfl (by kernel_rfl) ?_
  go_wp2_with (refine wpList_run_gR rfl _ (load_run rfl (load_slu hx1)) ?_)
  refine ⟨(gc_pre gc).refl _, ?_⟩
  refine Eg.act (gc_pre gc) (i := 12) (n := 3) (l := [0, 1, 2, 4, 5, 6, 7, 3, 8, 9, 10, 11]) rfl (by kernel_rfl) ?_
  go_wp2_with fail
  refine K1.out.mono ?_
  rintro e wa1 ⟨A5, c5, rfl, hNa, hLa, hSa, hCa, hTa⟩
  have HTa := Lib.hid (OthR.trans (HT1.out.drew) hTa)
  have hxa : wa1.cell? ⟨gr, 5, none⟩ = some (.slice none 0 0) := by rw [hCa.rc.cell]; rfl
  have hfa := hCa.rc.frozen 5
  have HGa := Lib.hid (gc_same HC1.out.drew hCa)
  have HCn := Lib.hid (hCa.set (noByteR _ _ _ _ _ _ _ _ _ _ _ _ _) 5 (.slice A5 u.length c5))
  have HGb := Lib.hid (gc_same hCa HCn.out)
  have HYb := Lib.hid (hNa.far (g := gr) (fun b o e => by obtain ⟨_, cur, hb⟩ := hSa b o e; exact hb.apart hCa.rc (by decide)) 5 (.slice A5 u.length c5))
  have HLb := Lib.hid hLa
  have HSb : Hid (∀ b o, A5 = some ⟨b, o, none⟩ → w.heap.size ≤ b) := Lib.hid (fun b o e => Nat.le_trans HT1.out.1 (hSa b o e).1)
  clear hNa hLa hSa
  clear hCa hTa
  go_wp2_with fail
  refine ⟨HGa.out, ?_⟩
  refine Eg.batchK (gc_pre gc) (by intro c a d v w h; cases d <;> exact h) (by kernel_rfl) (n := 1) [13, 14] [0, 1, 2, 4, 5, 6, 7, 3, 8, 9, 10, 11, 12] _ (by kernel_rfl) (fun K hK => ?_); (simp only [pickOps, List.getElem?_toArray, List.getElem?_cons_zero, List.getElem?_cons_succ, Option.toList_some, List.cons_append, List.nil_append]); (repeat (first | go_big_quiet_step (fail) | quiet_step (fail))); refine wpQuiet_nil (hK _ ?_); clear hK K
  refine Eg.act (gc_pre gc) (i := 15) (n := 0) (l := [0, 1, 2, 4, 5, 6, 7, 3, 8, 9, 10, 11, 12, 13, 14]) rfl (by kernel_rfl) ?_
  go_wp2_with fail
  refine ⟨HGb.out, ?_⟩
  refine Eg.finish (by kernel_rfl) ?_
  have HC2 : Hid (Ci (wa1.setCell ⟨gr, 5, none⟩ (.slice A5 u.length c5)) gr gc rd #[.int .i64 kd, .int .u64 (x : Int), .int .i64 0, .int .i64 0, .slice none 0 0, .slice A5 u.length c5, .int .u64 0, .int .u64 0, .int .u64 0] (some ([] : List UInt8))) := Lib.hid HCn.out
  have HT2 := Lib.hid (HTa.out.push (grown_cell wa1 ⟨gr, 5, none⟩ (.slice A5 u.length c5)) (fun r e => by cases e; exact .inl rfl))
  clear K1 hx1 HC1 HT1 HTa hxa hfa HGa HCn HGb
  go_end0
  exact ⟨⟨_, rfl⟩, none, 0, A5, c5, HC2.out, .inl rfl, Nat.le_refl _, HYb.out, HLb.out, HSb.out, HT2.out⟩

set_option maxHeartbeats 3200000 in
set_option maxRecDepth 100000 in
theorem cleanup_ci (w : World) (gr gc rd : Nat) (kd : Int) (x : Nat) (h_xid : x < 18446744073709551616) (h : Ci w gr gc rd #[.int .i64 kd, .int .u64 0, .int .i64 0, .int .i64 0, .slice none 0 0, .slice none 0 0, .int .u64 0, .int .u64 0, .int .u64 0] (some (put x 8 ++ ([] : List UInt8)))) :
    Calls Try.prog 92 #[.pointer (some ⟨gc, 0, none⟩)] w fun e w' => (∃ x, e = .returned x) ∧ ∃ A4 c4 A5 c5, Ci w' gr gc rd (recC ⟨kd, x, 0, 0, [], [], 0, 0, 0⟩ A4 c4 A5 c5) (some []) ∧ By w' A4 ([] : List UInt8) ∧ ([] : List UInt8).length ≤ c4 ∧ Nums w' A5 ([] : List Nat) ∧ ([] : List Nat).length ≤ c5 ∧ (∀ b o, A5 = some ⟨b, o, none⟩ → w.heap.size ≤ b) ∧ OthR gr rd w w' := by
  have HC0 := Lib.hid h
  have HT0 := Lib.hid (OthR.refl gr rd w)
  clear h
  go_enter Try.func92, Try.ntmps92
  have K0 := number_ci _ gr gc rd _ x 8 0 ([] : List UInt8) (by omega) (by omega) (by omega) HC0.out.drew
  rw [show ((8 : Nat) : Int) = 8 from rfl] at K0
  have K0 := Lib.hid K0
  have hx0 : w.drew.cell? ⟨gr, 1, none⟩ = some (.int .u64 0) := by rw [HC0.out.drew.rc.cell]; rfl
  go_upto_region 0 with fail
  refine wp_eager (gc_pre gc) (n := 16) (by kernel_rfl) (by kernel_rfl) ?_
  refine Eg.batchK (gc_pre gc) (by intro c a d v w h; cases d <;> exact h) (by kernel_rfl) (n := 9) [0, 1, 2, 4, 5, 6, 7] [] _ (by kernel_rfl) (fun K hK => ?_); (simp only [pickOps, List.getElem?_toArray, List.getElem?_cons_zero, List.getElem?_cons_succ, Option.toList_some, List.cons_append, List.nil_append]); (repeat (first | go_big_quiet_step (fail) | quiet_step (fail))); refine wpQuiet_nil (hK _ ?_); clear hK K
  (refine Eg.read (gc_pre gc) (by intro c a d v w h; cases d <;> exact h) (by kernel_rfl) (i := 3) (n := 8) (l := [0, 1, 2, 4, 5, 6, 7]) rfl (by kernel_rfl) (by kernel_rfl) rfl ⟨_, fun w' hR => load_run rfl (load_ptrR (GcR.ptr hR HC0.out.drew)), ?_⟩); (simp only [Act.put, List.setIfInBounds_toArray, List.getElem_toArray, List.getElem_cons_succ, List.getElem_cons_zero, List.set_cons_succ, List.set_cons_zero])
  (refine Eg.read (gc_pre gc) (by intro c a d v w h; cases d <;> exact h) (by kernel_rfl) (i := 8) (n := 7) (l := [0, 1, 2, 4, 5, 6, 7, 3]) rfl (by kernel_rfl) (by kernel_rfl) rfl ⟨_, fun w' hR => load_run rfl (load_ptrR (GcR.ptr hR HC0.out.drew)), ?_⟩); (simp only [Act.put, List.setIfInBounds_toArray, List.getElem_toArray, List.getElem_cons_succ, List.getElem_cons_zero, List.set_cons_succ, List.set_cons_zero])
  refine Eg.batchK (gc_pre gc) (by intro c a d v w h; cases d <;> exact h) (by kernel_rfl) (n := 5) [9, 10] [0, 1, 2, 4, 5, 6, 7, 3, 8] _ (by kernel_rfl) (fun K hK => ?_); (simp only [pickOps, List.getElem?_toArray, List.getElem?_cons_zero, List.getElem?_cons_succ, Option.toList_some, List.cons_append, List.nil_append]); (repeat (first | go_big_quiet_step (fail) | quiet_step (fail))); refine wpQuiet_nil (hK _ ?_); clear hK K
  refine Eg.act (gc_pre gc) (i := 11) (n := 4) (l := [0, 1, 2, 4, 5, 6, 7, 3, 8, 9, 10]) rfl (by kernel_rfl) ?_
  go_wp2_with (refine wpList_run_gR rfl _ (load_run rfl (load_u64 hx0)) ?_)
  refine ⟨(gc_pre gc).refl _, ?_⟩
  refine Eg.act (gc_pre gc) (i := 12) (n := 3) (l := [0, 1, 2, 4, 5, 6, 7, 3, 8, 9, 10, 11]) rfl (by kernel_rfl) ?_
  go_wp2_with fail
  refine K0.out.mono ?_
  rintro e wa0 ⟨rfl, hCa, hUa⟩
  have HTa := Lib.hid (OthR.push (HT0.out.drew) hUa.grown (fun r e => by cases e; exact .inr (.inl rfl)))
  have hxa : wa0.cell? ⟨gr, 1, none⟩ = some (.int .u64 0) := by rw [hCa.rc.cell]; rfl
  have hfa := hCa.rc.frozen 1
  have HGa := Lib.hid (gc_same HC0.out.drew hCa)
  have HCn := Lib.hid (hCa.set (noByteR _ _ _ _ _ _ _ _ _ _ _ _ _) 1 (.int .u64 (x : Int)))
  have HGb := Lib.hid (gc_same hCa HCn.out)
  clear hCa hUa
  go_wp2_with fail
  refine ⟨HGa.out, ?_⟩
  refine Eg.batchK (gc_pre gc) (by intro c a d v w h; cases d <;> exact h) (by kernel_rfl) (n := 1) [13, 14] [0, 1, 2, 4, 5, 6, 7, 3, 8, 9, 10, 11, 12] _ (by kernel_rfl) (fun K hK => ?_); (simp only [pickOps, List.getElem?_toArray, List.getElem?_cons_zero, List.getElem?_cons_succ, Option.toList_some, List.cons_append, List.nil_append]); (repeat (first | go_big_quiet_step (fail) | quiet_step (fail))); refine wpQuiet_nil (hK _ ?_); clear hK K
  refine Eg.act (gc_pre gc) (i := 15) (n := 0) (l := [0, 1, 2, 4, 5, 6, 7, 3, 8, 9, 10, 11, 12, 13, 14]) rfl (by kernel_rfl) ?_
  go_wp2_with fail
  refine ⟨HGb.out, ?_⟩
  refine Eg.finish (by kernel_rfl) ?_
  have HC1 : Hid (Ci (wa0.setCell ⟨gr, 1, none⟩ (.int .u64 (x : Int))) gr gc rd #[.int .i64 kd, .int .u64 (x : Int), .int .i64 0, .int .i64 0, .slice none 0 0, .slice none 0 0, .int .u64 0, .int .u64 0, .int .u64 0] (some ([] : List UInt8))) := Lib.hid HCn.out
  have HT1 := Lib.hid (HTa.out.push (grown_cell wa0 ⟨gr, 1, none⟩ (.int .u64 (x : Int))) (fun r e => by cases e; exact .inl rfl))
  clear K0 hx0 HC0 HT0 HTa hxa hfa HGa HCn HGb
  go_end0
  exact ⟨⟨_, rfl⟩, none, 0, none, 0, HC1.out, .inl rfl, Nat.le_refl _, .inl rfl, Nat.le_refl _, (fun b o e => by cases e), HT1.out⟩

set_option maxHeartbeats 3200000 in
set_option maxRecDepth 100000 in
theorem running_ci (w : World) (gr gc rd : Nat) (kd : Int) (nx : Nat) (u : List Nat) (h_next : nx < 18446744073709551616) (h_u : u.length ≤ 9000) (h_u2 : ∀ i, i < u.length → u.getD i 0 < 18446744073709551616) (h : Ci w gr gc rd #[.int .i64 kd, .int .u64 0, .int .i64 0, .int .i64 0, .slice none 0 0, .slice none 0 0, .int .u64 0, .int .u64 0, .int .u64 0] (some (put nx 8 ++ (subsB u ++ ([] : List UInt8))))) :
    Calls Try.prog 93 #[.pointer (some ⟨gc, 0, none⟩)] w fun e w' => (∃ x, e = .returned x) ∧ ∃ A4 c4 A5 c5, Ci w' gr gc rd (recC ⟨kd, 0, 0, 0, [], u, nx, 0, 0⟩ A4 c4 A5 c5) (some []) ∧ By w' A4 ([] : List UInt8) ∧ ([] : List UInt8).length ≤ c4 ∧ Nums w' A5 (u : List Nat) ∧ (u : List Nat).length ≤ c5 ∧ (∀ b o, A5 = some ⟨b, o, none⟩ → w.heap.size ≤ b) ∧ OthR gr rd w w' := by
  have HC0 := Lib.hid h
  have HT0 := Lib.hid (OthR.refl gr rd w)
  have HUB := Lib.hid h_u2
  clear h_u2
  clear h
  go_enter Try.func93, Try.ntmps93
  have K0 := number_ci _ gr gc rd _ nx 8 0 (subsB u ++ ([] : List UInt8)) (by omega) (by omega) (by omega) HC0.out.drew
  rw [show ((8 : Nat) : Int) = 8 from rfl] at K0
  have K0 := Lib.hid K0
  have hx0 : w.drew.cell? ⟨gr, 6, none⟩ = some (.int .u64 0) := by rw [HC0.out.drew.rc.cell]; rfl
  go_upto_region 0 with fail
  refine wp_eager (gc_pre gc) (n := 16) (by kernel_rfl) (by kernel_rfl) ?_
  refine Eg.batchK (gc_pre gc) (by intro c a d v w h; cases d <;> exact h) (by kernel_rfl) (n := 9) [0, 1, 2, 4, 5, 6, 7] [] _ (by kernel_rfl) (fun K hK => ?_); (simp only [pickOps, List.getElem?_toArray, List.getElem?_cons_zero, List.getElem?_cons_succ, Option.toList_some, List.cons_append, List.nil_append]); (repeat (first | go_big_quiet_step (fail) | quiet_step (fail))); refine wpQuiet_nil (hK _ ?_); clear hK K
  (refine Eg.read (gc_pre gc) (by intro c a d v w h; cases d <;> exact h) (by kernel_rfl) (i := 3) (n := 8) (l := [0, 1, 2, 4, 5, 6, 7]) rfl (by kernel_rfl) (by kernel_rfl) rfl ⟨_, fun w' hR => load_run rfl (load_ptrR (GcR.ptr hR HC0.out.drew)), ?_⟩); (simp only [Act.put, List.setIfInBounds_toArray, List.getElem_toArray, List.getElem_cons_succ, List.getElem_cons_zero, List.set_cons_succ, List.set_cons_zero])
  (refine Eg.read (gc_pre gc) (by intro c a d v w h; cases d <;> exact h) (by kernel_rfl) (i := 8) (n := 7) (l := [0, 1, 2, 4, 5, 6, 7, 3]) rfl (by kernel_rfl) (by kernel_rfl) rfl ⟨_, fun w' hR => load_run rfl (load_ptrR (GcR.ptr hR HC0.out.drew)), ?_⟩); (simp only [Act.put, List.setIfInBounds_toArray, List.getElem_toArray, List.getElem_cons_succ, List.getElem_cons_zero, List.set_cons_succ, List.set_cons_zero])
  refine Eg.batchK (gc_pre gc) (by intro c a d v w h; cases d <;> exact h) (by kernel_rfl) (n := 5) [9, 10] [0, 1, 2, 4, 5, 6, 7, 3, 8] _ (by kernel_rfl) (fun K hK => ?_); (simp only [pickOps, List.getElem?_toArray, List.getElem?_cons_zero, List.getElem?_cons_succ, Option.toList_some, List.cons_append, List.nil_append]); (repeat (first | go_big_quiet_step (fail) | quiet_step (fail))); refine wpQuiet_nil (hK _ ?_); clear hK K
  refine Eg.act (gc_pre gc) (i := 11) (n := 4) (l := [0, 1, 2, 4, 5, 6, 7, 3, 8, 9, 10]) rfl (by kernel_rfl) ?_
  go_wp2_with (refine wpList_run_gR rfl _ (load_run rfl (load_u64 hx0)) ?_)
  refine ⟨(gc_pre gc).refl _, ?_⟩
  refine Eg.act (gc_pre gc) (i := 12) (n := 3) (l := [0, 1, 2, 4, 5, 6, 7, 3, 8, 9, 10, 11]) rfl (by kernel_rfl) ?_
  go_wp2_with fail
  refine K0.out.mono ?_
  rintro e wa0 ⟨rfl, hCa, hUa⟩
  have HTa := Lib.hid (OthR.push (HT0.out.drew) hUa.grown (fun r e => by cases e; exact .inr (.inl rfl)))
  have hxa : wa0.cell? ⟨gr, 6, none⟩ = some (.int .u64 0) := by rw [hCa.rc.cell]; rfl
  have hfa := hCa.rc.frozen 6
  have HGa := Lib.hid (gc_same HC0.out.drew hCa)
  have HCn := Lib.hid (hCa.set (noByteR _ _ _ _ _ _ _ _ _ _ _ _ _) 6 (.int .u64 (nx : Int)))
  have HGb := Lib.hid (gc_same hCa HCn.out)
  clear hCa hUa
  go_wp2_with fail
  refine ⟨HGa.out, ?_⟩
  refine Eg.batchK (gc_pre gc) (by intro c a d v w h; cases d <;> exact h) (by kernel_rfl) (n := 1) [13, 14] [0, 1, 2, 4, 5, 6, 7, 3, 8, 9, 10, 11, 12] _ (by kernel_rfl) (fun K hK => ?_); (simp only [pickOps, List.getElem?_toArray, List.getElem?_cons_zero, List.getElem?_cons_succ, Option.toList_some, List.cons_append, List.nil_append]); (repeat (first | go_big_quiet_step (fail) | quiet_step (fail))); refine wpQuiet_nil (hK _ ?_); clear hK K
  refine Eg.act (gc_pre gc) (i := 15) (n := 0) (l := [0, 1, 2, 4, 5, 6, 7, 3, 8, 9, 10, 11, 12, 13, 14]) rfl (by kernel_rfl) ?_
  go_wp2_with fail
  refine ⟨HGb.out, ?_⟩
  refine Eg.finish (by kernel_rfl) ?_
  have HC1 : Hid (Ci (wa0.setCell ⟨gr, 6, none⟩ (.int .u64 (nx : Int))) gr gc rd #[.int .i64 kd, .int .u64 0, .int .i64 0, .int .i64 0, .slice none 0 0, .slice none 0 0, .int .u64 (nx : Int), .int .u64 0, .int .u64 0] (some (subsB u ++ ([] : List UInt8)))) := Lib.hid HCn.out
  have HT1 := Lib.hid (HTa.out.push (grown_cell wa0 ⟨gr, 6, none⟩ (.int .u64 (nx : Int))) (fun r e => by cases e; exact .inl rfl))
  clear K0 hx0 HC0 HT0 HTa hxa hfa HGa HCn HGb
  obtain ⟨w_1, hw_1⟩ : ∃ W, wa0.setCell ⟨gr, 6, none⟩ (.int .u64 (nx : Int)) = W := ⟨_, rfl⟩
  rw [hw_1] at HC1 HT1 ⊢
  clear hw_1
  have K1 := subs_ci _ gr gc rd _ u ([] : List UInt8) h_u HUB.out HC1.out.drew
  have K1 := Lib.hid K1
  have hx1 : w_1.drew.cell? ⟨gr, 5, none⟩ = some (.slice none 0 0) := by rw [HC1.out.drew.rc.cell]; rfl
  go_upto_region 1 with fail
  refine wp_eager (gc_pre gc) (n := 16) (by kernel_rfl) (by kernel_rfl) ?_
  refine Eg.batchK (gc_pre gc) (by intro c a d v w h; cases d <;> exact h) (by kernel_rfl) (n := 9) [0, 1, 2, 4, 5, 6, 7] [] _ (by kernel_rfl) (fun K hK => ?_); (simp only [pickOps, List.getElem?_toArray, List.getElem?_cons_zero, List.getElem?_cons_succ, Option.toList_some, List.cons_append, List.nil_append]); (repeat (first | go_big_quiet_step (fail) | quiet_step (fail))); refine wpQuiet_nil (hK _ ?_); clear hK K
  (refine Eg.read (gc_pre gc) (by intro c a d v w h; cases d <;> exact h) (by kernel_rfl) (i := 3) (n := 8) (l := [0, 1, 2, 4, 5, 6, 7]) rfl (by kernel_rfl) (by kernel_rfl) rfl ⟨_, fun w' hR => load_run rfl (load_ptrR (GcR.ptr hR HC1.out.drew)), ?_⟩); (simp only [Act.put, List.setIfInBounds_toArray, List.getElem_toArray, List.getElem_cons_succ, List.getElem_cons_zero, List.set_cons_succ, List.set_cons_zero])
  (refine Eg.read (gc_pre gc) (by intro c a d v w h; cases d <;> exact h) (by kernel_rfl) (i := 8) (n := 7) (l := [0, 1, 2, 4, 5, 6, 7, 3]) rfl (by kernel_rfl) (by kernel_rfl) rfl ⟨_, fun w' hR => load_run rfl (load_ptrR (GcR.ptr hR HC1.out.drew)), ?_⟩); (simp only [Act.put, List.setIfInBounds_toArray, List.getElem_toArray, List.getElem_cons_succ, List.getElem_cons_zero, List.set_cons_succ, List.set_cons_zero])
  refine Eg.batchK (gc_pre gc) (by intro c a d v w h; cases d <;> exact h) (by kernel_rfl) (n := 5) [9, 10] [0, 1, 2, 4, 5, 6, 7, 3, 8] _ (by kernel_rfl) (fun K hK => ?_); (simp only [pickOps, List.getElem?_toArray, List.getElem?_cons_zero, List.getElem?_cons_succ, Option.toList_some, List.cons_append, List.nil_append]); (repeat (first | go_big_quiet_step (fail) | quiet_step (fail))); refine wpQuiet_nil (hK _ ?_); clear hK K
  refine Eg.act (gc_pre gc) (i := 11) (n := 4) (l := [0, 1, 2, 4, 5, 6, 7, 3, 8, 9, 10]) rfl (by kernel_rfl) ?_
  go_wp2_with (refine wpList_run_gR rfl _ (load_run rfl (load_slu hx1)) ?_)
  refine ⟨(gc_pre gc).refl _, ?_⟩
  refine Eg.act (gc_pre gc) (i := 12) (n := 3) (l := [0, 1, 2, 4, 5, 6, 7, 3, 8, 9, 10, 11]) rfl (by kernel_rfl) ?_
  go_wp2_with fail
  refine K1.out.mono ?_
  rintro e wa1 ⟨A5, c5, rfl, hNa, hLa, hSa, hCa, hTa⟩
  have HTa := Lib.hid (OthR.trans (HT1.out.drew) hTa)
  have hxa : wa1.cell? ⟨gr, 5, none⟩ = some (.slice none 0 0) := by rw [hCa.rc.cell]; rfl
  have hfa := hCa.rc.frozen 5
  have HGa := Lib.hid (gc_same HC1.out.drew hCa)
  have HCn := Lib.hid (hCa.set (noByteR _ _ _ _ _ _ _ _ _ _ _ _ _) 5 (.slice A5 u.length c5))
  have HGb := Lib.hid (gc_same hCa HCn.out)
  have HYb := Lib.hid (hNa.far (g := gr) (fun b o e => by obtain ⟨_, cur, hb⟩ := hSa b o e; exact hb.apart hCa.rc (by decide)) 5 (.slice A5 u.length c5))
  have HLb := Lib.hid hLa
  have HSb : Hid (∀ b o, A5 = some ⟨b, o, none⟩ → w.heap.size ≤ b) := Lib.hid (fun b o e => Nat.le_trans HT1.out.1 (hSa b o e).1)
  clear hNa hLa hSa
  clear hCa hTa
  go_wp2_with fail
  refine ⟨HGa.out, ?_⟩
  refine Eg.batchK (gc_pre gc) (by intro c a d v w h; cases d <;> exact h) (by kernel_rfl) (n := 1) [13, 14] [0, 1, 2, 4, 5, 6, 7, 3, 8, 9, 10, 11, 12] _ (by kernel_rfl) (fun K hK => ?_); (simp only [pickOps, List.getElem?_toArray, List.getElem?_cons_zero, List.getElem?_cons_succ, Option.toList_some, List.cons_append, List.nil_append]); (repeat (first | go_big_quiet_step (fail) | quiet_step (fail))); refine wpQuiet_nil (hK _ ?_); clear hK K
  refine Eg.act (gc_pre gc) (i := 15) (n := 0) (l := [0, 1, 2, 4, 5, 6, 7, 3, 8, 9, 10, 11, 12, 13, 14]) rfl (by kernel_rfl) ?_
  go_wp2_with fail
  refine ⟨HGb.out, ?_⟩
  refine Eg.finish (by kernel_rfl) ?_
  have HC2 : Hid (Ci (wa1.setCell ⟨gr, 5, none⟩ (.slice A5 u.length c5)) gr gc rd #[.int .i64 kd, .int .u64 0, .int .i64 0, .int .i64 0, .slice none 0 0, .slice A5 u.length c5, .int .u64 (nx : Int), .int .u64 0, .int .u64 0] (some ([] : List UInt8))) := Lib.hid HCn.out
  have HT2 := Lib.hid (HTa.out.push (grown_cell wa1 ⟨gr, 5, none⟩ (.slice A5 u.length c5)) (fun r e => by cases e; exact .inl rfl))
  clear K1 hx1 HC1 HT1 HTa hxa hfa HGa HCn HGb
  go_end0
  exact ⟨⟨_, rfl⟩, none, 0, A5, c5, HC2.out, .inl rfl, Nat.le_refl _, HYb.out, HLb.out, HSb.out, HT2.out⟩

set_option maxHeartbeats 3200000 in
set_option maxRecDepth 100000 in
theorem check_ci (w : World) (gr gc rd : Nat) (kd : Int) (nx : Nat) (rx : Nat) (h_next : nx < 18446744073709551616) (h_redo : rx < 18446744073709551616) (h : Ci w gr gc rd #[.int .i64 kd, .int .u64 0, .int .i64 0, .int .i64 0, .slice none 0 0, .slice none 0 0, .int .u64 0, .int .u64 0, .int .u64 0] (some (put nx 8 ++ (put rx 8 ++ ([] : List UInt8))))) :
    Calls Try.prog 94 #[.pointer (some ⟨gc, 0, none⟩)] w fun e w' => (∃ x, e = .returned x) ∧ ∃ A4 c4 A5 c5, Ci w' gr gc rd (recC ⟨kd, 0, 0, 0, [], [], nx, rx, 0⟩ A4 c4 A5 c5) (some []) ∧ By w' A4 ([] : List UInt8) ∧ ([] : List UInt8).length ≤ c4 ∧ Nums w' A5 ([] : List Nat) ∧ ([] : List Nat).length ≤ c5 ∧ (∀ b o, A5 = some ⟨b, o, none⟩ → w.heap.size ≤ b) ∧ OthR gr rd w w' := by
  have HC0 := Lib.hid h
  have HT0 := Lib.hid (OthR.refl gr rd w)
  clear h
  go_enter Try.func94, Try.ntmps94
  have K0 := number_ci _ gr gc rd _ nx 8 0 (put rx 8 ++ ([] : List UInt8)) (by omega) (by omega) (by omega) HC0.out.drew
  rw [show ((8 : Nat) : Int) = 8 from rfl] at K0
  have K0 := Lib.hid K0
  have hx0 : w.drew.cell? ⟨gr, 6, none⟩ = some (.int .u64 0) := by rw [HC0.out.drew.rc.cell]; rfl
  go_upto_region 0 with fail
  refine wp_eager (gc_pre gc) (n := 16) (by kernel_rfl) (by kernel_rfl) ?_
  refine Eg.batchK (gc_pre gc) (by intro c a d v w h; cases d <;> exact h) (by kernel_rfl) (n := 9) [0, 1, 2, 4, 5, 6, 7] [] _ (by kernel_rfl) (fun K hK => ?_); (simp only [pickOps, List.getElem?_toArray, List.getElem?_cons_zero, List.getElem?_cons_succ, Option.toList_some, List.cons_append, List.nil_append]); (repeat (first | go_big_quiet_step (fail) | quiet_step (fail))); refine wpQuiet_nil (hK _ ?_); clear hK K
  (refine Eg.read (gc_pre gc) (by intro c a d v w h; cases d <;> exact h) (by kernel_rfl) (i := 3) (n := 8) (l := [0, 1, 2, 4, 5, 6, 7]) rfl (by kernel_rfl) (by kernel_rfl) rfl ⟨_, fun w' hR => load_run rfl (load_ptrR (GcR.ptr hR HC0.out.drew)), ?_⟩); (simp only [Act.put, List.setIfInBounds_toArray, List.getElem_toArray, List.getElem_cons_succ, List.getElem_cons_zero, List.set_cons_succ, List.set_cons_zero])
  (refine Eg.read (gc_pre gc) (by intro c a d v w h; cases d <;> exact h) (by kernel_rfl) (i := 8) (n := 7) (l := [0, 1, 2, 4, 5, 6, 7, 3]) rfl (by kernel_rfl) (by kernel_rfl) rfl ⟨_, fun w' hR => load_run rfl (load_ptrR (GcR.ptr hR HC0.out.drew)), ?_⟩); (simp only [Act.put, List.setIfInBounds_toArray, List.getElem_toArray, List.getElem_cons_succ, List.getElem_cons_zero, List.set_cons_succ, List.set_cons_zero])
  refine Eg.batchK (gc_pre gc) (by intro c a d v w h; cases d <;> exact h) (by kernel_rfl) (n := 5) [9, 10] [0, 1, 2, 4, 5, 6, 7, 3, 8] _ (by kernel_rfl) (fun K hK => ?_); (simp only [pickOps, List.getElem?_toArray, List.getElem?_cons_zero, List.getElem?_cons_succ, Option.toList_some, List.cons_append, List.nil_append]); (repeat (first | go_big_quiet_step (fail) | quiet_step (fail))); refine wpQuiet_nil (hK _ ?_); clear hK K
  refine Eg.act (gc_pre gc) (i := 11) (n := 4) (l := [0, 1, 2, 4, 5, 6, 7, 3, 8, 9, 10]) rfl (by kernel_rfl) ?_
  go_wp2_with (refine wpList_run_gR rfl _ (load_run rfl (load_u64 hx0)) ?_)
  refine ⟨(gc_pre gc).refl _, ?_⟩
  refine Eg.act (gc_pre gc) (i := 12) (n := 3) (l := [0, 1, 2, 4, 5, 6, 7, 3, 8, 9, 10, 11]) rfl (by kernel_rfl) ?_
  go_wp2_with fail
  refine K0.out.mono ?_
  rintro e wa0 ⟨rfl, hCa, hUa⟩
  have HTa := Lib.hid (OthR.push (HT0.out.drew) hUa.grown (fun r e => by cases e; exact .inr (.inl rfl)))
  have hxa : wa0.cell? ⟨gr, 6, none⟩ = some (.int .u64 0) := by rw [hCa.rc.cell]; rfl
  have hfa := hCa.rc.frozen 6
  have HGa := Lib.hid (gc_same HC0.out.drew hCa)
  have HCn := Lib.hid (hCa.set (noByteR _ _ _ _ _ _ _ _ _ _ _ _ _) 6 (.int .u64 (nx : Int)))
  have HGb := Lib.hid (gc_same hCa HCn.out)
  clear hCa hUa
  go_wp2_with fail
  refine ⟨HGa.out, ?_⟩
  refine Eg.batchK (gc_pre gc) (by intro c a d v w h; cases d <;> exact h) (by kernel_rfl) (n := 1) [13, 14] [0, 1, 2, 4, 5, 6, 7, 3, 8, 9, 10, 11, 12] _ (by kernel_rfl) (fun K hK => ?_); (simp only [pickOps, List.getElem?_toArray, List.getElem?_cons_zero, List.getElem?_cons_succ, Option.toList_some, List.cons_append, List.nil_append]); (repeat (first | go_big_quiet_step (fail) | quiet_step (fail))); refine wpQuiet_nil (hK _ ?_); clear hK K
  refine Eg.act (gc_pre gc) (i := 15) (n := 0) (l := [0, 1, 2, 4, 5, 6, 7, 3, 8, 9, 10, 11, 12, 13, 14]) rfl (by kernel_rfl) ?_
  go_wp2_with fail
  refine ⟨HGb.out, ?_⟩
  refine Eg.finish (by kernel_rfl) ?_
  have HC1 : Hid (Ci (wa0.setCell ⟨gr, 6, none⟩ (.int .u64 (nx : Int))) gr gc rd #[.int .i64 kd, .int .u64 0, .int .i64 0, .int .i64 0, .slice none 0 0, .slice none 0 0, .int .u64 (nx : Int), .int .u64 0, .int .u64 0] (some (put rx 8 ++ ([] : List UInt8)))) := Lib.hid HCn.out
  have HT1 := Lib.hid (HTa.out.push (grown_cell wa0 ⟨gr, 6, none⟩ (.int .u64 (nx : Int))) (fun r e => by cases e; exact .inl rfl))
  clear K0 hx0 HC0 HT0 HTa hxa hfa HGa HCn HGb
  obtain ⟨w_1, hw_1⟩ : ∃ W, wa0.setCell ⟨gr, 6, none⟩ (.int .u64 (nx : Int)) = W := ⟨_, rfl⟩
  rw [hw_1] at HC1 HT1 ⊢
  clear hw_1
  have K1 := number_ci _ gr gc rd _ rx 8 0 ([] : List UInt8) (by omega) (by omega) (by omega) HC1.out.drew
  rw [show ((8 : Nat) : Int) = 8 from rfl] at K1
  have K1 := Lib.hid K1
  have hx1 : w_1.drew.cell? ⟨gr, 7, none⟩ = some (.int .u64 0) := by rw [HC1.out.drew.rc.cell]; rfl
  go_upto_region 1 with fail
  refine wp_eager (gc_pre gc) (n := 16) (by kernel_rfl) (by kernel_rfl) ?_
  refine Eg.batchK (gc_pre gc) (by intro c a d v w h; cases d <;> exact h) (by kernel_rfl) (n := 9) [0, 1, 2, 4, 5, 6, 7] [] _ (by kernel_rfl) (fun K hK => ?_); (simp only [pickOps, List.getElem?_toArray, List.getElem?_cons_zero, List.getElem?_cons_succ, Option.toList_some, List.cons_append, List.nil_append]); (repeat (first | go_big_quiet_step (fail) | quiet_step (fail))); refine wpQuiet_nil (hK _ ?_); clear hK K
  (refine Eg.read (gc_pre gc) (by intro c a d v w h; cases d <;> exact h) (by kernel_rfl) (i := 3) (n := 8) (l := [0, 1, 2, 4, 5, 6, 7]) rfl (by kernel_rfl) (by kernel_rfl) rfl ⟨_, fun w' hR => load_run rfl (load_ptrR (GcR.ptr hR HC1.out.drew)), ?_⟩); (simp only [Act.put, List.setIfInBounds_toArray, List.getElem_toArray, List.getElem_cons_succ, List.getElem_cons_zero, List.set_cons_succ, List.set_cons_zero])
  (refine Eg.read (gc_pre gc) (by intro c a d v w h; cases d <;> exact h) (by kernel_rfl) (i := 8) (n := 7) (l := [0, 1, 2, 4, 5, 6, 7, 3]) rfl (by kernel_rfl) (by kernel_rfl) rfl ⟨_, fun w' hR => load_run rfl (load_ptrR (GcR.ptr hR HC1.out.drew)), ?_⟩); (simp only [Act.put, List.setIfInBounds_toArray, List.getElem_toArray, List.getElem_cons_succ, List.getElem_cons_zero, List.set_cons_succ, List.set_cons_zero])
  refine Eg.batchK (gc_pre gc) (by intro c a d v w h; cases d <;> exact h) (by kernel_rfl) (n := 5) [9, 10] [0, 1, 2, 4, 5, 6, 7, 3, 8] _ (by kernel_rfl) (fun K hK => ?_); (simp only [pickOps, List.getElem?_toArray, List.getElem?_cons_zero, List.getElem?_cons_succ, Option.toList_some, List.cons_append, List.nil_append]); (repeat (first | go_big_quiet_step (fail) | quiet_step (fail))); refine wpQuiet_nil (hK _ ?_); clear hK K
  refine Eg.act (gc_pre gc) (i := 11) (n := 4) (l := [0, 1, 2, 4, 5, 6, 7, 3, 8, 9, 10]) rfl (by kernel_rfl) ?_
  go_wp2_with (refine wpList_run_gR rfl _ (load_run rfl (load_u64 hx1)) ?_)
  refine ⟨(gc_pre gc).refl _, ?_⟩
  refine Eg.act (gc_pre gc) (i := 12) (n := 3) (l := [0, 1, 2, 4, 5, 6, 7, 3, 8, 9, 10, 11]) rfl (by kernel_rfl) ?_
  go_wp2_with fail
  refine K1.out.mono ?_
  rintro e wa1 ⟨rfl, hCa, hUa⟩
  have HTa := Lib.hid (OthR.push (HT1.out.drew) hUa.grown (fun r e => by cases e; exact .inr (.inl rfl)))
  have hxa : wa1.cell? ⟨gr, 7, none⟩ = some (.int .u64 0) := by rw [hCa.rc.cell]; rfl
  have hfa := hCa.rc.frozen 7
  have HGa := Lib.hid (gc_same HC1.out.drew hCa)
  have HCn := Lib.hid (hCa.set (noByteR _ _ _ _ _ _ _ _ _ _ _ _ _) 7 (.int .u64 (rx : Int)))
  have HGb := Lib.hid (gc_same hCa HCn.out)
  clear hCa hUa
  go_wp2_with fail
  refine ⟨HGa.out, ?_⟩
  refine Eg.batchK (gc_pre gc) (by intro c a d v w h; cases d <;> exact h) (by kernel_rfl) (n := 1) [13, 14] [0, 1, 2, 4, 5, 6, 7, 3, 8, 9, 10, 11, 12] _ (by kernel_rfl) (fun K hK => ?_); (simp only [pickOps, List.getElem?_toArray, List.getElem?_cons_zero, List.getElem?_cons_succ, Option.toList_some, List.cons_append, List.nil_append]); (repeat (first | go_big_quiet_step (fail) | quiet_step (fail))); refine wpQuiet_nil (hK _ ?_); clear hK K
  refine Eg.act (gc_pre gc) (i := 15) (n := 0) (l := [0, 1, 2, 4, 5, 6, 7, 3, 8, 9, 10, 11, 12, 13, 14]) rfl (by kernel_rfl) ?_
  go_wp2_with fail
  refine ⟨HGb.out, ?_⟩
  refine Eg.finish (by kernel_rfl) ?_
  have HC2 : Hid (Ci (wa1.setCell ⟨gr, 7, none⟩ (.int .u64 (rx : Int))) gr gc rd #[.int .i64 kd, .int .u64 0, .int .i64 0, .int .i64 0, .slice none 0 0, .slice none 0 0, .int .u64 (nx : Int), .int .u64 (rx : Int), .int .u64 0] (some ([] : List UInt8))) := Lib.hid HCn.out
  have HT2 := Lib.hid (HTa.out.push (grown_cell wa1 ⟨gr, 7, none⟩ (.int .u64 (rx : Int))) (fun r e => by cases e; exact .inl rfl))
  clear K1 hx1 HC1 HT1 HTa hxa hfa HGa HCn HGb
  go_end0
  exact ⟨⟨_, rfl⟩, none, 0, none, 0, HC2.out, .inl rfl, Nat.le_refl _, .inl rfl, Nat.le_refl _, (fun b o e => by cases e), HT2.out⟩

set_option maxHeartbeats 3200000 in
set_option maxRecDepth 100000 in
theorem switched_ci (w : World) (gr gc rd : Nat) (kd : Int) (rx : Nat) (tl : Nat) (h_redo : rx < 18446744073709551616) (h_tml : tl < 18446744073709551616) (h : Ci w gr gc rd #[.int .i64 kd, .int .u64 0, .int .i64 0, .int .i64 0, .slice none 0 0, .slice none 0 0, .int .u64 0, .int .u64 0, .int .u64 0] (some (put rx 8 ++ (put tl 8 ++ ([] : List UInt8))))) :
    Calls Try.prog 95 #[.pointer (some ⟨gc, 0, none⟩)] w fun e w' => (∃ x, e = .returned x) ∧ ∃ A4 c4 A5 c5, Ci w' gr gc rd (recC ⟨kd, 0, 0, 0, [], [], 0, rx, tl⟩ A4 c4 A5 c5) (some []) ∧ By w' A4 ([] : List UInt8) ∧ ([] : List UInt8).length ≤ c4 ∧ Nums w' A5 ([] : List Nat) ∧ ([] : List Nat).length ≤ c5 ∧ (∀ b o, A5 = some ⟨b, o, none⟩ → w.heap.size ≤ b) ∧ OthR gr rd w w' := by
  have HC0 := Lib.hid h
  have HT0 := Lib.hid (OthR.refl gr rd w)
  clear h
  go_enter Try.func95, Try.ntmps95
  have K0 := number_ci _ gr gc rd _ rx 8 0 (put tl 8 ++ ([] : List UInt8)) (by omega) (by omega) (by omega) HC0.out.drew
  rw [show ((8 : Nat) : Int) = 8 from rfl] at K0
  have K0 := Lib.hid K0
  have hx0 : w.drew.cell? ⟨gr, 7, none⟩ = some (.int .u64 0) := by rw [HC0.out.drew.rc.cell]; rfl
  go_upto_region 0 with fail
  refine wp_eager (gc_pre gc) (n := 16) (by kernel_rfl) (by kernel_rfl) ?_
  refine Eg.batchK (gc_pre gc) (by intro c a d v w h; cases d <;> exact h) (by kernel_rfl) (n := 9) [0, 1, 2, 4, 5, 6, 7] [] _ (by kernel_rfl) (fun K hK => ?_); (simp only [pickOps, List.getElem?_toArray, List.getElem?_cons_zero, List.getElem?_cons_succ, Option.toList_some, List.cons_append, List.nil_append]); (repeat (first | go_big_quiet_step (fail) | quiet_step (fail))); refine wpQuiet_nil (hK _ ?_); clear hK K
  (refine Eg.read (gc_pre gc) (by intro c a d v w h; cases d <;> exact h) (by kernel_rfl) (i := 3) (n := 8) (l := [0, 1, 2, 4, 5, 6, 7]) rfl (by kernel_rfl) (by kernel_rfl) rfl ⟨_, fun w' hR => load_run rfl (load_ptrR (GcR.ptr hR HC0.out.drew)), ?_⟩); (simp only [Act.put, List.setIfInBounds_toArray, List.getElem_toArray, List.getElem_cons_succ, List.getElem_cons_zero, List.set_cons_succ, List.set_cons_zero])
  (refine Eg.read (gc_pre gc) (by intro c a d v w h; cases d <;> exact h) (by kernel_rfl) (i := 8) (n := 7) (l := [0, 1, 2, 4, 5, 6, 7, 3]) rfl (by kernel_rfl) (by kernel_rfl) rfl ⟨_, fun w' hR => load_run rfl (load_ptrR (GcR.ptr hR HC0.out.drew)), ?_⟩); (simp only [Act.put, List.setIfInBounds_toArray, List.getElem_toArray, List.getElem_cons_succ, List.getElem_cons_zero, List.set_cons_succ, List.set_cons_zero])
  refine Eg.batchK (gc_pre gc) (by intro c a d v w h; cases d <;> exact h) (by kernel_rfl) (n := 5) [9, 10] [0, 1, 2, 4, 5, 6, 7, 3, 8] _ (by kernel_rfl) (fun K hK => ?_); (simp only [pickOps, List.getElem?_toArray, List.getElem?_cons_zero, List.getElem?_cons_succ, Option.toList_some, List.cons_append, List.nil_append]); (repeat (first | go_big_quiet_step (fail) | quiet_step (fail))); refine wpQuiet_nil (hK _ ?_); clear hK K
  refine Eg.act (gc_pre gc) (i := 11) (n := 4) (l := [0, 1, 2, 4, 5, 6, 7, 3, 8, 9, 10]) rfl (by kernel_rfl) ?_
  go_wp2_with (refine wpList_run_gR rfl _ (load_run rfl (load_u64 hx0)) ?_)
  refine ⟨(gc_pre gc).refl _, ?_⟩
  refine Eg.act (gc_pre gc) (i := 12) (n := 3) (l := [0, 1, 2, 4, 5, 6, 7, 3, 8, 9, 10, 11]) rfl (by kernel_rfl) ?_
  go_wp2_with fail
  refine K0.out.mono ?_
  rintro e wa0 ⟨rfl, hCa, hUa⟩
  have HTa := Lib.hid (OthR.push (HT0.out.drew) hUa.grown (fun r e => by cases e; exact .inr (.inl rfl)))
  have hxa : wa0.cell? ⟨gr, 7, none⟩ = some (.int .u64 0) := by rw [hCa.rc.cell]; rfl
  have hfa := hCa.rc.frozen 7
  have HGa := Lib.hid (gc_same HC0.out.drew hCa)
  have HCn := Lib.hid (hCa.set (noByteR _ _ _ _ _ _ _ _ _ _ _ _ _) 7 (.int .u64 (rx : Int)))
  have HGb := Lib.hid (gc_same hCa HCn.out)
  clear hCa hUa
  go_wp2_with fail
  refine ⟨HGa.out, ?_⟩
  refine Eg.batchK (gc_pre gc) (by intro c a d v w h; cases d <;> exact h) (by kernel_rfl) (n := 1) [13, 14] [0, 1, 2, 4, 5, 6, 7, 3, 8, 9, 10, 11, 12] _ (by kernel_rfl) (fun K hK => ?_); (simp only [pickOps, List.getElem?_toArray, List.getElem?_cons_zero, List.getElem?_cons_succ, Option.toList_some, List.cons_append, List.nil_append]); (repeat (first | go_big_quiet_step (fail) | quiet_step (fail))); refine wpQuiet_nil (hK _ ?_); clear hK K
  refine Eg.act (gc_pre gc) (i := 15) (n := 0) (l := [0, 1, 2, 4, 5, 6, 7, 3, 8, 9, 10, 11, 12, 13, 14]) rfl (by kernel_rfl) ?_
  go_wp2_with fail
  refine ⟨HGb.out, ?_⟩
  refine Eg.finish (by kernel_rfl) ?_
  have HC1 : Hid (Ci (wa0.setCell ⟨gr, 7, none⟩ (.int .u64 (rx : Int))) gr gc rd #[.int .i64 kd, .int .u64 0, .int .i64 0, .int .i64 0, .slice none 0 0, .slice none 0 0, .int .u64 0, .int .u64 (rx : Int), .int .u64 0] (some (put tl 8 ++ ([] : List UInt8)))) := Lib.hid HCn.out
  have HT1 := Lib.hid (HTa.out.push (grown_cell wa0 ⟨gr, 7, none⟩ (.int .u64 (rx : Int))) (fun r e => by cases e; exact .inl rfl))
  clear K0 hx0 HC0 HT0 HTa hxa hfa HGa HCn HGb
  obtain ⟨w_1, hw_1⟩ : ∃ W, wa0.setCell ⟨gr, 7, none⟩ (.int .u64 (rx : Int)) = W := ⟨_, rfl⟩
  rw [hw_1] at HC1 HT1 ⊢
  clear hw_1
  have K1 := number_ci _ gr gc rd _ tl 8 0 ([] : List UInt8) (by omega) (by omega) (by omega) HC1.out.drew
  rw [show ((8 : Nat) : Int) = 8 from rfl] at K1
  have K1 := Lib.hid K1
  have hx1 : w_1.drew.cell? ⟨gr, 8, none⟩ = some (.int .u64 0) := by rw [HC1.out.drew.rc.cell]; rfl
  go_upto_region 1 with fail
  refine wp_eager (gc_pre gc) (n := 16) (by kernel_rfl) (by kernel_rfl) ?_
  refine Eg.batchK (gc_pre gc) (by intro c a d v w h; cases d <;> exact h) (by kernel_rfl) (n := 9) [0, 1, 2, 4, 5, 6, 7] [] _ (by kernel_rfl) (fun K hK => ?_); (simp only [pickOps, List.getElem?_toArray, List.getElem?_cons_zero, List.getElem?_cons_succ, Option.toList_some, List.cons_append, List.nil_append]); (repeat (first | go_big_quiet_step (fail) | quiet_step (fail))); refine wpQuiet_nil (hK _ ?_); clear hK K
  (refine Eg.read (gc_pre gc) (by intro c a d v w h; cases d <;> exact h) (by kernel_rfl) (i := 3) (n := 8) (l := [0, 1, 2, 4, 5, 6, 7]) rfl (by kernel_rfl) (by kernel_rfl) rfl ⟨_, fun w' hR => load_run rfl (load_ptrR (GcR.ptr hR HC1.out.drew)), ?_⟩); (simp only [Act.put, List.setIfInBounds_toArray, List.getElem_toArray, List.getElem_cons_succ, List.getElem_cons_zero, List.set_cons_succ, List.set_cons_zero])
  (refine Eg.read (gc_pre gc) (by intro c a d v w h; cases d <;> exact h) (by kernel_rfl) (i := 8) (n := 7) (l := [0, 1, 2, 4, 5, 6, 7, 3]) rfl (by kernel_rfl) (by kernel_rfl) rfl ⟨_, fun w' hR => load_run rfl (load_ptrR (GcR.ptr hR HC1.out.drew)), ?_⟩); (simp only [Act.put, List.setIfInBounds_toArray, List.getElem_toArray, List.getElem_cons_succ, List.getElem_cons_zero, List.set_cons_succ, List.set_cons_zero])
  refine Eg.batchK (gc_pre gc) (by intro c a d v w h; cases d <;> exact h) (by kernel_rfl) (n := 5) [9, 10] [0, 1, 2, 4, 5, 6, 7, 3, 8] _ (by kernel_rfl) (fun K hK => ?_); (simp only [pickOps, List.getElem?_toArray, List.getElem?_cons_zero, List.getElem?_cons_succ, Option.toList_some, List.cons_append, List.nil_append]); (repeat (first | go_big_quiet_step (fail) | quiet_step (fail))); refine wpQuiet_nil (hK _ ?_); clear hK K
  refine Eg.act (gc_pre gc) (i := 11) (n := 4) (l := [0, 1, 2, 4, 5, 6, 7, 3, 8, 9, 10]) rfl (by kernel_rfl) ?_
  go_wp2_with (refine wpList_run_gR rfl _ (load_run rfl (load_u64 hx1)) ?_)
  refine ⟨(gc_pre gc).refl _, ?_⟩
  refine Eg.act (gc_pre gc) (i := 12) (n := 3) (l := [0, 1, 2, 4, 5, 6, 7, 3, 8, 9, 10, 11]) rfl (by kernel_rfl) ?_
  go_wp2_with fail
  refine K1.out.mono ?_
  rintro e wa1 ⟨rfl, hCa, hUa⟩
  have HTa := Lib.hid (OthR.push (HT1.out.drew) hUa.grown (fun r e => by cases e; exact .inr (.inl rfl)))
  have hxa : wa1.cell? ⟨gr, 8, none⟩ = some (.int .u64 0) := by rw [hCa.rc.cell]; rfl
  have hfa := hCa.rc.frozen 8
  have HGa := Lib.hid (gc_same HC1.out.drew hCa)
  have HCn := Lib.hid (hCa.set (noByteR _ _ _ _ _ _ _ _ _ _ _ _ _) 8 (.int .u64 (tl : Int)))
  have HGb := Lib.hid (gc_same hCa HCn.out)
  clear hCa hUa
  go_wp2_with fail
  refine ⟨HGa.out, ?_⟩
  refine Eg.batchK (gc_pre gc) (by intro c a d v w h; cases d <;> exact h) (by kernel_rfl) (n := 1) [13, 14] [0, 1, 2, 4, 5, 6, 7, 3, 8, 9, 10, 11, 12] _ (by kernel_rfl) (fun K hK => ?_); (simp only [pickOps, List.getElem?_toArray, List.getElem?_cons_zero, List.getElem?_cons_succ, Option.toList_some, List.cons_append, List.nil_append]); (repeat (first | go_big_quiet_step (fail) | quiet_step (fail))); refine wpQuiet_nil (hK _ ?_); clear hK K
  refine Eg.act (gc_pre gc) (i := 15) (n := 0) (l := [0, 1, 2, 4, 5, 6, 7, 3, 8, 9, 10, 11, 12, 13, 14]) rfl (by kernel_rfl) ?_
  go_wp2_with fail
  refine ⟨HGb.out, ?_⟩
  refine Eg.finish (by kernel_rfl) ?_
  have HC2 : Hid (Ci (wa1.setCell ⟨gr, 8, none⟩ (.int .u64 (tl : Int))) gr gc rd #[.int .i64 kd, .int .u64 0, .int .i64 0, .int .i64 0, .slice none 0 0, .slice none 0 0, .int .u64 0, .int .u64 (rx : Int), .int .u64 (tl : Int)] (some ([] : List UInt8))) := Lib.hid HCn.out
  have HT2 := Lib.hid (HTa.out.push (grown_cell wa1 ⟨gr, 8, none⟩ (.int .u64 (tl : Int))) (fun r e => by cases e; exact .inl rfl))
  clear K1 hx1 HC1 HT1 HTa hxa hfa HGa HCn HGb
  go_end0
  exact ⟨⟨_, rfl⟩, none, 0, none, 0, HC2.out, .inl rfl, Nat.le_refl _, .inl rfl, Nat.le_refl _, (fun b o e => by cases e), HT2.out⟩

end Go.Proofs.Ytgbfeagoadlhmaa
