
/-
  Contracts of a net that is not there (nil, or a zero one).
-/
import Derived.Test.YtahooohokdbnpaaNetQ
set_option linter.unusedVariables false
set_option linter.unusedSimpArgs false
namespace Go.Proofs.Ytahooohokdbnpaa
open Go.RowKit Go.Shelf Go.Maps Pl

attribute [local go_sem] Oper.semAt_some

set_option maxHeartbeats 2000000 in
set_option maxRecDepth 100000 in
theorem Len_of {w : World} {p : Value} {F : List Fl} (KF0 : ∀ W, Ext w W → Calls Try.prog 38 #[p] W fun e w' => ∃ gl, e = .returned (flightsV gl) ∧ FlSt W w' W.heap.size gl F ∧ W.heap.size ≤ gl ∧ Ext W w') (hlen : F.length ≤ 800) :
    Calls Try.prog 15 #[p] w fun e w' => e = .returned (.int .i64 (F.length : Int)) ∧ Ext w w' := by
  have KF := Lib.hid KF0
  have HLEN := Lib.hid hlen
  have HE1 := Lib.hid (ext_new w (.cells #[.int .i64 0] 3))
  have HB := Lib.hid (Blk.new w 3 #[.int .i64 0])
  clear KF0 hlen
  refine callsIn_wide.1 (callsIn_of_wp_marks (n := 3) Try.func15 rfl trivial (wpIn_wide.2 (wp_quiet ?_)) rfl)
  simp only [Try.ntmps15, List.size_toArray, List.length_cons, List.length_nil, Nat.reduceAdd, Nat.reduceSub, Array.replicate_succ, Array.replicate_zero, List.push_toArray, List.append_toArray, List.nil_append, List.cons_append]
  go_wp2_with fail
  generalize w.alloc (.cells #[.int .i64 0] 3) = w1 at *
  refine (KF.out w1 HE1.out).mono ?_
  rintro e w4 ⟨gl, rfl, ⟨v, cs, hv, hrow, hcells⟩, hgl, hE4⟩
  have hle := HLEN.out
  have hbl := HB.out.lt
  have HC4 : Hid (flC w1 gl v cs F w4) := Lib.hid ⟨hv, row_down hrow (Nat.zero_le _), fun k cur hb => hb.ext hE4⟩
  have HRW := Lib.hid (World.ownsRow.lt hrow)
  have HB4 := Lib.hid (HB.out.ext hE4)
  have HE4 := Lib.hid (HE1.out.trans hE4)
  have hs4 := hE4.size
  have hgl4 := hv.lt
  have HNG : Hid (¬ flG w1 gl v w.heap.size) := Lib.hid (fun h => by
    rcases h with h | h | ⟨cur, h⟩
    · omega
    · have := (HRW.out _ h).1; omega
    · exact absurd (HB.out.type h).1 (by decide))
  have hG : ∀ k, flG w1 gl v k → k < w4.heap.size := fun k hk => by
    rcases hk with rfl | h1 | ⟨cur, h1⟩
    · exact hgl4
    · exact (HRW.out k h1).2
    · exact Nat.lt_of_lt_of_le h1.lt hs4
  go_wp2_with fail
  refine wp_rangeF (σ := Nat) 3 (by omega) (gf := 52) (lb := #[.pointer (some ⟨gl, 0, none⟩)]) rfl (enters_of Try.func52 (by kernel_rfl) rfl) (flights_seq w1 gl v cs F hcells (by omega) 2 (by omega))
    (fun W hg => HC4.out.keep (fun k hk _ => hg.block k hk (by simp))) hG (fun N s args s' A hx => by obtain ⟨_, _, _, vb, rfl, _⟩ := hx; rfl) (fun N' s args s' => flX_firm _ N' s args s')
    (fun s W => s ≤ F.length ∧ Blk W w.heap.size 3 #[.int .i64 (s : Int)] ∧ Ext w W) (fun _ _ _ => False)
    (fun s A B row h hg hr => ⟨h.1, h.2.1.firm hg (fun r e => (hr r e).2), h.2.2.grown hg (fun k e => by have := (hr k e).1; have := HE4.out.size; omega)⟩)
    (fun c s A B row h hg hr => h) ⟨Nat.zero_le _, HB4.out, HE4.out⟩
    (fun args T => (T.setIfInBounds 6 (args.getD 0 undef)).setIfInBounds 7 (args.getD 1 undef)) ?assign ?body ?done ?stop
  case assign =>
    rintro l s args s' W K ⟨_, _, _, vb, rfl, _⟩ hK
    generalize F.getD s fl0 = f at *
    gi_wp2_with fail
    exact hK
  case body =>
    rintro l s args s' W ⟨hsl, hb, hE⟩ ⟨hs2, rfl, _, vb, rfl, hbs⟩
    simp only [Array.getD_eq_getD_getElem?, List.getElem?_toArray, List.getElem?_cons_zero, List.getElem?_cons_succ, Option.getD_some, List.setIfInBounds_toArray, List.set_cons_succ, List.set_cons_zero]
    obtain ⟨Ab, cb, rfl, _⟩ := hbs
    have c1 := cell1 hb
    have f1 := hb.frozen 0
    have hs3 : s ≤ 1000 := by omega
    have HB5 := Lib.hid hb
    have HE5 := Lib.hid hE
    have HS2 := Lib.hid hs2
    clear hb hE hs2 hsl HC4 hrow hcells hv
    generalize F.getD s fl0 = f at *
    gi_wp2_with fail
    have g1 := grown_set W ⟨w.heap.size, 0, none⟩ (.int .i64 ((s : Int) + 1))
    have hK := (KK.refl w4.heap.size (flG w1 gl v) (w4.heap.size + 2) 0 5 W).step g1 HB5.out HNG.out (.inl (by show w.heap.size < _; omega)) (by decide)
    exact ⟨hK.1, hK.2.1, HS2.out, HB5.out.set 0 (.int .i64 ((s : Int) + 1)), HE5.out.setCell (by show _ ≤ w.heap.size; omega) _⟩
  case done =>
    rintro D s W hD rfl ⟨hsl, hb, hE⟩ hK
    have c1 := cell1 hb
    have HE5 := Lib.hid hE
    have HK5 := Lib.hid hK
    clear hb hE hK hsl HC4 hrow hcells
    generalize hfl : F.length = fl at *
    go_wp2_with fail
    exact postM_mark HK5.out (results_tmp Try.results15 _ _ _) (by rw [hfl]; exact ⟨rfl, HE5.out.mark (by have := HE4.out.size; omega)⟩)
  case stop =>
    rintro D c s W _ _ h _
    exact h.elim

/-! ## Clear -/

set_option maxHeartbeats 2000000 in
set_option maxRecDepth 100000 in
theorem All_of {w : World} {p : Value} {F : List Fl} (KF0 : ∀ W, Ext w W → Calls Try.prog 38 #[p] W fun e w' => ∃ gl, e = .returned (flightsV gl) ∧ FlSt W w' W.heap.size gl F ∧ W.heap.size ≤ gl ∧ Ext W w') :
    Calls Try.prog 36 #[p] w fun e w' => ∃ ga gl v cs, e = .returned (allV ga) ∧ FlCells w cs F ∧ alC w ga gl v cs F w' ∧ w.heap.size ≤ gl ∧ w.heap.size ≤ ga ∧ (∀ k, v.ownBlock = some k → w.heap.size ≤ k) ∧ Ext w w' := by
  have KF := Lib.hid (KF0 w (Ext.refl w))
  clear KF0
  go_enter Try.func36, Try.ntmps36
  go_wp2_with fail
  refine KF.out.mono ?_
  rintro e w2 ⟨gl, rfl, ⟨v, cs, hv, hrow, hcells⟩, hgl, hE2⟩
  have hX := ext_new w2 (.cells #[flightsV gl] 68)
  have HB := Lib.hid (Blk.new w2 68 #[flightsV gl])
  have HC : Hid (flC w gl v cs F (w2.alloc (.cells #[flightsV gl] 68))) := Lib.hid (flC.ext ⟨hv, row_down hrow (Nat.zero_le _), fun k cur hb => hb.ext hE2⟩ hX)
  have HLT := Lib.hid (World.ownsRow.lt hrow)
  have HCE := Lib.hid hcells
  have HE := Lib.hid (hE2.trans hX)
  have hs2 := hE2.size
  clear hv hrow hcells hX hE2
  unfold flightsV
  unfold flightsV at HB
  go_wp2_with fail
  go_ret
  exact ⟨_, gl, v, cs, rfl, HCE.out, ⟨HB.out, HC.out⟩, hgl, hs2, fun k hk => (HLT.out k hk).1, HE.out⟩

/-- a net that is not there: nil, or a zero one -/
def NoneP (w : World) (x : Value) : Prop := x = .pointer none ∨ ∃ z, x = .pointer (some ⟨z, 0, none⟩) ∧ Blk w z 75 #[.int .i64 0, .map none, .int .i64 0]
theorem NoneP.ext {w w' : World} {x : Value} (h : NoneP w x) (hE : Ext w w') : NoneP w' x := by
  rcases h with h | ⟨z, h, hb⟩
  · exact .inl h
  · exact .inr ⟨z, h, hb.ext hE⟩
theorem none_no {w : World} {x : Value} (h : NoneP w x) : Calls Try.prog 42 #[x] w fun e w' => e = .returned (.bool true) ∧ w = w' := by
  rcases h with rfl | ⟨z, rfl, hb⟩
  · exact none_nil w
  · have he : w.cell? ⟨z, 0, none⟩ = some (.int .i64 0) := by rw [hb.cell]; rfl
    clear hb
    go_enter Try.func42, Try.ntmps42
    go_wp2_with fail
    go_ret
    exact ⟨rfl, rfl⟩
set_option maxHeartbeats 2000000 in
set_option maxRecDepth 100000 in
theorem flights_no {w : World} {x : Value} (h : NoneP w x) :
    Calls Try.prog 38 #[x] w fun e w' => ∃ gl, e = .returned (flightsV gl) ∧ FlSt w w' w.heap.size gl [] ∧ w.heap.size ≤ gl ∧ Ext w w' := by
  have KN := Lib.hid (fun W (hW : Ext w W) => none_no (h.ext hW))
  have HBL := Lib.hid (Blk.new w 41 #[.slice none 0 0])
  have HE1 := Lib.hid (ext_new w (.cells #[.slice none 0 0] 41))
  clear h
  go_enter Try.func38, Try.ntmps38
  go_wp2_with fail
  generalize w.alloc (.cells #[.slice none 0 0] 41) = w1 at *
  refine (KN.out w1 HE1.out).mono ?_
  rintro e w' ⟨rfl, rfl⟩
  go_wp2_with fail
  go_ret
  exact ⟨w.heap.size, rfl, ⟨.slice none 0 0, [], HBL.out, World.ownsRow_nil _ _ _ _, FlCells.nil w⟩, Nat.le_refl _, HE1.out⟩
theorem Len_no {w : World} {x : Value} (h : NoneP w x) : Calls Try.prog 15 #[x] w fun e w' => e = .returned (.int .i64 0) ∧ Ext w w' :=
  Len_of (F := []) (fun W hW => flights_no (h.ext hW)) (Nat.zero_le _)
theorem flights_none {w : World} {x : Value} (h : NoneP w x) : Calls Try.prog 16 #[x, .int .i64 0] w fun e w' => ∃ A c, e = .returned (.tuple #[.slice A 0 c, .bool true]) ∧ Ext w w' := by
  refine (flights_of (fs := []) (fun W hW => All_of (F := []) (fun W' hW' => flights_no (h.ext (hW.trans hW')))) (Nat.zero_le _) (fun f hf => by simp at hf) 0 (by unfold I64; omega)).mono ?_
  rintro e w1 ⟨v, cs, rfl, hrow, hown, hE⟩
  obtain ⟨A, c, rfl⟩ := row_form hrow
  exact ⟨A, c, rfl, hE⟩
set_option maxHeartbeats 2000000 in
set_option maxRecDepth 100000 in
theorem find_no {w : World} {x : Value} (h : NoneP w x) (z : Int) : Calls Try.prog 39 #[x, .int .i64 z] w fun e w' => e = .returned (.tuple #[.agg #[.int .i64 0, .int .i64 0, .slice none 0 0], .int .i64 0, .int .i64 1]) ∧ Ext w w' := by
  have KN := Lib.hid (fun W (hW : Ext w W) => none_no (h.ext hW))
  have hzr : (zeroValue 45).run Try.prog w = .ok (.agg #[.int .i64 0, .int .i64 0, .slice none 0 0]) w := by kernel_rfl
  have HE0 := Lib.hid ((ext_new w (.cells #[.int .i64 z] 3)).alloc (.cells #[.int .i64 0, .int .i64 0, .slice none 0 0] 45))
  have HBr := Lib.hid (Blk.new (w.alloc (.cells #[.int .i64 z] 3)) 45 #[.int .i64 0, .int .i64 0, .slice none 0 0])
  rw [World.size_alloc] at HBr
  clear h
  refine callsIn_wide.1 (callsIn_of_wp_marks (n := 3) Try.func39 rfl trivial (wpIn_wide.2 (wp_quiet ?_)) rfl)
  simp only [Try.ntmps39, List.size_toArray, List.length_cons, List.length_nil, Nat.reduceAdd, Nat.reduceSub, Array.replicate_succ, Array.replicate_zero, List.push_toArray, List.append_toArray, List.nil_append, List.cons_append]
  go_wp2_with fail
  generalize (w.alloc (.cells #[.int .i64 z] 3)).alloc (.cells #[.int .i64 0, .int .i64 0, .slice none 0 0] 45) = w1 at *
  go_step3
  go_wp2_with fail
  refine (KN.out w1 HE0.out).mono ?_
  rintro e w' ⟨rfl, rfl⟩
  go_wp2_with (refine wpList_store_row rfl 45 _ _ rfl _ _ rfl rfl _ _ HBr.out (Try.flSize _ _ _) rfl (fl_one _ _ _ _ _) ?_)
  rw [Exit.noGoto_ret]
  exact postM_ret (results_row3 Try.results39 _ _ (w.heap.size + 1) _ #[.int .i64 0, .int .i64 0, .slice none 0 0] (0, 0) _ rfl (HBr.out.row _) Try.underlying45 rfl (Try.flSize _ _ _)) ⟨rfl, HE0.out.setRow (by omega) _⟩
set_option maxHeartbeats 2000000 in
set_option maxRecDepth 100000 in
theorem Take_no {w : World} {x : Value} (h : NoneP w x) (z : Int) : Calls Try.prog 17 #[x, .int .i64 z] w fun e w' => e = .returned (.tuple #[.agg #[.int .i64 0, .int .i64 0, .slice none 0 0], .int .i64 1]) ∧ Ext w w' := by
  have KF := Lib.hid (fun W (hW : Ext w W) => find_no (h.ext hW) z)
  have hzr : (zeroValue 45).run Try.prog w = .ok (.agg #[.int .i64 0, .int .i64 0, .slice none 0 0]) w := by kernel_rfl
  have HE1 := Lib.hid (ext_new w (.cells #[.int .i64 0, .int .i64 0, .slice none 0 0] 45))
  have HBr := Lib.hid (Blk.new w 45 #[.int .i64 0, .int .i64 0, .slice none 0 0])
  clear h
  go_enter Try.func17, Try.ntmps17
  go_wp2_with fail
  generalize w.alloc (.cells #[.int .i64 0, .int .i64 0, .slice none 0 0] 45) = w1 at *
  refine (KF.out w1 HE1.out).mono ?_
  rintro e w2 ⟨rfl, hE2⟩
  have HBr2 := Lib.hid (HBr.out.ext hE2)
  have HE2 := Lib.hid (HE1.out.trans hE2)
  have HX := ext_new w2 (.cells #[.int .i64 0, .int .i64 0, .slice none 0 0] 45)
  have HBr3 := Lib.hid (HBr2.out.ext HX)
  have HE3 := Lib.hid (HE2.out.trans HX)
  have hzr2 : ∀ W, (zeroValue 45).run Try.prog W = .ok (.agg #[.int .i64 0, .int .i64 0, .slice none 0 0]) W := fun W => by kernel_rfl
  clear HBr HE1 hE2 HX KF HBr2 HE2
  go_wp2_with (refine wpList_store_row rfl 45 _ _ rfl _ _ rfl rfl _ _ HBr3.out (Try.flSize _ _ _) rfl (fl_one _ _ _ _ _) ?_)
  refine bodyPost_ret (v := .tuple #[.agg #[.int .i64 0, .int .i64 0, .slice none 0 0], .int .i64 1]) (results_row2 Try.results17 _ _ w.heap.size _ #[.int .i64 0, .int .i64 0, .slice none 0 0] (0, 0) _ rfl (Blk.row HBr3.out _) Try.underlying45 rfl (Try.flSize _ _ _)) rfl ?_
  exact ⟨rfl, HE3.out.setRow (Nat.le_refl _) _⟩
set_option maxHeartbeats 2000000 in
set_option maxRecDepth 100000 in
theorem At_no {w : World} {x : Value} (h : NoneP w x) (z : Int) : Calls Try.prog 24 #[x, .int .i64 z] w fun e w' => e = .returned (.tuple #[.agg #[.int .i64 0, .int .i64 0, .slice none 0 0], .int .i64 1]) ∧ Ext w w' := by
  have KF := Lib.hid (fun W (hW : Ext w W) => find_no (h.ext hW) z)
  have hzr : (zeroValue 45).run Try.prog w = .ok (.agg #[.int .i64 0, .int .i64 0, .slice none 0 0]) w := by kernel_rfl
  have HE1 := Lib.hid (ext_new w (.cells #[.int .i64 0, .int .i64 0, .slice none 0 0] 45))
  have HBr := Lib.hid (Blk.new w 45 #[.int .i64 0, .int .i64 0, .slice none 0 0])
  clear h
  go_enter Try.func24, Try.ntmps24
  go_wp2_with fail
  generalize w.alloc (.cells #[.int .i64 0, .int .i64 0, .slice none 0 0] 45) = w1 at *
  refine (KF.out w1 HE1.out).mono ?_
  rintro e w2 ⟨rfl, hE2⟩
  have HBr2 := Lib.hid (HBr.out.ext hE2)
  have HE2 := Lib.hid (HE1.out.trans hE2)
  have HX := ext_new w2 (.cells #[.int .i64 0, .int .i64 0, .slice none 0 0] 45)
  have HBr3 := Lib.hid (HBr2.out.ext HX)
  have HE3 := Lib.hid (HE2.out.trans HX)
  have hzr2 : ∀ W, (zeroValue 45).run Try.prog W = .ok (.agg #[.int .i64 0, .int .i64 0, .slice none 0 0]) W := fun W => by kernel_rfl
  clear HBr HE1 hE2 HX KF HBr2 HE2
  go_wp2_with (refine wpList_store_row rfl 45 _ _ rfl _ _ rfl rfl _ _ HBr3.out (Try.flSize _ _ _) rfl (fl_one _ _ _ _ _) ?_)
  refine bodyPost_ret (v := .tuple #[.agg #[.int .i64 0, .int .i64 0, .slice none 0 0], .int .i64 1]) (results_row2 Try.results24 _ _ w.heap.size _ #[.int .i64 0, .int .i64 0, .slice none 0 0] (0, 0) _ rfl (Blk.row HBr3.out _) Try.underlying45 rfl (Try.flSize _ _ _)) rfl ?_
  exact ⟨rfl, HE3.out.setRow (Nat.le_refl _) _⟩
set_option maxHeartbeats 1000000 in
theorem Drop_no {w : World} {x : Value} (h : NoneP w x) (z : Int) : Calls Try.prog 26 #[x, .int .i64 z] w fun e w' => e = .returned (.int .i64 1) ∧ Ext w w' := by
  have K := Lib.hid (Take_no h z)
  clear h
  go_enter Try.func26, Try.ntmps26
  go_wp2_with fail
  refine K.out.mono ?_
  rintro e w2 ⟨rfl, hE⟩
  have HE := Lib.hid (hE.trans (ext_new w2 (.cells #[.int .i64 0, .int .i64 0, .slice none 0 0] 45)))
  clear hE
  go_wp2_with fail
  go_ret
  exact ⟨rfl, HE.out⟩
set_option maxHeartbeats 1000000 in
theorem Double_no {w : World} {x : Value} (h : NoneP w x) (z : Int) : Calls Try.prog 25 #[x, .int .i64 z] w fun e w' => e = .returned (.int .i64 1) ∧ Ext w w' := by
  have K := Lib.hid (find_no h z)
  clear h
  go_enter Try.func25, Try.ntmps25
  go_wp2_with fail
  refine K.out.mono ?_
  rintro e w2 ⟨rfl, hE⟩
  have HE := Lib.hid (hE.trans (ext_new w2 (.cells #[.int .i64 0, .int .i64 0, .slice none 0 0] 45)))
  clear hE
  go_wp2_with fail
  go_ret
  exact ⟨rfl, HE.out⟩
set_option maxHeartbeats 1000000 in
theorem Send_no {w : World} {x : Value} (h : NoneP w x) (a b : Int) (v : Value) : Calls Try.prog 21 #[x, .int .i64 a, .int .i64 b, v] w fun e w' => e = .returned (.int .i64 1) ∧ w = w' := by
  have K := Lib.hid (none_no h)
  clear h
  go_enter Try.func21, Try.ntmps21
  go_wp2_with fail
  refine K.out.mono ?_
  rintro e w' ⟨rfl, rfl⟩
  go_wp2_with fail
  go_ret
  exact ⟨rfl, rfl⟩
set_option maxHeartbeats 1000000 in
theorem Line_no {w : World} {x : Value} (h : NoneP w x) (a b : Int) : Calls Try.prog 31 #[x, .int .i64 a, .int .i64 b] w fun e w' => e = .returned (.int .i64 0) ∧ w = w' := by
  have K := Lib.hid (none_no h)
  clear h
  go_enter Try.func31, Try.ntmps31
  go_wp2_with fail
  refine K.out.mono ?_
  rintro e w' ⟨rfl, rfl⟩
  go_wp2_with fail
  go_ret
  exact ⟨rfl, rfl⟩
set_option maxHeartbeats 1000000 in
theorem Lost_no {w : World} {x : Value} (h : NoneP w x) : Calls Try.prog 32 #[x] w fun e w' => e = .returned (.int .i64 0) ∧ w = w' := by
  have K := Lib.hid (none_no h)
  clear h
  go_enter Try.func32, Try.ntmps32
  go_wp2_with fail
  refine K.out.mono ?_
  rintro e w' ⟨rfl, rfl⟩
  go_wp2_with fail
  go_ret
  exact ⟨rfl, rfl⟩
set_option maxHeartbeats 1000000 in
theorem Clear_no {w : World} {x : Value} (h : NoneP w x) (a : Int) : Calls Try.prog 27 #[x, .int .i64 a] w fun e w' => e = .returned (.int .i64 0) ∧ w = w' := by
  have K := Lib.hid (none_no h)
  clear h
  go_enter Try.func27, Try.ntmps27
  go_wp2_with fail
  refine K.out.mono ?_
  rintro e w' ⟨rfl, rfl⟩
  go_wp2_with fail
  go_ret
  exact ⟨rfl, rfl⟩
set_option maxHeartbeats 1000000 in
theorem Copy_no {w : World} {x : Value} (h : NoneP w x) : Calls Try.prog 34 #[x] w fun e w' => e = .returned (.pointer none) ∧ w = w' := by
  have K := Lib.hid (none_no h)
  clear h
  go_enter Try.func34, Try.ntmps34
  go_wp2_with fail
  refine K.out.mono ?_
  rintro e w' ⟨rfl, rfl⟩
  go_wp2_with fail
  go_ret
  exact ⟨rfl, rfl⟩

end Go.Proofs.Ytahooohokdbnpaa
