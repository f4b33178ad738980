
/-
  Contract of ref04.Net.Take.
-/
import Derived.Test.YtahooohokdbnpaaRefP
set_option linter.unusedVariables false
set_option linter.unusedSimpArgs false
namespace Go.Proofs.Ytahooohokdbnpaa
open Go.RowKit Go.Shelf Go.Maps Pl

attribute [local go_sem] Oper.semAt_some

theorem ahead_succ (F : List Fl) (f : Fl) {j : Nat} (hj : j < F.length) : aheadN F (j + 1) f = aheadN F j f + if sameB (F.getD j fl0) f then 1 else 0 := by
  unfold aheadN
  rw [List.take_succ_eq_append_getElem hj, List.filter_append, List.length_append]
  congr 1
  rw [List.getD_eq_getElem?_getD, List.getElem?_eq_getElem hj, Option.getD_some, List.filter_cons]
  split <;> rfl
theorem LinX.take {w : World} {A : Option Addr} {l : List (List UInt8)} (h : LinX w A l) (k : Nat) : LinX w A (l.take k) := by
  rcases h with rfl | ⟨gr, o, rfl, hi⟩
  · exact .inl (by simp)
  · refine .inr ⟨gr, o, rfl, fun i hl => ?_⟩
    rw [List.length_take] at hl
    have e : (l.take k).getD i [] = l.getD i [] := by rw [List.getD_eq_getElem?_getD, List.getElem?_take_of_lt (by omega), List.getD_eq_getElem?_getD]
    rw [e]
    exact hi i (by omega)
theorem LinX.drop {w : World} {gr o : Nat} {l : List (List UInt8)} (h : LinX w (some ⟨gr, o, none⟩) l) (k : Nat) : LinX w (some ⟨gr, o + k, none⟩) (l.drop k) := by
  rcases h with rfl | ⟨gr', o', e, hi⟩
  · exact .inl (by simp)
  · cases e
    refine .inr ⟨gr, o + k, rfl, fun i hl => ?_⟩
    rw [List.length_drop] at hl
    have e : (l.drop k).getD i [] = l.getD (k + i) [] := by rw [List.getD_eq_getElem?_getD, List.getElem?_drop, List.getD_eq_getElem?_getD]
    rw [e, Nat.add_assoc]
    exact hi (k + i) (by omega)
theorem FlRow.ext {w0 W W' : World} {B : Nat} {v : Value} {fs : List Fl} (h : FlRow w0 W B v fs) (hE : Ext W W') : FlRow w0 W' B v fs := by
  obtain ⟨cs, hr, hc⟩ := h
  exact ⟨cs, World.ownsRow.kept hr (row := none) ⟨Below.os hE, Below.tape hE, Below.output hE, hE.size, fun k hk _ => hE.block hk⟩ (by cases v.ownBlock <;> simp), hc⟩
theorem load_lines {w : World} {p : Addr} {A : Option Addr} {n c : Nat} (h : w.cell? p = some (.slice A n c)) : (Instr.loadAt 30 (.pointer (some p))).run Try.prog w = .ok (.slice A n c) w := by
  simp [go_sem, h]
theorem load_int {w : World} {p : Addr} {n : Int} (h : w.cell? p = some (.int .i64 n)) : (Instr.loadAt 3 (.pointer (some p))).run Try.prog w = .ok (.int .i64 n) w := by
  simp [go_sem, h]
theorem erase_take_drop {α : Type} (l : List α) (k : Nat) : [] ++ l.take k ++ l.drop (k + 1) = l.eraseIdx k := by rw [List.nil_append, List.eraseIdx_eq_take_drop_succ]

set_option maxHeartbeats 4000000 in
set_option maxRecDepth 100000 in
theorem Take_ref {w : World} {T : Nat → Prop} {g : Nat} {N : Nt} (h : RefAt w T g N) (z : Int) (hz : I64 z) :
    Calls Try.prog 46 #[.pointer (some ⟨g, 0, none⟩), .int .i64 z] w fun e w' => ∃ vb, e = .returned (.tuple #[.agg #[.int .i64 ((atF N z).from_ : Int), .int .i64 ((atF N z).to_ : Int), vb], .int .i64 (atE N z : Int)]) ∧ Bs 5 w' vb (atF N z).b ∧
      ∃ T', RefAt w' T' g (takeN N z) ∧ (∀ k, T' k → T k ∨ w.heap.size ≤ k) ∧ Chg (fun k => k = g) w w' := by
  have KA := Lib.hid (fun W (hW : Ext w W) => At_ref (h.ext hW) z hz)
  have KF := Lib.hid (fun W (hW : Ext w W) => Flights_ref (h.ext hW))
  have H := Lib.hid h
  have HAF : Hid (atE N z ≠ 0 → atF N z = fl0) := Lib.hid (fun h => by unfold atF; rw [if_neg h])
  have HTK : Hid (takeN N z = if atE N z = 0 then delN N (atF N z).line (atK N z) else N) := Lib.hid rfl
  have HOK : Hid (atE N z = 0 → (atF N z).line ∈ linesOf N.ends ∧ (atF N z).from_ ≠ (atF N z).to_ ∧ (atF N z).b.length ≤ 1048576 ∧ atK N z < (N.L (atF N z).line).length) := Lib.hid (fun h0 => at_ok h.1 h0)
  have HKN : Hid (atE N z = 0 → atK N z = aheadN (flN N) z.toNat (atF N z)) := Lib.hid (fun h0 => by unfold atK; rw [if_pos h0])
  have HZL : Hid (atE N z = 0 → 0 ≤ z ∧ z.toNat < (flN N).length) := Lib.hid (fun h0 => by
    unfold atE at h0
    split at h0
    · omega
    · split at h0
      · exact ⟨by omega, by assumption⟩
      · omega)
  have hzr : (zeroValue 45).run Try.prog w = .ok (.agg #[.int .i64 0, .int .i64 0, .slice none 0 0]) w := by kernel_rfl
  have HE1 := Lib.hid (ext_new w (.cells #[.int .i64 0, .int .i64 0, .slice none 0 0] 45))
  have HBr := Lib.hid (Blk.new w 45 #[.int .i64 0, .int .i64 0, .slice none 0 0])
  have hglt := h.lt g h.2.2.1
  have HFL := Lib.hid (flN_length h.1)
  clear h
  go_enter Try.func46, Try.ntmps46
  go_wp2_with fail
  generalize w.alloc (.cells #[.int .i64 0, .int .i64 0, .slice none 0 0] 45) = w1 at *
  refine (KA.out w1 HE1.out).mono ?_
  rintro e w2 ⟨vb, rfl, hb, hE2⟩
  obtain ⟨Ab, cb, rfl, _⟩ := id hb
  have HBr2 := Lib.hid (HBr.out.ext hE2)
  have HE2 := Lib.hid (HE1.out.trans hE2)
  have HX := ext_new w2 (.cells #[.int .i64 ((atF N z).from_ : Int), .int .i64 ((atF N z).to_ : Int), .slice Ab (atF N z).b.length cb] 45)
  have HB3 := Lib.hid (Blk.new w2 45 #[.int .i64 ((atF N z).from_ : Int), .int .i64 ((atF N z).to_ : Int), .slice Ab (atF N z).b.length cb])
  have HBr3 := Lib.hid (HBr2.out.ext HX)
  have HE3 := Lib.hid (HE2.out.trans HX)
  have HBS := Lib.hid (hb.ext HX)
  have hlt := HBr2.out.lt
  clear HBr HE1 hb hE2 HX KA HBr2 HE2
  by_cases h0 : atE N z = 0
  · obtain ⟨o1, o2, o3, o4⟩ := HOK.out h0
    obtain ⟨hz0, hzl⟩ := HZL.out h0
    have hkn := HKN.out h0
    have htk := HTK.out
    rw [if_pos h0] at htk
    rw [h0]
    have hln : (atF N z).line = ((atF N z).from_, (atF N z).to_) := rfl
    rw [hln] at o1 o4 htk
    clear hln
    obtain ⟨m, rfl⟩ : ∃ m : Nat, z = (m : Int) := ⟨z.toNat, by omega⟩
    rw [Int.toNat_natCast] at hzl hkn
    have HSU : Hid (∀ j, j < m → aheadN (flN N) (j + 1) (atF N (m : Int)) = aheadN (flN N) j (atF N (m : Int)) + if decide (((flN N).getD j fl0).from_ = (atF N (m : Int)).from_) && decide (((flN N).getD j fl0).to_ = (atF N (m : Int)).to_) then 1 else 0) := Lib.hid (fun j hj => ahead_succ (flN N) _ (by omega))
    have HA0 : Hid (aheadN (flN N) 0 (atF N (m : Int)) = 0) := Lib.hid (ahead_zero _ _)
    have HAL : Hid (∀ j, aheadN (flN N) j (atF N (m : Int)) ≤ (flN N).length) := Lib.hid (fun j => by
      unfold aheadN
      refine Nat.le_trans (List.length_filter_le _ _) ?_
      rw [List.length_take]
      exact Nat.min_le_right _ _)
    generalize hffb : (atF N (m : Int)).b = ffb at *
    generalize hffa : (atF N (m : Int)).from_ = ffa at *
    generalize hfft : (atF N (m : Int)).to_ = fft at *
    generalize hak : atK N (m : Int) = k at *
    have HKK := Lib.hid hkn
    generalize hcn : (fun j => aheadN (flN N) j (atF N (m : Int))) = cn at *
    have HCN : Hid (∀ j, aheadN (flN N) j (atF N (m : Int)) = cn j) := Lib.hid (fun j => by rw [← hcn])
    simp only [HCN.out] at HSU HA0 HAL HKK
    have HRES := Lib.hid (And.intro h0 (And.intro hffa (And.intro hfft (And.intro hffb htk))))
    clear h0 HAF HTK HOK hffa hfft hffb htk hak hkn HZL HKN hcn HCN
    obtain ⟨c50, c51, c52⟩ := cell3 HB3.out
    obtain ⟨i1, i2, i3, i4, i5⟩ := lines_small H.out.1 o1
    have hp := (mem_linesOf _ _).1 o1
    have h5 := H.out.1.e5
    obtain ⟨A, c, hlc, hlr⟩ := H.out.line (m := ffa) (n := fft) (by omega) (by omega)
    have HLC := Lib.hid hlc
    have HLX := Lib.hid hlr.x
    obtain ⟨cs, hblk, hcs⟩ := H.out.cellAt
    have HBK := Lib.hid hblk
    have hlR : ∃ gr o, A = some ⟨gr, o, none⟩ := by
      obtain ⟨gr, o, _, _, e, _⟩ := hlr.elem (q := 0) (by omega)
      exact ⟨gr, o, e⟩
    obtain ⟨grl, ol, rfl⟩ := hlR
    have hcl : (N.L (ffa, fft)).length ≤ c ∧ c ≤ maxLen := by
      obtain ⟨_, _, e, q1, q2, _⟩ := hlr
      cases e; exact ⟨q1, q2⟩
    have hl32 := H.out.1.full (ffa, fft)
    have HDOK : Hid (OkN { N with L := setL N.L (ffa, fft) ((N.L (ffa, fft)).eraseIdx k) }) := Lib.hid (okN_del H.out.1 _ _)
    have HER := Lib.hid (erase_take_drop (N.L (ffa, fft)) k)
    clear hlc hlr hblk
    go_upto_region 4 with fail
    generalize w2.alloc (.cells #[.int .i64 (ffa : Int), .int .i64 (fft : Int), .slice Ab ffb.length cb] 45) = w3 at *
    generalize w2.heap.size = bx at *
    go_wp2_with (go_at_call 19; refine (KF.out _ HE3.out).mono ?_; rintro e w4 ⟨vl, rfl, hF, hE4⟩)
    obtain ⟨Al, cl, rfl⟩ := hF.form
    have HF := Lib.hid hF
    have HE34 := Lib.hid hE4
    have HE4 := Lib.hid (HE3.out.trans hE4)
    have HB4 := Lib.hid (HB3.out.ext hE4)
    have HBr4 := Lib.hid (HBr3.out.ext hE4)
    have HBS4 := Lib.hid (HBS.out.ext hE4)
    have HFL8 := HFL.out
    clear hF hE4 KF HB3 HBr3 HE3 HBS c50 c51 c52 HFL
    generalize hlf : (flN N).length = lf at *
    go_loopw [9, 10] (fun s i wr => ∃ j : Nat, j ≤ m ∧ i = .int .i64 (j : Int) ∧ s = .int .i64 (cn j : Int) ∧ Ext w4 wr) (fun _ i _ => m - (intOf i).toNat)
    case atStart => exact ⟨0, Nat.zero_le _, rfl, by rw [HA0.out]; rfl, Ext.refl w4⟩
    case round =>
      obtain ⟨j, hj, rfl, rfl, hE⟩ := hrel
      have HE := Lib.hid hE
      have hcnj := HAL.out j
      by_cases hjm : j < m
      · have hd : decide ((j : Int) < (m : Int)) = true := decide_eq_true (by omega)
        have HSJ := Lib.hid (HSU.out j hjm)
        obtain ⟨gr, c', A2, cb2, e, d0, d1, _, _⟩ := HF.out.at_ HE34.out (s := j) (by omega)
        rw [hlf] at e
        cases e
        have d0' := hE.cell d0
        have d1' := hE.cell d1
        obtain ⟨c50, c51, _⟩ := cell3 (HB4.out.ext hE)
        clear d0 d1 hE HA0
        generalize ((flN N).getD j fl0).from_ = fa at *
        generalize ((flN N).getD j fl0).to_ = ft at *
        by_cases hfa : fa = ffa
        · have hda : ((fa : Int) == (ffa : Int)) = true := by rw [beq_iff_eq]; omega
          rw [decide_eq_true hfa, Bool.true_and] at HSJ
          clear hfa
          by_cases hft : ft = fft
          · have hdt : ((ft : Int) == (fft : Int)) = true := by rw [beq_iff_eq]; omega
            rw [decide_eq_true hft, if_pos rfl] at HSJ
            clear hft
            go_upto_region 9 with fail
            refine wp_eager Ext.pre (n := 18) (by kernel_rfl) (by kernel_rfl) ?_
            refine Eg.batchK Ext.pre (by intro c a d v w h; cases d <;> exact h) (by kernel_rfl) (n := 13) [0, 1, 2, 3, 5] [] _ (by kernel_rfl) (fun K hK => ?_); (simp only [pickOps, List.getElem?_toArray, List.getElem?_cons_zero, List.getElem?_cons_succ, Option.toList_some, List.cons_append, List.nil_append]); (repeat (first | go_big_quiet_step (fail) | quiet_step (fail))); refine wpQuiet_nil (hK _ ?_); clear hK K
            (refine Eg.read Ext.pre (by intro c a d v w h; cases d <;> exact h) (by kernel_rfl) (i := 4) (n := 12) (l := [0, 1, 2, 3, 5]) rfl (by kernel_rfl) (by kernel_rfl) rfl ⟨_, fun w' hR => load_run rfl (load_int (hR.cell (a := wr.drew) d0')), ?_⟩); (simp only [Act.put, List.setIfInBounds_toArray, List.getElem_toArray, List.getElem_cons_succ, List.getElem_cons_zero, List.set_cons_succ, List.set_cons_zero])
            (refine Eg.read Ext.pre (by intro c a d v w h; cases d <;> exact h) (by kernel_rfl) (i := 6) (n := 11) (l := [0, 1, 2, 3, 5, 4]) rfl (by kernel_rfl) (by kernel_rfl) rfl ⟨_, fun w' hR => load_run rfl (load_int (hR.cell (a := wr.drew) c50)), ?_⟩); (simp only [Act.put, List.setIfInBounds_toArray, List.getElem_toArray, List.getElem_cons_succ, List.getElem_cons_zero, List.set_cons_succ, List.set_cons_zero])
            refine Eg.batchK Ext.pre (by intro c a d v w h; cases d <;> exact h) (by kernel_rfl) (n := 4) [7, 8, 9, 10, 11, 12, 14] [0, 1, 2, 3, 5, 4, 6] _ (by kernel_rfl) (fun K hK => ?_); (simp only [pickOps, List.getElem?_toArray, List.getElem?_cons_zero, List.getElem?_cons_succ, Option.toList_some, List.cons_append, List.nil_append]); (repeat (first | go_big_quiet_step (fail) | quiet_step (fail))); refine wpQuiet_nil (hK _ ?_); clear hK K
            (refine Eg.read Ext.pre (by intro c a d v w h; cases d <;> exact h) (by kernel_rfl) (i := 13) (n := 3) (l := [0, 1, 2, 3, 5, 4, 6, 7, 8, 9, 10, 11, 12, 14]) rfl (by kernel_rfl) (by kernel_rfl) rfl ⟨_, fun w' hR => load_run rfl (load_int (hR.cell (a := wr.drew) d1')), ?_⟩); (simp only [Act.put, List.setIfInBounds_toArray, List.getElem_toArray, List.getElem_cons_succ, List.getElem_cons_zero, List.set_cons_succ, List.set_cons_zero])
            (refine Eg.read Ext.pre (by intro c a d v w h; cases d <;> exact h) (by kernel_rfl) (i := 15) (n := 2) (l := [0, 1, 2, 3, 5, 4, 6, 7, 8, 9, 10, 11, 12, 14, 13]) rfl (by kernel_rfl) (by kernel_rfl) rfl ⟨_, fun w' hR => load_run rfl (load_int (hR.cell (a := wr.drew) c51)), ?_⟩); (simp only [Act.put, List.setIfInBounds_toArray, List.getElem_toArray, List.getElem_cons_succ, List.getElem_cons_zero, List.set_cons_succ, List.set_cons_zero])
            refine Eg.batchK Ext.pre (by intro c a d v w h; cases d <;> exact h) (by kernel_rfl) (n := 0) [16, 17] [0, 1, 2, 3, 5, 4, 6, 7, 8, 9, 10, 11, 12, 14, 13, 15] _ (by kernel_rfl) (fun K hK => ?_); (simp only [pickOps, List.getElem?_toArray, List.getElem?_cons_zero, List.getElem?_cons_succ, Option.toList_some, List.cons_append, List.nil_append]); (repeat (first | go_big_quiet_step (fail) | quiet_step (fail))); refine wpQuiet_nil (hK _ ?_); clear hK K
            refine Eg.finish (by kernel_rfl) ?_
            go_wp2_with fail
            exact ⟨⟨j + 1, by omega, by go_num, by rw [HSJ.out]; go_num, HE.out.drew⟩, by simp [intOf]; omega⟩
          · have hdt : ((ft : Int) == (fft : Int)) = false := by rw [beq_eq_false_iff_ne]; omega
            rw [decide_eq_false hft, if_neg (by decide)] at HSJ
            clear hft
            go_upto_region 9 with fail
            refine wp_eager Ext.pre (n := 18) (by kernel_rfl) (by kernel_rfl) ?_
            refine Eg.batchK Ext.pre (by intro c a d v w h; cases d <;> exact h) (by kernel_rfl) (n := 13) [0, 1, 2, 3, 5] [] _ (by kernel_rfl) (fun K hK => ?_); (simp only [pickOps, List.getElem?_toArray, List.getElem?_cons_zero, List.getElem?_cons_succ, Option.toList_some, List.cons_append, List.nil_append]); (repeat (first | go_big_quiet_step (fail) | quiet_step (fail))); refine wpQuiet_nil (hK _ ?_); clear hK K
            (refine Eg.read Ext.pre (by intro c a d v w h; cases d <;> exact h) (by kernel_rfl) (i := 4) (n := 12) (l := [0, 1, 2, 3, 5]) rfl (by kernel_rfl) (by kernel_rfl) rfl ⟨_, fun w' hR => load_run rfl (load_int (hR.cell (a := wr.drew) d0')), ?_⟩); (simp only [Act.put, List.setIfInBounds_toArray, List.getElem_toArray, List.getElem_cons_succ, List.getElem_cons_zero, List.set_cons_succ, List.set_cons_zero])
            (refine Eg.read Ext.pre (by intro c a d v w h; cases d <;> exact h) (by kernel_rfl) (i := 6) (n := 11) (l := [0, 1, 2, 3, 5, 4]) rfl (by kernel_rfl) (by kernel_rfl) rfl ⟨_, fun w' hR => load_run rfl (load_int (hR.cell (a := wr.drew) c50)), ?_⟩); (simp only [Act.put, List.setIfInBounds_toArray, List.getElem_toArray, List.getElem_cons_succ, List.getElem_cons_zero, List.set_cons_succ, List.set_cons_zero])
            refine Eg.batchK Ext.pre (by intro c a d v w h; cases d <;> exact h) (by kernel_rfl) (n := 4) [7, 8, 9, 10, 11, 12, 14] [0, 1, 2, 3, 5, 4, 6] _ (by kernel_rfl) (fun K hK => ?_); (simp only [pickOps, List.getElem?_toArray, List.getElem?_cons_zero, List.getElem?_cons_succ, Option.toList_some, List.cons_append, List.nil_append]); (repeat (first | go_big_quiet_step (fail) | quiet_step (fail))); refine wpQuiet_nil (hK _ ?_); clear hK K
            (refine Eg.read Ext.pre (by intro c a d v w h; cases d <;> exact h) (by kernel_rfl) (i := 13) (n := 3) (l := [0, 1, 2, 3, 5, 4, 6, 7, 8, 9, 10, 11, 12, 14]) rfl (by kernel_rfl) (by kernel_rfl) rfl ⟨_, fun w' hR => load_run rfl (load_int (hR.cell (a := wr.drew) d1')), ?_⟩); (simp only [Act.put, List.setIfInBounds_toArray, List.getElem_toArray, List.getElem_cons_succ, List.getElem_cons_zero, List.set_cons_succ, List.set_cons_zero])
            (refine Eg.read Ext.pre (by intro c a d v w h; cases d <;> exact h) (by kernel_rfl) (i := 15) (n := 2) (l := [0, 1, 2, 3, 5, 4, 6, 7, 8, 9, 10, 11, 12, 14, 13]) rfl (by kernel_rfl) (by kernel_rfl) rfl ⟨_, fun w' hR => load_run rfl (load_int (hR.cell (a := wr.drew) c51)), ?_⟩); (simp only [Act.put, List.setIfInBounds_toArray, List.getElem_toArray, List.getElem_cons_succ, List.getElem_cons_zero, List.set_cons_succ, List.set_cons_zero])
            refine Eg.batchK Ext.pre (by intro c a d v w h; cases d <;> exact h) (by kernel_rfl) (n := 0) [16, 17] [0, 1, 2, 3, 5, 4, 6, 7, 8, 9, 10, 11, 12, 14, 13, 15] _ (by kernel_rfl) (fun K hK => ?_); (simp only [pickOps, List.getElem?_toArray, List.getElem?_cons_zero, List.getElem?_cons_succ, Option.toList_some, List.cons_append, List.nil_append]); (repeat (first | go_big_quiet_step (fail) | quiet_step (fail))); refine wpQuiet_nil (hK _ ?_); clear hK K
            refine Eg.finish (by kernel_rfl) ?_
            go_wp2_with fail
            exact ⟨⟨j + 1, by omega, by go_num, by rw [HSJ.out]; go_num, HE.out.drew⟩, by simp [intOf]; omega⟩
        · have hda : ((fa : Int) == (ffa : Int)) = false := by rw [beq_eq_false_iff_ne]; omega
          rw [decide_eq_false hfa, Bool.false_and, if_neg (by decide)] at HSJ
          clear hfa
          go_upto_region 9 with fail
          refine wp_eager Ext.pre (n := 18) (by kernel_rfl) (by kernel_rfl) ?_
          refine Eg.batchK Ext.pre (by intro c a d v w h; cases d <;> exact h) (by kernel_rfl) (n := 13) [0, 1, 2, 3, 5] [] _ (by kernel_rfl) (fun K hK => ?_); (simp only [pickOps, List.getElem?_toArray, List.getElem?_cons_zero, List.getElem?_cons_succ, Option.toList_some, List.cons_append, List.nil_append]); (repeat (first | go_big_quiet_step (fail) | quiet_step (fail))); refine wpQuiet_nil (hK _ ?_); clear hK K
          (refine Eg.read Ext.pre (by intro c a d v w h; cases d <;> exact h) (by kernel_rfl) (i := 4) (n := 12) (l := [0, 1, 2, 3, 5]) rfl (by kernel_rfl) (by kernel_rfl) rfl ⟨_, fun w' hR => load_run rfl (load_int (hR.cell (a := wr.drew) d0')), ?_⟩); (simp only [Act.put, List.setIfInBounds_toArray, List.getElem_toArray, List.getElem_cons_succ, List.getElem_cons_zero, List.set_cons_succ, List.set_cons_zero])
          (refine Eg.read Ext.pre (by intro c a d v w h; cases d <;> exact h) (by kernel_rfl) (i := 6) (n := 11) (l := [0, 1, 2, 3, 5, 4]) rfl (by kernel_rfl) (by kernel_rfl) rfl ⟨_, fun w' hR => load_run rfl (load_int (hR.cell (a := wr.drew) c50)), ?_⟩); (simp only [Act.put, List.setIfInBounds_toArray, List.getElem_toArray, List.getElem_cons_succ, List.getElem_cons_zero, List.set_cons_succ, List.set_cons_zero])
          refine Eg.batchK Ext.pre (by intro c a d v w h; cases d <;> exact h) (by kernel_rfl) (n := 4) [7, 8, 9, 10, 11, 12, 14] [0, 1, 2, 3, 5, 4, 6] _ (by kernel_rfl) (fun K hK => ?_); (simp only [pickOps, List.getElem?_toArray, List.getElem?_cons_zero, List.getElem?_cons_succ, Option.toList_some, List.cons_append, List.nil_append]); (repeat (first | go_big_quiet_step (fail) | quiet_step (fail))); refine wpQuiet_nil (hK _ ?_); clear hK K
          (refine Eg.skip Ext.pre (by intro c a d v w h; cases d <;> exact h) (by kernel_rfl) (i := 13) (n := 3) (l := [0, 1, 2, 3, 5, 4, 6, 7, 8, 9, 10, 11, 12, 14]) rfl (by kernel_rfl) (by kernel_rfl) rfl ?_); (simp only [Act.put, List.setIfInBounds_toArray, List.getElem_toArray, List.getElem_cons_succ, List.getElem_cons_zero, List.set_cons_succ, List.set_cons_zero])
          (refine Eg.skip Ext.pre (by intro c a d v w h; cases d <;> exact h) (by kernel_rfl) (i := 15) (n := 2) (l := [0, 1, 2, 3, 5, 4, 6, 7, 8, 9, 10, 11, 12, 14, 13]) rfl (by kernel_rfl) (by kernel_rfl) rfl ?_); (simp only [Act.put, List.setIfInBounds_toArray, List.getElem_toArray, List.getElem_cons_succ, List.getElem_cons_zero, List.set_cons_succ, List.set_cons_zero])
          refine Eg.batchK Ext.pre (by intro c a d v w h; cases d <;> exact h) (by kernel_rfl) (n := 0) [16, 17] [0, 1, 2, 3, 5, 4, 6, 7, 8, 9, 10, 11, 12, 14, 13, 15] _ (by kernel_rfl) (fun K hK => ?_); (simp only [pickOps, List.getElem?_toArray, List.getElem?_cons_zero, List.getElem?_cons_succ, Option.toList_some, List.cons_append, List.nil_append]); (repeat (first | go_big_quiet_step (fail) | quiet_step (fail))); refine wpQuiet_nil (hK _ ?_); clear hK K
          refine Eg.finish (by kernel_rfl) ?_
          go_wp2_with fail
          exact ⟨⟨j + 1, by omega, by go_num, by rw [HSJ.out]; go_num, HE.out.drew⟩, by simp [intOf]; omega⟩
      · obtain rfl : j = m := by omega
        have hd : decide ((j : Int) < (j : Int)) = false := decide_eq_false (by omega)
        rw [← HKK.out]
        obtain ⟨c50, c51, c52⟩ := cell3 (HB4.out.ext hE)
        have hlc := HE4.out.trans hE |>.cell HLC.out
        have HLX5 := Lib.hid (HLX.out.ext (HE4.out.trans hE))
        have HE5 := Lib.hid (HE4.out.trans hE)
        have HB5 := Lib.hid (HB4.out.ext hE)
        have HBr5 := Lib.hid (HBr4.out.ext hE)
        have HBS5 := Lib.hid (HBS4.out.ext hE)
        have hbx := HB4.out.lt
        have hws := hE.size
        clear hE HSU HA0 HAL HF HE34 HE4 HB4 HBr4 HBS4 HLX HKK
        have HDL : Hid (delN N (ffa, fft) k = { N with L := setL N.L (ffa, fft) ((N.L (ffa, fft)).eraseIdx k) }) := Lib.hid rfl
        generalize N.L (ffa, fft) = L0 at *
        go_upto_region 11 with fail
        refine wp_eager Ext.pre (n := 11) (by kernel_rfl) (by kernel_rfl) ?_
        refine Eg.batchK Ext.pre (by intro c a d v w h; cases d <;> exact h) (by kernel_rfl) (n := 6) [0, 1, 3, 5, 6] [] _ (by kernel_rfl) (fun K hK => ?_); (simp only [pickOps, List.getElem?_toArray, List.getElem?_cons_zero, List.getElem?_cons_succ, Option.toList_some, List.cons_append, List.nil_append]); (repeat (first | go_big_quiet_step (fail) | quiet_step (fail))); refine wpQuiet_nil (hK _ ?_); clear hK K
        (refine Eg.read Ext.pre (by intro c a d v w h; cases d <;> exact h) (by kernel_rfl) (i := 2) (n := 5) (l := [0, 1, 3, 5, 6]) rfl (by kernel_rfl) (by kernel_rfl) rfl ⟨_, fun w' hR => load_run rfl (load_int (hR.cell (a := wr.drew) c50)), ?_⟩); (simp only [Act.put, List.setIfInBounds_toArray, List.getElem_toArray, List.getElem_cons_succ, List.getElem_cons_zero, List.set_cons_succ, List.set_cons_zero])
        refine Eg.batchK Ext.pre (by intro c a d v w h; cases d <;> exact h) (by kernel_rfl) (n := 4) [7] [0, 1, 3, 5, 6, 2] _ (by kernel_rfl) (fun K hK => ?_); (simp only [pickOps, List.getElem?_toArray, List.getElem?_cons_zero, List.getElem?_cons_succ, Option.toList_some, List.cons_append, List.nil_append]); (repeat (first | go_big_quiet_step (fail) | quiet_step (fail))); refine wpQuiet_nil (hK _ ?_); clear hK K
        (refine Eg.read Ext.pre (by intro c a d v w h; cases d <;> exact h) (by kernel_rfl) (i := 4) (n := 3) (l := [0, 1, 3, 5, 6, 2, 7]) rfl (by kernel_rfl) (by kernel_rfl) rfl ⟨_, fun w' hR => load_run rfl (load_int (hR.cell (a := wr.drew) c51)), ?_⟩); (simp only [Act.put, List.setIfInBounds_toArray, List.getElem_toArray, List.getElem_cons_succ, List.getElem_cons_zero, List.set_cons_succ, List.set_cons_zero])
        refine Eg.batchK Ext.pre (by intro c a d v w h; cases d <;> exact h) (by kernel_rfl) (n := 2) [8] [0, 1, 3, 5, 6, 2, 7, 4] _ (by kernel_rfl) (fun K hK => ?_); (simp only [pickOps, List.getElem?_toArray, List.getElem?_cons_zero, List.getElem?_cons_succ, Option.toList_some, List.cons_append, List.nil_append]); (repeat (first | go_big_quiet_step (fail) | quiet_step (fail))); refine wpQuiet_nil (hK _ ?_); clear hK K
        (refine Eg.read Ext.pre (by intro c a d v w h; cases d <;> exact h) (by kernel_rfl) (i := 9) (n := 1) (l := [0, 1, 3, 5, 6, 2, 7, 4, 8]) rfl (by kernel_rfl) (by kernel_rfl) rfl ⟨_, fun w' hR => load_run rfl (load_lines (hR.cell (a := wr.drew) hlc)), ?_⟩); (simp only [Act.put, List.setIfInBounds_toArray, List.getElem_toArray, List.getElem_cons_succ, List.getElem_cons_zero, List.set_cons_succ, List.set_cons_zero])
        refine Eg.batchK Ext.pre (by intro c a d v w h; cases d <;> exact h) (by kernel_rfl) (n := 0) [10] [0, 1, 3, 5, 6, 2, 7, 4, 8, 9] _ (by kernel_rfl) (fun K hK => ?_); (simp only [pickOps, List.getElem?_toArray, List.getElem?_cons_zero, List.getElem?_cons_succ, Option.toList_some, List.cons_append, List.nil_append]); (repeat (first | go_big_quiet_step (fail) | quiet_step (fail))); refine wpQuiet_nil (hK _ ?_); clear hK K
        refine Eg.finish (by kernel_rfl) ?_
        clear hlc
        go_upto_region 12 with fail
        have HX : Ext wr wr.drew.drew := (Ext.refl wr).drew.drew
        have HNS : Hid (¬ (bx = g ∨ wr.heap.size ≤ bx)) := Lib.hid (fun h => by omega)
        have hL0k : L0.length ≤ 32 := hl32
        have HLD : Hid (LinX wr (if c = k + 1 then some (⟨grl, ol, none⟩ : Addr) else some ⟨grl, ol + (k + 1), none⟩) (L0.drop (k + 1))) := Lib.hid (by
          split
          · exact .inl (List.drop_eq_nil_of_le (by have := hcl.1; omega))
          · exact HLX5.out.drop (k + 1))
        refine wp_eager (chg_pre (fun i => i = g ∨ wr.heap.size ≤ i)) (n := 19) (by kernel_rfl) (by kernel_rfl) ?_
        refine Eg.batchK (chg_pre (fun i => i = g ∨ wr.heap.size ≤ i)) (by intro c a d v w h; cases d <;> exact h) (by kernel_rfl) (n := 7) [0, 1, 3, 5, 6, 7, 9, 10, 11, 12, 14, 15] [] _ (by kernel_rfl) (fun K hK => ?_); (simp only [pickOps, List.getElem?_toArray, List.getElem?_cons_zero, List.getElem?_cons_succ, Option.toList_some, List.cons_append, List.nil_append]); (repeat (first | go_big_quiet_step (fail) | quiet_step (fail))); refine wpQuiet_nil (hK _ ?_); clear hK K
        (refine Eg.read (chg_pre (fun i => i = g ∨ wr.heap.size ≤ i)) (by intro c a d v w h; cases d <;> exact h) (by kernel_rfl) (i := 2) (n := 6) (l := [0, 1, 3, 5, 6, 7, 9, 10, 11, 12, 14, 15]) rfl (by kernel_rfl) (by kernel_rfl) rfl ⟨_, fun w' hR => load_run rfl (load_int (hR.cell (w := wr.drew.drew) c50 HNS.out)), ?_⟩); (simp only [Act.put, List.setIfInBounds_toArray, List.getElem_toArray, List.getElem_cons_succ, List.getElem_cons_zero, List.set_cons_succ, List.set_cons_zero])
        refine Eg.batchK (chg_pre (fun i => i = g ∨ wr.heap.size ≤ i)) (by intro c a d v w h; cases d <;> exact h) (by kernel_rfl) (n := 5) [16] [0, 1, 3, 5, 6, 7, 9, 10, 11, 12, 14, 15, 2] _ (by kernel_rfl) (fun K hK => ?_); (simp only [pickOps, List.getElem?_toArray, List.getElem?_cons_zero, List.getElem?_cons_succ, Option.toList_some, List.cons_append, List.nil_append]); (repeat (first | go_big_quiet_step (fail) | quiet_step (fail))); refine wpQuiet_nil (hK _ ?_); clear hK K
        (refine Eg.read (chg_pre (fun i => i = g ∨ wr.heap.size ≤ i)) (by intro c a d v w h; cases d <;> exact h) (by kernel_rfl) (i := 4) (n := 4) (l := [0, 1, 3, 5, 6, 7, 9, 10, 11, 12, 14, 15, 2, 16]) rfl (by kernel_rfl) (by kernel_rfl) rfl ⟨_, fun w' hR => load_run rfl (load_int (hR.cell (w := wr.drew.drew) c51 HNS.out)), ?_⟩); (simp only [Act.put, List.setIfInBounds_toArray, List.getElem_toArray, List.getElem_cons_succ, List.getElem_cons_zero, List.set_cons_succ, List.set_cons_zero])
        generalize (if c = k + 1 then some (⟨grl, ol, none⟩ : Addr) else some ⟨grl, ol + (k + 1), none⟩) = A2 at *
        refine Eg.act (chg_pre (fun i => i = g ∨ wr.heap.size ≤ i)) (i := 8) (n := 3) (l := [0, 1, 3, 5, 6, 7, 9, 10, 11, 12, 14, 15, 2, 16, 4]) rfl (by kernel_rfl) ?_
        (refine wpList_appendL rfl _ _ rfl rfl (Lin.nil _ _ _ wr.heap.size) (some ⟨grl, ol, none⟩) k c rfl (L0.take k) ((HLX5.out.take k).ext HX) (by rw [List.length_take]; omega) (by rw [List.length_take, List.length_nil]; omega) HX.size ?_; intro v1 w8 hL1 hG1 hR1)
        refine ⟨Chg.of_grown hG1 (fun k e => by cases e), ?_⟩
        replace HX := Ext.own hG1 HX
        have HL1 := Lib.hid hL1
        clear hL1 hG1 hR1
        refine Eg.act (chg_pre (fun i => i = g ∨ wr.heap.size ≤ i)) (i := 13) (n := 2) (l := [0, 1, 3, 5, 6, 7, 9, 10, 11, 12, 14, 15, 2, 16, 4, 8]) rfl (by kernel_rfl) ?_
        (refine wpList_appendL rfl _ _ rfl rfl HL1.out A2 (L0.length - (k + 1)) (c - (k + 1)) rfl (L0.drop (k + 1)) (HLD.out.ext HX) (by rw [List.length_drop]) (by rw [List.length_append, List.length_take, List.length_drop, List.length_nil]; omega) HX.size ?_; intro v3 w9 hL3 hG3 hR3)
        refine ⟨Chg.of_grown hG3 (fun k e => .inr (HL1.out.block e).1), ?_⟩
        simp only [Act.put, List.setIfInBounds_toArray, List.getElem_toArray, List.getElem_cons_succ, List.getElem_cons_zero, List.set_cons_succ, List.set_cons_zero]
        have hE3 := HX.grown hG3 (fun k e => (HL1.out.block e).1)
        rw [HER.out] at hL3
        obtain ⟨A3, c3, rfl, _⟩ := id hL3.form
        have HL3 := Lib.hid hL3
        have HE9 := Lib.hid hE3
        have HE3 := Lib.hid (HE5.out.trans hE3)
        clear hL3 hG3 hR3 HL1 HX
        have hb3 := HBK.out.ext HE3.out
        have hcell3 := HE3.out.cell HLC.out
        have hfrz3 := hb3.frozen (ffa * 6 + fft)
        clear hE3 hb3
        refine Eg.batchK (chg_pre (fun i => i = g ∨ wr.heap.size ≤ i)) (by intro c a d v w h; cases d <;> exact h) (by kernel_rfl) (n := 1) [17] [0, 1, 3, 5, 6, 7, 9, 10, 11, 12, 14, 15, 2, 16, 4, 8, 13] _ (by kernel_rfl) (fun K hK => ?_); (simp only [pickOps, List.getElem?_toArray, List.getElem?_cons_zero, List.getElem?_cons_succ, Option.toList_some, List.cons_append, List.nil_append]); (repeat (first | go_big_quiet_step (fail) | quiet_step (fail))); refine wpQuiet_nil (hK _ ?_); clear hK K
        refine Eg.act (chg_pre (fun i => i = g ∨ wr.heap.size ≤ i)) (i := 18) (n := 0) (l := [0, 1, 3, 5, 6, 7, 9, 10, 11, 12, 14, 15, 2, 16, 4, 8, 13, 17]) rfl (by kernel_rfl) ?_
        go_wp2_with fail
        refine ⟨Chg.of_grown (grown_set _ _ _) (fun k e => by cases e; exact .inl rfl), ?_⟩
        refine Eg.finish (by kernel_rfl) ?_
        have HRF := Lib.hid (H.out.stored HE3.out (m := ffa) (n := fft) (by omega) (by omega) (T' := fun i => T i ∨ Value.ownBlock (.slice A3 (L0.eraseIdx k).length c3) = some i) (HL3.out.r (T := fun i => T i ∨ Value.ownBlock (.slice A3 (L0.eraseIdx k).length c3) = some i) (fun k hk => Or.inr hk)) (fun k hk => Or.inl hk) (fun k hk => hk.elim Or.inl (fun e => Or.inr (HL3.out.block e).2)) HDOK.out)
        have hb9 := HB5.out.ext HE9.out
        have HBr9 := Lib.hid ((HBr5.out.ext HE9.out).far (p := ⟨g, ffa * 6 + fft, none⟩) (by show w.heap.size ≠ g; omega) (.slice A3 (L0.eraseIdx k).length c3))
        have hb10 := hb9.far (p := ⟨g, ffa * 6 + fft, none⟩) (by show bx ≠ g; omega) (.slice A3 (L0.eraseIdx k).length c3)
        have HBS9 := Lib.hid (Ext.bs (HBS5.out.ext HE9.out) (grown_set w9 ⟨g, ffa * 6 + fft, none⟩ (.slice A3 (L0.eraseIdx k).length c3)) (HBK.out.ext HE3.out) (by decide))
        have HC9 : Hid (Chg (fun i => i = g) w (w9.setCell ⟨g, ffa * 6 + fft, none⟩ (.slice A3 (L0.eraseIdx k).length c3))) := Lib.hid ((Chg.of_ext HE3.out).trans (T := fun k => k = g) (Chg.of_grown (grown_set _ _ _) (fun k e => by cases e; rfl)) (fun k h => .inl h))
        have HTF : Hid (∀ i, (T i ∨ Value.ownBlock (.slice A3 (L0.eraseIdx k).length c3) = some i) → T i ∨ w.heap.size < i) := Lib.hid (fun i hi => hi.elim Or.inl (fun e => Or.inr (by have := (HL3.out.block e).1; omega)))
        have HTL := Lib.hid H.out.lt
        clear hb9 c50 c51 c52 HB5 HBr5 HBS5 HE9 HE3 HL3 HDOK hcell3 hfrz3
        obtain ⟨c50, c51, c52⟩ := cell3 hb10
        generalize w9.setCell ⟨g, ffa * 6 + fft, none⟩ (.slice A3 (L0.eraseIdx k).length c3) = w10 at *
        clear hb10
        go_wp2_with (refine wpList_store_row rfl 45 _ _ rfl _ _ rfl rfl _ _ HBr9.out (Try.flSize _ _ _) rfl (fl_one _ _ _ _ _) ?_)
        refine bodyPost_ret (v := .tuple #[.agg #[.int .i64 (ffa : Int), .int .i64 (fft : Int), .slice Ab ffb.length cb], .int .i64 0]) (results_row2 Try.results46 _ _ w.heap.size _ #[.int .i64 (ffa : Int), .int .i64 (fft : Int), .slice Ab ffb.length cb] (0, 0) _ rfl (Blk.row HBr9.out _) Try.underlying45 rfl (Try.flSize _ _ _)) rfl ?_
        rw [HRES.out.1, HRES.out.2.1, HRES.out.2.2.1, HRES.out.2.2.2.1, HRES.out.2.2.2.2, HDL.out]
        refine ⟨_, rfl, Ext.bs HBS9.out (grown_row _ _ _) HBr9.out (by decide), _, HRF.out.chg (S := fun i => i = w.heap.size) (Chg.of_grown (grown_row _ _ _) (fun k e => by cases e; rfl)) (fun i e hi => ?_) (fun i cur e hb => ?_), fun i hi => (HTF.out i hi).elim .inl (fun h => .inr (by omega)), HC9.out.trans (T := fun i => i = w.heap.size) (Chg.of_grown (grown_row _ _ _) (fun k e => by cases e; rfl)) (fun i e => .inr (by omega))⟩
        · have e' : i = w.heap.size := e
          rcases HTF.out i hi with h | h
          · have := HTL.out i h; omega
          · omega
        · have e' : i = w.heap.size := e
          subst e'
          exact absurd (HBr9.out.type hb).1 (by decide)
  · have hf := HAF.out h0
    have hne : ((atE N z : Int) != 0) = true := by rw [bne_iff_ne]; omega
    have htk := HTK.out
    rw [if_neg h0] at htk
    rw [hf] at HBr3 HE3 HB3 HBS ⊢
    generalize hez : atE N z = ez at *
    have HRES := Lib.hid (And.intro hf (And.intro hez htk))
    have hzr2 : ∀ W, (zeroValue 45).run Try.prog W = .ok (.agg #[.int .i64 0, .int .i64 0, .slice none 0 0]) W := fun W => by kernel_rfl
    clear h0 HAF HTK HOK hf hez htk
    obtain ⟨c50, c51, c52⟩ := cell3 HB3.out
    go_wp2_with (refine wpList_store_row rfl 45 _ _ rfl _ _ rfl rfl _ _ HBr3.out (Try.flSize _ _ _) rfl (fl_one _ _ _ _ _) ?_)
    refine bodyPost_ret (v := .tuple #[.agg #[.int .i64 (fl0.from_ : Int), .int .i64 (fl0.to_ : Int), .slice Ab fl0.b.length cb], .int .i64 ez]) (results_row2 Try.results46 _ _ w.heap.size _ #[.int .i64 (fl0.from_ : Int), .int .i64 (fl0.to_ : Int), .slice Ab fl0.b.length cb] (0, 0) _ rfl (Blk.row HBr3.out _) Try.underlying45 rfl (Try.flSize _ _ _)) rfl ?_
    rw [HRES.out.1, HRES.out.2.1, HRES.out.2.2]
    exact ⟨_, rfl, Ext.bs HBS.out (grown_row _ _ _) HBr3.out (by decide), T, H.out.ext (HE3.out.setRow (Nat.le_refl _) _), fun k hk => .inl hk, Chg.of_ext (HE3.out.setRow (Nat.le_refl _) _)⟩

end Go.Proofs.Ytahooohokdbnpaa
