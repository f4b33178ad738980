
/-
  The law NetTwins, walked.
-/
import Derived.Test.YtahooohokdbnpaaTwinM
import Derived.Test.YtahooohokdbnpaaRoomP
set_option linter.unusedVariables false
set_option linter.unusedSimpArgs false
namespace Go.Proofs.Ytahooohokdbnpaa
open Go.RowKit Go.Shelf Go.Maps Pl

attribute [local go_sem] Oper.semAt_some

theorem results_cell1 {P : Program} {fn : Func} {p : Tmp} {ty : TypeId} (h : fn.results = #[.cell p ty]) (tmps : Array Value) (w : World) (a : Addr) (u : Value)
    (hp : tmps.getD p undef = .pointer (some a)) (hu : (loadVar ty a).run P w = .ok u w) : (results fn tmps).run P w = .ok u w := by
  have hp' : tmps[p]?.getD undef = .pointer (some a) := by simpa using hp
  simp [results, h, hp', asAddr, hu]
theorem load_ref {w : World} {p : Addr} {r : Nat} (h : w.cell? p = some (.pointer (some ⟨r, 0, none⟩))) : (Instr.loadAt 29 (.pointer (some p))).run Try.prog w = .ok (.pointer (some ⟨r, 0, none⟩)) w := by
  simp [go_sem, h]
/-- two nets of their own -/
theorem do_any2 {w W : World} {S T : Nat → Prop} {g r nb : Nat} {N : Nt} (h : Pr2 W S T g r nb N) (hE : Ext w W) (hS : ∀ k, S k → w.heap.size ≤ k) (hr : w.heap.size ≤ r) (s : Ac) {A : Option Addr} (c : Nat) (hby : By w A s.bytes) (hl : s.bytes.length ≤ 20000) (ha : I64 s.a) (hb : I64 s.b) (hnb : nb + 70 < 1000000) :
    Calls Try.prog 30 #[.pointer (some ⟨g, 0, none⟩), .pointer (some ⟨r, 0, none⟩), .agg (acC s A c)] W (DoPost W S T g r (nb + 70) (doN N s)) :=
  do_law h s A c (fun W' hW => hby.ext (hW.ext hE (fun q hq => hq.elim (hS q) (fun e => by rw [e]; exact hr)))) hl ha hb hnb

theorem alC.chg {X : Nat → Prop} {w0 W W' : World} {ga gl : Nat} {v : Value} {cs : List Value} {fs : List Fl} (h : alC w0 ga gl v cs fs W) (hC : Chg X W W') (h1 : ∀ k cur, X k → ¬ Blk W k 68 cur) (h2 : ∀ k cur, X k → ¬ Blk W k 41 cur)
    (h3 : ∀ k cur, X k → ¬ Blk W k 45 cur) (h4 : ∀ k cur, X k → ¬ Blk W k 5 cur) : alC w0 ga gl v cs fs W' := by
  obtain ⟨q1, q2, ⟨q3, q4⟩, q5⟩ := h
  refine ⟨hC.blk q1 (fun hx => h1 ga _ hx q1), hC.blk q2 (fun hx => h2 gl _ hx q2), ⟨q3, ?_⟩, fun k cur hb => hC.blk (q5 k cur hb) (fun hx => h4 k cur hx (q5 k cur hb))⟩
  rcases q4 with q4 | ⟨g, cap, cur, rfl, hb, hh, r⟩
  · exact .inl q4
  · exact .inr ⟨g, cap, cur, rfl, hb, hC.blk (t := 45) hh (fun hx => h3 g cur hx hh), r⟩
theorem alC.ext {w0 W W' : World} {ga gl : Nat} {v : Value} {cs : List Value} {fs : List Fl} (h : alC w0 ga gl v cs fs W) (hE : Ext W W') : alC w0 ga gl v cs fs W' :=
  h.chg (X := fun _ => False) (Chg.of_ext hE) (fun _ _ h => h.elim) (fun _ _ h => h.elim) (fun _ _ h => h.elim) (fun _ _ h => h.elim)
/-- .. while both nets go on -/
theorem alC.pr {w0 W W' : World} {S T : Nat → Prop} {g r nb : Nat} {N : Nt} {ga gl : Nat} {v : Value} {cs : List Value} {fs : List Fl} (h : alC w0 ga gl v cs fs W) (hP : Pr2 W S T g r nb N) (hC : Chg (fun k => S k ∨ k = r) W W') : alC w0 ga gl v cs fs W' := by
  have hr := hP.2.1.2.2.1
  exact h.chg hC (fun k cur hk => hk.elim (fun h => hP.1.typ (by decide) (by decide) k cur h) (fun e => by rw [e]; exact hP.2.1.typ (by decide) (by decide) r cur hr))
    (fun k cur hk => hk.elim (fun h => hP.1.typ (by decide) (by decide) k cur h) (fun e => by rw [e]; exact hP.2.1.typ (by decide) (by decide) r cur hr))
    (fun k cur hk => hk.elim (fun h => hP.1.typ (by decide) (by decide) k cur h) (fun e => by rw [e]; exact hP.2.1.typ (by decide) (by decide) r cur hr))
    (fun k cur hk => hk.elim (fun h => hP.1.typ (by decide) (by decide) k cur h) (fun e => by rw [e]; exact hP.2.1.typ (by decide) (by decide) r cur hr))
/-- a net behind more acts -/
def moreN (N : Nt) (gs : List Ac) : Nt := gs.foldl doN N
theorem moreN_succ (N : Nt) (gs : List Ac) (k : Nat) (h : k < gs.length) : moreN N (gs.take (k + 1)) = doN (moreN N (gs.take k)) (gs.getD k ac0) := by
  unfold moreN
  rw [List.take_succ_eq_append_getElem h, List.foldl_append]
  simp [List.getD_eq_getElem?_getD, h]

set_option maxHeartbeats 8000000 in
set_option maxRecDepth 100000 in
theorem twins_any (w : World) (A B : Option Addr) (fs gs : List Ac) (n c m d : Nat) (hn : n = fs.length) (hm : m = gs.length) (hF : Acs w A fs) (hG : Acs w B gs) (hl : n ≤ 9223372036854775807) (hl2 : m ≤ 9223372036854775807)
    (hok : ∀ i, i < fs.length → I64 (fs.getD i ac0).a ∧ I64 (fs.getD i ac0).b) (hok2 : ∀ i, i < gs.length → I64 (gs.getD i ac0).a ∧ I64 (gs.getD i ac0).b) (z : Int) (hz : I64 z) :
    Calls Try.prog 8 #[.slice A n c, .slice B m d, .int .i64 z] w fun e w' => e = .returned (.bool true) ∧ Ext w w' := by
  have HOK := Lib.hid hok
  have HOK2 := Lib.hid hok2
  have HN := Lib.hid hn
  have HMM := Lib.hid hm
  have HF := Lib.hid hF
  have HG := Lib.hid hG
  have HIZ := Lib.hid hz
  have HX1 := Lib.hid (ext_new w (.cells #[.bool false] 4))
  have HB1 := Lib.hid (Blk.new w 4 #[.bool false])
  have KM1 := Lib.hid (fun W (hW : Ext w W) => muchN_any W A fs n c hn (hF.ext hW) hl)
  have KM2 := Lib.hid (fun W (hW : Ext w W) => muchN_any W B gs m d hm (hG.ext hW) hl2)
  have HRET : Hid (∀ W, Blk W w.heap.size 4 #[.bool false] → Ext w W → Ext w (W.setCell ⟨w.heap.size, 0, none⟩ (.bool true)) ∧ Blk (W.setCell ⟨w.heap.size, 0, none⟩ (.bool true)) w.heap.size 4 #[.bool true]) := Lib.hid (fun W hb hE => ⟨hE.setCell (Nat.le_refl _) _, hb.set 0 (.bool true)⟩)
  clear hn hm hF hG hok hok2 hz
  refine callsIn_wide.1 (callsIn_of_wp_marks (n := 3) Try.func8 rfl trivial (wpIn_wide.2 (wp_quiet ?_)) rfl)
  simp only [Try.ntmps8, List.size_toArray, List.length_cons, List.length_nil, Nat.reduceAdd, Nat.reduceSub, Array.replicate_succ, Array.replicate_zero, List.push_toArray, List.append_toArray, List.nil_append, List.cons_append]
  go_wp2_with fail
  generalize w.alloc (.cells #[.bool false] 4) = w0 at *
  refine (KM1.out w0 HX1.out).mono ?_
  rintro e w1 ⟨mb, rfl, hmb, hE1⟩
  have HE1 := Lib.hid (HX1.out.trans hE1)
  have HB2 := Lib.hid (HB1.out.ext hE1)
  have HMB := Lib.hid hmb
  clear hE1 hmb KM1 HX1 HB1
  cases mb with
  | true =>
    clear HMB
    go_wp2_with fail
    refine (known_net w1).mono ?_
    rintro e w2 ⟨rfl, hE2⟩
    have HE2 := Lib.hid (HE1.out.trans hE2)
    have HB3 := Lib.hid (HB2.out.ext hE2)
    have c6 := cell1 HB3.out
    have f6 := HB3.out.frozen 0
    clear hE2
    go_wp2_with fail
    obtain ⟨q1, q2⟩ := HRET.out _ HB3.out HE2.out
    exact postM_ret (results_cell1 Try.results8 _ _ ⟨w.heap.size, 0, none⟩ (.bool true) rfl (load_yes (cell1 q2))) ⟨rfl, q1⟩
  | false =>
  obtain ⟨hl60, hbl⟩ := HMB.out rfl
  rw [← HN.out] at hl60
  have HBL := Lib.hid hbl
  clear HMB hbl
  have KM2 := Lib.hid (KM2.out w1 HE1.out)
  go_wp2_with fail
  refine KM2.out.mono ?_
  rintro e w2 ⟨mb, rfl, hmb, hE2⟩
  have HE2 := Lib.hid (HE1.out.trans hE2)
  have HB3 := Lib.hid (HB2.out.ext hE2)
  have HMB := Lib.hid hmb
  clear hE2 hmb KM2 HE1 HB2
  cases mb with
  | true =>
    clear HMB
    go_wp2_with fail
    refine (known_net w2).mono ?_
    rintro e w3 ⟨rfl, hE3⟩
    have HE3 := Lib.hid (HE2.out.trans hE3)
    have HB4 := Lib.hid (HB3.out.ext hE3)
    have c6 := cell1 HB4.out
    have f6 := HB4.out.frozen 0
    clear hE3
    go_wp2_with fail
    obtain ⟨q1, q2⟩ := HRET.out _ HB4.out HE3.out
    exact postM_ret (results_cell1 Try.results8 _ _ ⟨w.heap.size, 0, none⟩ (.bool true) rfl (load_yes (cell1 q2))) ⟨rfl, q1⟩
  | false =>
  obtain ⟨hm60, hbm⟩ := HMB.out rfl
  rw [← HMM.out] at hm60
  have HBM := Lib.hid hbm
  clear HMB hbm
  by_cases h30 : n ≤ 30 ∧ m ≤ 30
  · have d1 : decide ((30 : Int) < (n : Int)) = false := decide_eq_false (by omega)
    have d2 : decide ((30 : Int) < (m : Int)) = false := decide_eq_false (by omega)
    have HP := Lib.hid (pair_law w2 A fs n c HN.out (HF.out.ext HE2.out) hl60 (fun i hi => ⟨(HOK.out i hi).1, (HOK.out i hi).2, HBL.out i hi⟩))
    clear HOK HBL
    go_wp2_with fail
    refine HP.out.mono ?_
    rintro e w3 ⟨S, T, g, r, rfl, hP, hS, hT, hE3⟩
    have HX4 := Lib.hid (ext_new w3 (.cells #[.pointer (some ⟨r, 0, none⟩)] 29))
    have HB8 := Lib.hid (Blk.new w3 29 #[.pointer (some ⟨r, 0, none⟩)])
    have HS := Lib.hid (fun k hk => Nat.le_trans HE2.out.size (hS k hk))
    have HT := Lib.hid (fun k hk => Nat.le_trans HE2.out.size (hT k hk))
    have HP4 := Lib.hid ((hP.mono (nb' := 2100) (by omega)).ext HX4.out)
    have HE4 := Lib.hid ((HE2.out.trans hE3).trans HX4.out)
    have HB6 := Lib.hid (HB3.out.ext (hE3.trans HX4.out))
    clear hP hS hT hE3 HP HB3 HE2
    generalize actsN fs = N at *
    go_upto_region 6 with fail
    generalize w3.alloc (.cells #[.pointer (some ⟨r, 0, none⟩)] 29) = w4 at *
    generalize w3.heap.size = b8 at *
    have c8 := cell1 HB8.out
    have HXD : Hid (Ext w4 w4.drew) := Lib.hid (Ext.refl w4).drew
    have KC := Lib.hid (Copy_net (HP4.out.1.ext HXD.out) (by omega))
    have KR := Lib.hid (fun W (hW : Ext w4 W) => Copy_ref (HP4.out.2.1.ext hW))
    have KA := Lib.hid (fun W (hW : Ext w4 W) => All_net (HP4.out.1.ext hW))
    obtain ⟨F, hFe⟩ : ∃ F, flN N = F := ⟨_, rfl⟩
    rw [hFe] at KA
    have HFE := Lib.hid hFe
    have hfl := flN_length HP4.out.1.1
    have hbig := flN_big HP4.out.1.1
    rw [hFe] at hfl hbig
    have HBIG := Lib.hid hbig
    clear hFe hbig
    unfold allV at KA
    refine wp_eager Ext.pre (n := 9) (by kernel_rfl) (by kernel_rfl) ?_
    refine Eg.batchK Ext.pre (by intro c a d v w h; cases d <;> exact h) (by kernel_rfl) (n := 7) [0, 4] [] _ (by kernel_rfl) (fun K hK => ?_); (simp only [pickOps, List.getElem?_toArray, List.getElem?_cons_zero, List.getElem?_cons_succ, Option.toList_some, List.cons_append, List.nil_append]); (repeat (first | go_big_quiet_step (fail) | quiet_step (fail))); refine wpQuiet_nil (hK _ ?_); clear hK K
    (refine Eg.read Ext.pre (by intro c a d v w h; cases d <;> exact h) (by kernel_rfl) (i := 2) (n := 6) (l := [0, 4]) rfl (by kernel_rfl) (by kernel_rfl) rfl ⟨_, fun w' hR => load_run rfl (load_ref (hR.cell (a := w4.drew) c8)), ?_⟩); (simp only [Act.put, List.setIfInBounds_toArray, List.getElem_toArray, List.getElem_cons_succ, List.getElem_cons_zero, List.set_cons_succ, List.set_cons_zero])
    refine Eg.act Ext.pre (i := 1) (n := 5) (l := [0, 4, 2]) rfl (by kernel_rfl) ?_
    go_wp2_with fail
    refine KC.out.mono ?_
    rintro e w5 ⟨S2, g2, rfl, hN5, hS5, hE5⟩
    go_wp2_with fail
    refine ⟨hE5, ?_⟩
    have HN5 := Lib.hid hN5
    have HS5 := Lib.hid hS5
    have HE5 := Lib.hid (HXD.out.trans hE5)
    clear hN5 hS5 hE5
    refine Eg.act Ext.pre (i := 3) (n := 4) (l := [0, 4, 2, 1]) rfl (by kernel_rfl) ?_
    go_wp2_with fail
    refine (KR.out _ HE5.out).mono ?_
    rintro e w6 ⟨T2, r2, rfl, hR6, hr6, hT6, hE6⟩
    go_wp2_with fail
    refine ⟨hE6, ?_⟩
    have HR6 := Lib.hid hR6
    have HT6 := Lib.hid hT6
    have HRL := Lib.hid hr6
    have HN6 := Lib.hid (HN5.out.ext hE6)
    have HE6 := Lib.hid (HE5.out.trans hE6)
    clear hR6 hT6 hr6 hE6
    refine Eg.act Ext.pre (i := 5) (n := 3) (l := [0, 4, 2, 1, 3]) rfl (by kernel_rfl) ?_
    go_wp2_with fail
    refine (KA.out _ HE6.out).mono ?_
    rintro e w7 ⟨ga, gl, v, cs, rfl, hfc, hac, hgl, hga, hvo, hE7⟩
    go_wp2_with fail
    refine ⟨hE7, ?_⟩
    refine Eg.batchK Ext.pre (by intro c a d v w h; cases d <;> exact h) (by kernel_rfl) (n := 0) [6, 7, 8] [0, 4, 2, 1, 3, 5] _ (by kernel_rfl) (fun K hK => ?_); (simp only [pickOps, List.getElem?_toArray, List.getElem?_cons_zero, List.getElem?_cons_succ, Option.toList_some, List.cons_append, List.nil_append]); (repeat (first | go_big_quiet_step (fail) | quiet_step (fail))); refine wpQuiet_nil (hK _ ?_); clear hK K
    refine Eg.finish (by kernel_rfl) ?_
    have HP7 : Hid (Pr2 w7 S2 T2 g2 r2 2100 N) := Lib.hid ⟨HN6.out.ext hE7, HR6.out.ext hE7, fun k hk ht => (HT6.out k ht).elim (fun e => by have := HN5.out.lt k hk; have := HRL.out; omega) (fun h => by have := HP4.out.2.1.lt k h.1; have := HS5.out k hk; have := HXD.out.size; omega)⟩
    have HFC := Lib.hid hfc
    have HAC := Lib.hid hac
    have HVO := Lib.hid hvo
    have HE7 := Lib.hid (HE6.out.trans hE7)
    have HS7 : Hid (∀ k, S2 k → w4.heap.size ≤ k) := Lib.hid (fun k hk => by have := HS5.out k hk; have := HXD.out.size; omega)
    have HR7 : Hid (w4.heap.size ≤ r2) := Lib.hid (Nat.le_trans HE5.out.size HRL.out)
    have HT7 : Hid (∀ k, T2 k → w.heap.size ≤ k) := Lib.hid (fun k hk => (HT6.out k hk).elim (fun e => by have := HR7.out; have := HE4.out.size; omega) (fun h => HT.out k h.1))
    have HNIL := fun W => nil_closure 68 (by kernel_rfl) 51 #[.pointer (some ⟨ga, 0, none⟩)] W
    have HG0 : Hid (moreN N (gs.take 0) = N) := Lib.hid rfl
    have HSU : Hid (∀ k, k < m → moreN N (gs.take (k + 1)) = doN (moreN N (gs.take k)) (gs.getD k ac0)) := Lib.hid (fun k hk => moreN_succ N gs k (by have := HMM.out; omega))
    have hgl2 := hgl
    have hga2 := hga
    clear hfc hac hvo hE7 KC KR KA HN5 HS5 HE5 HR6 HT6 HRL HN6 c8 HXD
    go_wp2_with fail
    go_loopw [12] (fun i wr => ∃ (k : Nat) (S' T' : Nat → Prop), k ≤ m ∧ i = .int .i64 (k : Int) ∧ Pr2 wr S' T' g2 r2 (2100 + 70 * k) (moreN N (gs.take k)) ∧ (∀ q, S' q → w4.heap.size ≤ q) ∧ Ext w4 wr ∧ alC w6 ga gl v cs F wr) (fun i _ => m - (intOf i).toNat)
    case atStart => exact ⟨0, S2, T2, Nat.zero_le _, rfl, by rw [HG0.out]; exact HP7.out, HS7.out, HE7.out, HAC.out⟩
    case round =>
      obtain ⟨k, S', T', hk, rfl, hP, hS', hE, hA⟩ := hrel
      have HPk := Lib.hid hP
      have HSk := Lib.hid hS'
      have HEk := Lib.hid hE
      have HAk := Lib.hid hA
      clear hP hS' hE hA HP7 HS7 HE7 HAC
      by_cases hkm : k < m
      · have hd : decide ((k : Int) < (m : Int)) = true := decide_eq_true (by omega)
        obtain ⟨b, o, rfl, d0, d1', d2', Ai, ci, d3, hby⟩ := HG.out.at_ (i := k) (by have := HMM.out; omega)
        have HEw := Lib.hid (HE4.out.trans HEk.out)
        have c0 := HEw.out.cell d0
        have c1 := HEw.out.cell d1'
        have c2 := HEw.out.cell d2'
        have c3 := HEw.out.cell d3
        obtain ⟨ok1, ok2⟩ := HOK2.out k (by have := HMM.out; omega)
        have ok3 := HBM.out k (by have := HMM.out; omega)
        have KD := do_any2 HPk.out HEw.out (fun q hq => Nat.le_trans HE4.out.size (HSk.out q hq)) (Nat.le_trans HE4.out.size HR7.out) (gs.getD k ac0) ci hby ok3 ok1 ok2 (by omega)
        unfold acC at KD
        rw [← HSU.out k hkm] at KD
        have KD := Lib.hid KD
        clear ok1 ok2 ok3 hby d0 d1' d2' d3 HNIL
        generalize gs.getD k ac0 = s at *
        go_wp2_with fail
        refine KD.out.mono ?_
        rintro e w9 ⟨rfl, S9, T9, hP9, hG9, hG9', hC9⟩
        have HP9 := Lib.hid hP9
        have HS9 : Hid (∀ q, S9 q → w4.heap.size ≤ q) := Lib.hid (fun q hq => (hG9 q hq).elim (HSk.out q) (fun h => Nat.le_trans HEk.out.size h))
        have HE9 := Lib.hid (hC9.ext HEk.out (fun q hq => hq.elim (HSk.out q) (fun e => by rw [e]; exact HR7.out)))
        have HA9 := Lib.hid (HAk.out.pr HPk.out hC9)
        clear hP9 hG9 hG9' hC9 KD c0 c1 c2 c3
        go_wp2_with fail
        exact ⟨⟨k + 1, S9, T9, by omega, by go_num, HP9.out.mono (by omega), HS9.out, HE9.out, HA9.out⟩, by simp [intOf]; omega⟩
      · obtain rfl : k = m := by omega
        have hd : decide ((k : Int) < (k : Int)) = false := decide_eq_false (by omega)
        clear HNIL
        have HB8k := Lib.hid (HB8.out.ext HEk.out)
        have HBk := Lib.hid (HB6.out.ext HEk.out)
        go_wp2_with fail
        refine (as_law HPk.out).mono ?_
        rintro e wa ⟨rfl, hEa⟩
        have HEa := Lib.hid (HEk.out.trans hEa)
        have c8 := cell1 (HB8.out.ext HEa.out)
        have HAa := Lib.hid (HAk.out.ext hEa)
        clear hEa HPk HSk HEk HAk HB8k HBk
        go_wp2_with fail
        refine (as_law (HP4.out.ext HEa.out)).mono ?_
        rintro e wb ⟨rfl, hEb⟩
        have HEb := Lib.hid (HEa.out.trans hEb)
        have HAb := Lib.hid (HAa.out.ext hEb)
        have KF := flights_law (HP4.out.1.ext HEb.out) z HIZ.out
        rw [HFE.out] at KF
        have HGX : Hid (∀ W Aw, FlX W Aw F → FlX W Aw (upTo F z)) := Lib.hid (fun W Aw h => upTo_x h z)
        have hup1 : z ≤ 0 → upTo F z = F := fun h => by unfold upTo; rw [if_neg (by omega)]
        have hup2 : (F.length : Int) ≤ z → upTo F z = F := fun h => by
          unfold upTo
          split
          · exact List.take_of_length_le (by omega)
          · rfl
        have hup3 : 0 < z → z < (F.length : Int) → (upTo F z).length = z.toNat := fun h1 h2 => by unfold upTo; rw [if_pos ⟨by omega, by omega⟩, List.length_take]; omega
        have hup4 : (upTo F z).length ≤ F.length := by
          unfold upTo
          split
          · rw [List.length_take]; omega
          · omega
        have hsub : ∀ x ∈ upTo F z, x ∈ F := fun x hx => by
          unfold upTo at hx
          split at hx
          · exact List.mem_of_mem_take hx
          · exact hx
        have HBG : Hid (∀ i, ((upTo F z).getD i fl0).b.length ≤ 1048576) := Lib.hid (fun i => by
          rcases Nat.lt_or_ge i (upTo F z).length with h | h
          · rw [List.getD_eq_getElem?_getD, List.getElem?_eq_getElem h, Option.getD_some]
            exact HBIG.out _ (hsub _ (List.getElem_mem h))
          · rw [List.getD_eq_getElem?_getD, List.getElem?_eq_none (by omega)]
            exact Nat.zero_le _)
        clear hsub
        obtain ⟨len, hlen⟩ : ∃ len, F.length = len := ⟨_, rfl⟩
        have HLEN := Lib.hid hlen
        rw [hlen] at hfl hup2 hup3 hup4
        obtain ⟨G, hGe⟩ : ∃ G, upTo F z = G := ⟨_, rfl⟩
        rw [hGe] at KF HBG hup1 hup2 hup3 hup4
        simp only [hGe] at HGX
        obtain ⟨ng, hng⟩ : ∃ ng, G.length = ng := ⟨_, rfl⟩
        rw [hng] at KF hup3 hup4
        have HNG := Lib.hid hng
        have HUP := Lib.hid (And.intro hup1 (And.intro hup2 hup3))
        have KF := Lib.hid KF
        clear hEb HAa hlen hGe hng hup1 hup2 hup3
        go_wp2_with fail
        refine KF.out.mono ?_
        rintro e wc ⟨v1, cs1, rfl, hrow, hown, hEc⟩
        obtain ⟨A1, c1', rfl⟩ := row_form hrow
        have HMU := Lib.hid (mu_of HNG.out hrow hown)
        have HXG : Hid (FlX wc A1 G) := Lib.hid (by
          have hr' := hrow
          rw [← HNG.out] at hr'
          have hfr : FlRow wc wc wb.heap.size (.slice A1 G.length c1') G := ⟨cs1, hr', hown.cells⟩
          obtain ⟨A', c'', e, hx⟩ := hfr.x (Ext.refl wc)
          cases e
          exact hx)
        have HEc := Lib.hid (HEb.out.trans hEc)
        have HEbc := Lib.hid hEc
        have HAc := Lib.hid (HAb.out.ext hEc)
        have c8 := cell1 (HB8.out.ext HEc.out)
        have KFR := Flights_ref (HP4.out.2.1.ext HEc.out)
        rw [HFE.out] at KFR
        have KFR := Lib.hid KFR
        clear hrow hown hEc KF
        go_wp2_with fail
        refine KFR.out.mono ?_
        rintro e wd ⟨vw, rfl, hFd, hEd⟩
        obtain ⟨Aw, cw, rfl, hxd⟩ := hFd.x hEd
        rw [HLEN.out]
        have HXF := Lib.hid hxd
        have HXW := Lib.hid (HGX.out _ _ hxd)
        have HXG := Lib.hid (HXG.out.ext hEd)
        have HMU := Lib.hid (HMU.out.ext hEd)
        have HEd := Lib.hid (HEc.out.trans hEd)
        have HEbd := Lib.hid (HEbc.out.trans hEd)
        have HAd := Lib.hid (HAc.out.ext hEd)
        have KSA := Lib.hid (fun cw' => SameAll_same wd A1 Aw G ng ng c1' cw' HNG.out.symm HNG.out.symm HXG.out HXW.out (by rw [HNG.out]; omega))
        have hlcw : len ≤ cw := by
          obtain ⟨_, hr⟩ := hFd.choose_spec.1
          rcases hr with ⟨e, h0⟩ | ⟨g', cap', cur', e, _, _, h3, _⟩
          · have := HLEN.out; omega
          · injection e with _ _ e3
            rw [e3, ← HLEN.out]
            exact h3
        clear hFd hEd hxd KFR c8 HAc HEbc HEc
        have hcs : (decide (0 < z) = false ∧ ng = len) ∨ (decide (0 < z) = true ∧ decide (z < (len : Int)) = false ∧ ng = len) ∨ (decide (0 < z) = true ∧ decide (z < (len : Int)) = true ∧ z = (ng : Int) ∧ ng < len) := by
          by_cases h1 : 0 < z
          · by_cases h2 : z < (len : Int)
            · have h3 := HUP.out.2.2 h1 h2
              exact .inr (.inr ⟨decide_eq_true h1, decide_eq_true h2, by omega, by omega⟩)
            · have h3 := HUP.out.2.1 (by omega)
              exact .inr (.inl ⟨decide_eq_true h1, decide_eq_false h2, by rw [← HNG.out, ← HLEN.out, h3]⟩)
          · have h3 := HUP.out.1 (by omega)
            exact .inl ⟨decide_eq_false h1, by rw [← HNG.out, ← HLEN.out, h3]⟩
        have HIM : Hid (∀ i, (G.getD i fl0).b.length ≤ 1048576) := HBG
        obtain ⟨ln, hln⟩ : ∃ ln : Nat → Nat, ln = fun i => (G.getD i fl0).b.length := ⟨_, rfl⟩
        rw [← hln] at HMU
        have HLB : Hid (∀ i, ln i ≤ 1048576) := Lib.hid (fun i => by rw [hln]; exact HBG.out i)
        clear hln HIM HBG HXG HXW HGX HUP HAd
        rcases hcs with ⟨g1, h1⟩ | ⟨g1, g2, h1⟩ | ⟨g1, g2, h1, h2⟩
        all_goals
          first
            | (obtain ⟨grw, ow, Abw, cbw, rfl, _⟩ := HXF.out.at_ (i := 0) (by rw [HLEN.out]; omega)
               have HLT2 : Hid (ng < len) := Lib.hid h2
               subst h1
               have g3 : decide (0 < ng) = true := decide_eq_true (by have := of_decide_eq_true g1; omega))
            | subst h1
          clear HXF HIZ
          go_wp2_with fail
          refine (KSA.out _).mono ?_
          rintro e we ⟨rfl, hEe⟩
          have HMU := Lib.hid (HMU.out.ext hEe)
          have HEbe := Lib.hid (HEbd.out.trans hEe)
          clear hEe KSA HEbd HEd
          go_wp2_with fail
          go_loopw [16] (fun i wr => ∃ k : Nat, k ≤ ng ∧ i = .int .i64 (k : Int) ∧ MU wb.heap.size wr A1 ln ng ∧ Ext wb wr) (fun i _ => ng - (intOf i).toNat)
          case atStart => exact ⟨0, Nat.zero_le _, rfl, HMU.out, HEbe.out⟩
          case round =>
            obtain ⟨kk, hkk, rfl, hMU, hE⟩ := hrel
            have HMUr := Lib.hid hMU
            have HEr := Lib.hid hE
            clear hE hMU HMU HEbe
            obtain ⟨wo, rfl⟩ : ∃ wo, wo = wr := ⟨_, rfl⟩
            by_cases hkn : kk < ng
            · have hd3 : decide ((kk : Int) < (ng : Int)) = true := decide_eq_true (by omega)
              have hlk := HLB.out kk
              go_wp2_with fail
              go_loopw [17] (fun i wx => ∃ q : Nat, q ≤ ln kk ∧ i = .int .i64 (q : Int) ∧ MU wb.heap.size wx A1 ln ng ∧ Ext wb wx) (fun i _ => ln kk - (intOf i).toNat)
              case atStart => exact ⟨0, Nat.zero_le _, rfl, HMUr.out, HEr.out⟩
              case round =>
                obtain ⟨q, hq, rfl, hMU, hE⟩ := hrel
                have HMUx := Lib.hid hMU
                have HEx := Lib.hid hE
                clear hE
                rcases hMU with h0 | ⟨gr, hAe, hMU⟩
                · omega
                subst hAe
                obtain ⟨Ab, cb, x2, hbr, hbg⟩ := hMU kk hkn
                clear hMU HMUr
                by_cases hqn : q < ln kk
                · have hd4 : decide ((q : Int) < (ln kk : Int)) = true := decide_eq_true (by omega)
                  rcases hbg with h0 | ⟨gx, hAe, hB, hne⟩
                  · omega
                  subst hAe
                  rcases hbr with h0 | ⟨go, cur, e, hb, hx⟩
                  · omega
                  cases e
                  obtain ⟨x, hx'⟩ := hx q hqn
                  have y0 : wr.drew.cell? ⟨gx, q, none⟩ = some (.int .u8 x) := by
                    show wr.cell? _ = _
                    rw [hb.cell]
                    exact hx'
                  have hfr : wr.drew.frozen? ⟨gx, q, none⟩ = false := hb.frozen q
                  have HGX2 := Lib.hid hne
                  have HGB := Lib.hid hB
                  have hgne : ¬ gr = gx := fun e => hne e.symm
                  clear hb hx hx' hne hB
                  generalize ln kk = lk at *
                  go_upto_region 28 with fail
                  refine wp_eager (chg_pre (fun t => t = gx)) (n := 17) (by kernel_rfl) (by kernel_rfl) ?_
                  refine Eg.batchK (chg_pre (fun t => t = gx)) (by intro c a d v w h; cases d <;> exact h) (by kernel_rfl) (n := 7) [0, 1, 2, 3, 5, 6, 7, 8, 9, 11] [] _ (by kernel_rfl) (fun K hK => ?_); (simp only [pickOps, List.getElem?_toArray, List.getElem?_cons_zero, List.getElem?_cons_succ, Option.toList_some, List.cons_append, List.nil_append]); (repeat (first | go_big_quiet_step (fail) | quiet_step (fail))); refine wpQuiet_nil (hK _ ?_); clear hK K
                  (refine Eg.read (chg_pre (fun t => t = gx)) (by intro c a d v w h; cases d <;> exact h) (by kernel_rfl) (i := 4) (n := 6) (l := [0, 1, 2, 3, 5, 6, 7, 8, 9, 11]) rfl (by kernel_rfl) (by kernel_rfl) rfl ⟨_, fun w' hR => load_run rfl (load_bs (hR.cell (w := wr.drew) x2 hgne)), ?_⟩); (simp only [Act.put, List.setIfInBounds_toArray, List.getElem_toArray, List.getElem_cons_succ, List.getElem_cons_zero, List.set_cons_succ, List.set_cons_zero])
                  (refine Eg.read (chg_pre (fun t => t = gx)) (by intro c a d v w h; cases d <;> exact h) (by kernel_rfl) (i := 10) (n := 5) (l := [0, 1, 2, 3, 5, 6, 7, 8, 9, 11, 4]) rfl (by kernel_rfl) (by kernel_rfl) rfl ⟨_, fun w' hR => load_run rfl (load_bs (hR.cell (w := wr.drew) x2 hgne)), ?_⟩); (simp only [Act.put, List.setIfInBounds_toArray, List.getElem_toArray, List.getElem_cons_succ, List.getElem_cons_zero, List.set_cons_succ, List.set_cons_zero])
                  refine Eg.batchK (chg_pre (fun t => t = gx)) (by intro c a d v w h; cases d <;> exact h) (by kernel_rfl) (n := 4) [12] [0, 1, 2, 3, 5, 6, 7, 8, 9, 11, 4, 10] _ (by kernel_rfl) (fun K hK => ?_); (simp only [pickOps, List.getElem?_toArray, List.getElem?_cons_zero, List.getElem?_cons_succ, Option.toList_some, List.cons_append, List.nil_append]); (repeat (first | go_big_quiet_step (fail) | quiet_step (fail))); refine wpQuiet_nil (hK _ ?_); clear hK K
                  refine Eg.act (chg_pre (fun t => t = gx)) (i := 13) (n := 3) (l := [0, 1, 2, 3, 5, 6, 7, 8, 9, 11, 4, 10, 12]) rfl (by kernel_rfl) ?_
                  go_wp2_with fail
                  refine ⟨Chg.refl _ _, ?_⟩
                  refine Eg.batchK (chg_pre (fun t => t = gx)) (by intro c a d v w h; cases d <;> exact h) (by kernel_rfl) (n := 1) [14, 15] [0, 1, 2, 3, 5, 6, 7, 8, 9, 11, 4, 10, 12, 13] _ (by kernel_rfl) (fun K hK => ?_); (simp only [pickOps, List.getElem?_toArray, List.getElem?_cons_zero, List.getElem?_cons_succ, Option.toList_some, List.cons_append, List.nil_append]); (repeat (first | go_big_quiet_step (fail) | quiet_step (fail))); refine wpQuiet_nil (hK _ ?_); clear hK K
                  refine Eg.act (chg_pre (fun t => t = gx)) (i := 16) (n := 0) (l := [0, 1, 2, 3, 5, 6, 7, 8, 9, 11, 4, 10, 12, 13, 14, 15]) rfl (by kernel_rfl) ?_
                  go_wp2_with fail
                  refine ⟨Chg.of_grown (grown_set _ _ _) (fun k e => by cases e; rfl), ?_⟩
                  refine Eg.finish (by kernel_rfl) ?_
                  have HMU2 := Lib.hid ((HMUx.out.set rfl (k := q) HGX2.out ((x + 1) % 256)).ext (Ext.refl _).drew)
                  have HE2x := (HEx.out.setCell (p := ⟨gx, q, none⟩) HGB.out (.int .u8 ((x + 1) % 256))).drew
                  clear y0 hfr x2
                  go_wp2_with fail
                  exact ⟨⟨q + 1, by omega, by go_num, HMU2.out, HE2x⟩, by simp [intOf]; omega⟩
                · obtain rfl : q = ln kk := by omega
                  have hd4 : decide ((ln kk : Int) < (ln kk : Int)) = false := decide_eq_false (by omega)
                  generalize ln kk = lk at *
                  go_wp2_with fail
                  exact ⟨⟨kk + 1, by omega, by go_num, HMUx.out, HEx.out⟩, by simp [intOf]; omega⟩
            · obtain rfl : kk = ng := by omega
              have hd3 : decide ((kk : Int) < (kk : Int)) = false := decide_eq_false (by omega)
              have HEr4 := Lib.hid (HEb.out.trans HEr.out)
              have HPr := Lib.hid (HP4.out.ext HEr4.out)
              have HAr := Lib.hid (HAb.out.ext HEr.out)
              have HBr := Lib.hid (HB6.out.ext HEr4.out)
              have HB8r := Lib.hid (HB8.out.ext HEr4.out)
              have HEwr := Lib.hid (HE4.out.trans HEr4.out)
              have KC1 := Lib.hid (Clear_net HPr.out.1 1 (by unfold I64; omega))
              generalize clearC N 1 = gc1 at *
              clear HMUr HEr HEr4 HAb HEb HP4 HB6 HB8 HE4
              go_wp2_with fail
              refine KC1.out.mono ?_
              rintro e wg ⟨rfl, hNg, hCg⟩
              have HRg := Lib.hid (HPr.out.2.1.chg hCg HPr.out.2.2 HPr.out.1.bytes)
              have HNg := Lib.hid hNg
              have HAg := Lib.hid (HAr.out.chg hCg (HPr.out.1.typ (by decide) (by decide)) (HPr.out.1.typ (by decide) (by decide)) (HPr.out.1.typ (by decide) (by decide)) HPr.out.1.bytes)
              have HBg := Lib.hid (hCg.blk HBr.out (fun h => HPr.out.1.typ (by decide) (by decide) _ _ h HBr.out))
              have HB8g := Lib.hid (hCg.blk HB8r.out (fun h => HPr.out.1.typ (by decide) (by decide) _ _ h HB8r.out))
              have HEg := Lib.hid (hCg.ext HEwr.out HS.out)
              have HDJ := Lib.hid HPr.out.2.2
              have KC2 := Lib.hid (Clear_net hNg 2 (by unfold I64; omega))
              generalize clearN N 1 = N5 at *
              generalize clearC N5 2 = gc2 at *
              clear hNg hCg HPr HAr HBr HB8r HEwr KC1
              go_wp2_with fail
              refine KC2.out.mono ?_
              rintro e wh ⟨rfl, hNh, hCh⟩
              have HRh := Lib.hid (HRg.out.chg hCh HDJ.out HNg.out.bytes)
              have HAh := Lib.hid (HAg.out.chg hCh (HNg.out.typ (by decide) (by decide)) (HNg.out.typ (by decide) (by decide)) (HNg.out.typ (by decide) (by decide)) HNg.out.bytes)
              have HBh := Lib.hid (hCh.blk HBg.out (fun h => HNg.out.typ (by decide) (by decide) _ _ h HBg.out))
              have HB8h := Lib.hid (hCh.blk HB8g.out (fun h => HNg.out.typ (by decide) (by decide) _ _ h HB8g.out))
              have HEh := Lib.hid (hCh.ext HEg.out HS.out)
              have HXa := Lib.hid (ext_new wh (.cells #[.int .i64 0] 3))
              have HNGa : Hid (¬ alG w6 ga gl v wh.heap.size) := Lib.hid (fun h => by have := alG_lt HAh.out _ h; omega)
              have HB6N : Hid (w.heap.size ≠ wh.heap.size ∧ w.heap.size < wh.heap.size) := Lib.hid (by have := HBh.out.lt; omega)
              have HBa := Lib.hid (Blk.new wh 3 #[.int .i64 0])
              have HRi := Lib.hid (HRh.out.ext HXa.out)
              have HAi := Lib.hid (HAh.out.ext HXa.out)
              have HBi := Lib.hid (HBh.out.ext HXa.out)
              have HB8i := Lib.hid (HB8h.out.ext HXa.out)
              have HEi := Lib.hid (HEh.out.trans HXa.out)
              clear hNh hCh HRg HAg HBg HB8g HEg HRh HAh HBh HB8h HEh KC2 HXa HNg HDJ
              go_wp2_with fail
              generalize wh.alloc (.cells #[.int .i64 0] 3) = wi at *
              generalize wh.heap.size = ba at *
              have HL1 : Hid (F.length ≤ 1000000) := Lib.hid (by have := HLEN.out; omega)
              have HTL := Lib.hid HRi.out.lt
              have HAF : Hid (∀ s, s < F.length → atF N (s : Int) = F.getD s fl0) := Lib.hid (fun s hs => by
                have h := atF_of (N := N) (j := s) (by rw [HFE.out]; exact hs)
                rw [HFE.out] at h
                exact h)
              have HAE := Lib.hid (fun s (hs : s < F.length) => atE_nat (N := N) (j := s) (by rw [HFE.out]; exact hs))
              have hbal := HBa.out.lt
              refine wp_rangeBox2 (σ := Nat) 3 (by omega) (gf := 51) (lb := #[.pointer (some ⟨ga, 0, none⟩)]) rfl (enters_of Try.func51 (by kernel_rfl) rfl) (all_seq w6 ga gl v cs F HFC.out HL1.out (fun W h => alG_lt h) HBIG.out 2 (by omega))
                (fun W' hg => HAi.out.ext ⟨hg.os, hg.tape, hg.output, hg.size, fun i hi => hg.block i hi (by simp)⟩) (alG_lt HAi.out) (fun N s args s' A hx => by obtain ⟨_, _, _, vb, rfl, _⟩ := hx; rfl) (fun N' s args s' => alX_firm _ N' s args s')
                (fun s A => s ≤ F.length ∧ Blk A ba 3 #[.int .i64 (s : Int)] ∧ Blk A w.heap.size 4 #[.bool false] ∧ Blk A b8 29 #[.pointer (some ⟨r, 0, none⟩)] ∧ RefAt A T r N ∧ Ext w A)
                (fun _ _ _ => False)
                (fun s A B row h hg hr => by
                  obtain ⟨q1, q2, q3, q4, q5, q6⟩ := h
                  have hf : ∀ r, row = some r → ∃ o : Obj, A.heap[r]? = some o ∧ o.isCells = false := fun r e => (hr r e).2
                  exact ⟨q1, q2.firm hg hf, q3.firm hg hf, q4.firm hg hf, q5.chg (S := fun k => row = some k) (Chg.of_grown hg (fun r e => e)) (fun k hk ht => by have := HTL.out k ht; have := (hr k hk).1; omega) (fun k cur hk hb => by
                    obtain ⟨o, ho, hc⟩ := hf k hk
                    unfold Blk at hb
                    rw [hb] at ho
                    cases ho
                    cases hc), q6.grown hg (fun k e => by have := (hr k e).1; have := HEi.out.size; omega)⟩)
                (fun c s A B row h hg hr => h) ⟨Nat.zero_le _, HBa.out, HBi.out, HB8i.out, HRi.out, HEi.out⟩ 45
                (fun args gx T => ((((T.setIfInBounds 147 (args.getD 0 undef)).setIfInBounds 148 (args.getD 1 undef)).setIfInBounds 19 (args.getD 0 undef)).setIfInBounds 20 (.pointer (some ⟨gx, 0, none⟩)))) ?assign ?body ?done ?stop
              case assign =>
                rintro l2 s args s' A K ⟨hsl, _, _, vb, rfl, hb⟩ hK
                obtain ⟨Ab, cb, rfl, _⟩ := hb.form
                generalize F.getD s fl0 = f at *
                have hx := hK A.heap.size _ (Blk.new A 45 _) (Nat.le_refl _) (World.grownBy_alloc A _ none)
                clear hsl
                gi_wp2_with fail
                exact hx
              case body =>
                rintro l2 s args s' gx A Wb ⟨hsl, hqa, hq6, hq8, hqR, hqE⟩ hgA hl2 ⟨hsl2, rfl, hN2, vb, rfl, hb⟩ hgx hgxA
                have hgx0 : Blk Wb gx 45 #[.int .i64 ((F.getD s fl0).from_ : Int), .int .i64 ((F.getD s fl0).to_ : Int), vb] := hgx
                simp only [Array.getD_eq_getD_getElem?, List.getElem?_toArray, List.getElem?_cons_zero, List.getElem?_cons_succ, Option.getD_some, List.setIfInBounds_toArray, List.set_cons_succ, List.set_cons_zero]
                have hf2 : ∀ r, (some l2 : Option Nat) = some r → ∃ o : Obj, A.heap[r]? = some o ∧ o.isCells = false := fun r e => by cases e; exact hl2.2
                have HQA := Lib.hid (hqa.firm hgA hf2)
                have HQ6 := Lib.hid (hq6.firm hgA hf2)
                have HQ8 := Lib.hid (hq8.firm hgA hf2)
                have HQR := Lib.hid (hqR.chg (S := fun k => (some l2 : Option Nat) = some k) (Chg.of_grown hgA (fun r e => e)) (fun k hk ht => by have := HTL.out k ht; have := hl2.1; cases hk; omega) (fun k cur hk hb' => by
                  obtain ⟨o, ho, hc⟩ := hf2 k hk
                  unfold Blk at hb'
                  rw [hb'] at ho
                  cases ho
                  cases hc))
                have HQE := Lib.hid (hqE.grown hgA (fun k e => by cases e; have := hl2.1; have := HEi.out.size; omega))
                have hs1 : s ≤ 1000000 := by have := HL1.out; omega
                have KAT := At_ref HQR.out (s : Int) (by unfold I64; omega)
                rw [HAF.out s hsl2, HAE.out s hsl2] at KAT
                have HBb := Lib.hid (Bs.of_own hb)
                have HS2 := Lib.hid hsl2
                have HN2 := Lib.hid hN2
                have HSZb := Lib.hid hgA.size
                obtain ⟨Ab, cb, rfl, _⟩ := hb.form
                have hlF := HL1.out
                generalize F.getD s fl0 = f at *
                obtain ⟨ffa, fft, ffb⟩ := f
                simp only at *
                have HGX := Lib.hid hgx0
                have KAT := Lib.hid KAT
                have c8 := cell1 HQ8.out
                have HGa := Lib.hid (alG_lt HAi.out)
                clear hqa hq6 hq8 hqR hqE hgA hgx hgx0 hb hsl2 hf2 hN2 hsl
                gi_wp2_with fail
                refine ⟨trivial, (CallsIn.inRound l2 (callsIn_wide.2 KAT.out)).mono ?_⟩
                rintro e w9 ⟨vb9, rfl, hb9, hE9⟩
                obtain ⟨A9, c9, rfl, _⟩ := id hb9
                have HX9 := ext_new w9 (.cells #[.int .i64 (ffa : Int), .int .i64 (fft : Int), .slice A9 ffb.length c9] 45)
                have HE10 := Lib.hid (hE9.trans HX9)
                have HB10 := Lib.hid (Blk.new w9 45 #[.int .i64 (ffa : Int), .int .i64 (fft : Int), .slice A9 ffb.length c9])
                have KS := Same_any _ (ffa : Int) (fft : Int) (ffa : Int) (fft : Int) _ _ ffb ffb (HBb.out.ext HE10.out) (hb9.ext HX9)
                rw [show sameZ (ffa : Int) (fft : Int) ffb (ffa : Int) (fft : Int) ffb = true from sameZ_self ⟨ffa, fft, ffb⟩] at KS
                have KS := Lib.hid KS
                obtain ⟨x0, x1, x2⟩ := cell3 (HGX.out.ext HE10.out)
                obtain ⟨y0, y1, y2⟩ := cell3 HB10.out
                have ca := cell1 (HQA.out.ext HE10.out)
                have hss : ((s : Int) != (s : Int)) = false := by simp
                clear hb9 hE9 HX9 c8 KAT HBb HGX HB10
                gi_wp2_with fail
                refine ⟨trivial, (CallsIn.inRound l2 (callsIn_wide.2 KS.out)).mono ?_⟩
                rintro e w11 ⟨rfl, hE11⟩
                have HE11 := Lib.hid (HE10.out.trans hE11)
                have HBA11 := Lib.hid (HQA.out.ext HE11.out)
                have ca2 := cell1 HBA11.out
                have fa2 := HBA11.out.frozen 0
                clear hE11 KS x0 x1 x2 y0 y1 y2 ca HE10
                gi_wp2_with fail
                have hg12 := grown_set w11 ⟨ba, 0, none⟩ (.int .i64 ((s : Int) + 1))
                have k1 := (KK.refl wi.heap.size (alG w6 ga gl v) (wi.heap.size + 2) 1 5 Wb).stepO (ext_grown HE11.out none) (fun r e => by cases e)
                have k2 := k1.step hg12 HBA11.out HNGa.out (.inl (by show ba < wi.heap.size + 2; omega)) (by decide)
                have hC12 : Chg (fun k => k = ba) w11 (w11.setCell ⟨ba, 0, none⟩ (.int .i64 ((s : Int) + 1))) := Chg.of_grown hg12 (fun k e => by cases e; rfl)
                have hne6 : ¬ w.heap.size = ba := HB6N.out.1
                exact ⟨k2.1, ⟨k2.2.1.1, fun k _ hk1 hor => k2.2.1.2 k hk1 hor⟩, HS2.out, HBA11.out.set 0 _, hC12.blk (HQ6.out.ext HE11.out) hne6, hC12.blk (HQ8.out.ext HE11.out) (fun e => by
                  have h1 := HQ8.out.ext HE11.out
                  rw [e] at h1
                  exact absurd (h1.type HBA11.out).1 (by decide)), (HQR.out.ext HE11.out).chg hC12 (fun k e ht => by
                  have h1 := (HQR.out.ext HE11.out).typ (t := 3) (by decide) (by decide) k #[.int .i64 (s : Int)] ht
                  rw [e] at h1
                  exact h1 HBA11.out) (fun k cur e hb' => by rw [e] at hb'; exact absurd (hb'.type HBA11.out).1 (by decide)), (HQE.out.trans HE11.out).setCell (by show _ ≤ ba; have := HB6N.out.2; omega) _⟩
              case done =>
                rintro D s A hD rfl ⟨hsl, hqa, hq6, hq8, hqR, hqE⟩ hK
                have ca := cell1 hqa
                have c8 := cell1 hq8
                have c6 := cell1 hq6
                have HQ6 := Lib.hid hq6
                have HQE := Lib.hid hqE
                have HK5 := Lib.hid hK
                have KFR := Lib.hid (fun W (hW : Ext A W) => Flights_ref (hqR.ext hW))
                rw [HFE.out] at KFR
                have hne1 : ¬ ba = w.heap.size := fun e => HB6N.out.1 e.symm
                have hne2 : ¬ b8 = w.heap.size := fun e => by
                  have h1 := hq8
                  rw [e] at h1
                  exact absurd (h1.type hq6).1 (by decide)
                have HDLT : Hid (D < A.heap.size) := Lib.hid (Array.getElem?_eq_some_iff.1 hK).1
                have HDN : Hid (w.heap.size < D) := Lib.hid (by have := HB6N.out.2; omega)
                have f6 := hq6.frozen 0
                obtain ⟨lf, hlf⟩ : ∃ lf, F.length = lf := ⟨_, rfl⟩
                have HLF := Lib.hid hlf
                rw [hlf] at ca
                have hll : ((lf : Int) == (lf : Int)) = true := by simp
                clear hlf
                clear hqa hq6 hq8 hqR hqE hK hsl
                go_upto_region 39 with fail
                have HX : Ext A A.drew := (Ext.refl A).drew
                refine wp_eager (chg_pre (fun t => t = w.heap.size)) (n := 9) (by kernel_rfl) (by kernel_rfl) ?_
                (refine Eg.read (chg_pre (fun t => t = w.heap.size)) (by intro c a d v w h; cases d <;> exact h) (by kernel_rfl) (i := 0) (n := 8) (l := []) rfl (by kernel_rfl) (by kernel_rfl) rfl ⟨_, fun w' hR => load_run rfl (load_int (hR.cell (w := A.drew) ca hne1)), ?_⟩); (simp only [Act.put, List.setIfInBounds_toArray, List.getElem_toArray, List.getElem_cons_succ, List.getElem_cons_zero, List.set_cons_succ, List.set_cons_zero])
                (refine Eg.read (chg_pre (fun t => t = w.heap.size)) (by intro c a d v w h; cases d <;> exact h) (by kernel_rfl) (i := 1) (n := 7) (l := [0]) rfl (by kernel_rfl) (by kernel_rfl) rfl ⟨_, fun w' hR => load_run rfl (load_ref (hR.cell (w := A.drew) c8 hne2)), ?_⟩); (simp only [Act.put, List.setIfInBounds_toArray, List.getElem_toArray, List.getElem_cons_succ, List.getElem_cons_zero, List.set_cons_succ, List.set_cons_zero])
                refine Eg.act (chg_pre (fun t => t = w.heap.size)) (i := 2) (n := 6) (l := [0, 1]) rfl (by kernel_rfl) ?_
                go_wp2_with fail
                refine (KFR.out _ HX).mono ?_
                rintro e wj ⟨vw, rfl, hFj, hEj⟩
                obtain ⟨Aj, cj, rfl, _⟩ := hFj.x hEj
                rw [HLF.out]
                go_wp2_with fail
                refine ⟨Chg.of_ext hEj, ?_⟩
                replace HX := HX.trans hEj
                clear hFj hEj
                refine Eg.batchK (chg_pre (fun t => t = w.heap.size)) (by intro c a d v w h; cases d <;> exact h) (by kernel_rfl) (n := 3) [3, 4, 5] [0, 1, 2] _ (by kernel_rfl) (fun K hK => ?_); (simp only [pickOps, List.getElem?_toArray, List.getElem?_cons_zero, List.getElem?_cons_succ, Option.toList_some, List.cons_append, List.nil_append]); (repeat (first | go_big_quiet_step (fail) | quiet_step (fail))); refine wpQuiet_nil (hK _ ?_); clear hK K
                refine Eg.act (chg_pre (fun t => t = w.heap.size)) (i := 6) (n := 2) (l := [0, 1, 2, 3, 4, 5]) rfl (by kernel_rfl) ?_
                go_wp2_with fail
                refine (known_net _).mono ?_
                rintro e wk ⟨rfl, hEk⟩
                go_wp2_with fail
                refine ⟨Chg.of_ext hEk, ?_⟩
                replace HX := HX.trans hEk
                have HB7 := Lib.hid (HQ6.out.ext HX)
                have c7 := cell1 HB7.out
                have f7 := HB7.out.frozen 0
                clear hEk
                refine Eg.batchK (chg_pre (fun t => t = w.heap.size)) (by intro c a d v w h; cases d <;> exact h) (by kernel_rfl) (n := 1) [7] [0, 1, 2, 3, 4, 5, 6] _ (by kernel_rfl) (fun K hK => ?_); (simp only [pickOps, List.getElem?_toArray, List.getElem?_cons_zero, List.getElem?_cons_succ, Option.toList_some, List.cons_append, List.nil_append]); (repeat (first | go_big_quiet_step (fail) | quiet_step (fail))); refine wpQuiet_nil (hK _ ?_); clear hK K
                refine Eg.act (chg_pre (fun t => t = w.heap.size)) (i := 8) (n := 0) (l := [0, 1, 2, 3, 4, 5, 6, 7]) rfl (by kernel_rfl) ?_
                go_wp2_with fail
                refine ⟨Chg.of_grown (grown_set _ _ _) (fun k e => by cases e; rfl), ?_⟩
                refine Eg.finish (by kernel_rfl) ?_
                have HX9 := Lib.hid HX
                clear HX ca c8 c6 f6 c7 f7 hne1 hne2
                go_wp2_with fail
                have hKs : (wk.setCell ⟨w.heap.size, 0, none⟩ (.bool true)).heap[D]? = some (.deferred (some [])) := set_far (by show D ≠ w.heap.size; have := HDN.out; omega) ((HX9.out.block HDLT.out).trans HK5.out)
                exact postM_mark hKs (results_cell1 Try.results8 _ _ ⟨w.heap.size, 0, none⟩ (.bool true) rfl (load_yes (cell1 ((HB7.out.set 0 (.bool true)).mark hKs)))) ⟨rfl, ((HQE.out.trans HX9.out).setCell (p := ⟨w.heap.size, 0, none⟩) (Nat.le_refl _) _).mark (by have := HDN.out; omega)⟩
              case stop =>
                rintro D c s A hD _ h hK
                exact h.elim
  · have hcs : (decide ((30 : Int) < (n : Int)) = true) ∨ (decide ((30 : Int) < (n : Int)) = false ∧ decide ((30 : Int) < (m : Int)) = true) := by
      simp only [decide_eq_true_eq, decide_eq_false_iff_not]
      omega
    clear h30
    rcases hcs with d1 | ⟨d1, d2⟩
    all_goals
      go_wp2_with fail
      refine (known_net w2).mono ?_
      rintro e w3 ⟨rfl, hE3⟩
      have HE3 := Lib.hid (HE2.out.trans hE3)
      have HB4 := Lib.hid (HB3.out.ext hE3)
      have c6 := cell1 HB4.out
      have f6 := HB4.out.frozen 0
      clear hE3
      go_wp2_with fail
      obtain ⟨q1, q2⟩ := HRET.out _ HB4.out HE3.out
      exact postM_ret (results_cell1 Try.results8 _ _ ⟨w.heap.size, 0, none⟩ (.bool true) rfl (load_yes (cell1 q2))) ⟨rfl, q1⟩

end Go.Proofs.Ytahooohokdbnpaa
