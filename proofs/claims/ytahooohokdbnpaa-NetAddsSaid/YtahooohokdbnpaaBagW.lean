
/-
  Contract of law04.bag.
-/
import Derived.Test.YtahooohokdbnpaaBagN
set_option linter.unusedVariables false
set_option linter.unusedSimpArgs false
namespace Go.Proofs.Ytahooohokdbnpaa
open Go.RowKit Go.Shelf Go.Maps Pl

attribute [local go_sem] Oper.semAt_some

set_option maxHeartbeats 4000000 in
set_option maxRecDepth 100000 in
theorem bag_any (w : World) (A B : Option Addr) (fs gs : List Fl) (n m c d : Nat) (hn : n = fs.length) (hm : m = gs.length) (ha : FlY w w A fs) (hb : FlY w w B gs) (hp : fs.Perm gs) (hl : n ≤ 100000) :
    Calls Try.prog 28 #[.slice A n c, .slice B m d] w fun e w' => e = .returned (.bool true) ∧ Ext w w' := by
  have HN := Lib.hid hn
  have HA := Lib.hid ha
  have HB := Lib.hid hb
  have HP := Lib.hid hp
  obtain rfl : m = n := by rw [hm, hn, hp.length_eq]
  have HM := Lib.hid hm
  have hne : ((m : Int) != (m : Int)) = false := by simp
  have HDR : Hid (∀ k, k < m → fs.drop k = fs.getD k fl0 :: fs.drop (k + 1)) := Lib.hid (fun k hk => by
    rw [List.drop_eq_getElem_cons (by omega), List.getD_eq_getElem?_getD, List.getElem?_eq_getElem (by omega), Option.getD_some])
  clear hn ha hb hp hm
  go_enter Try.func28, Try.ntmps28
  go_wp2_with (at_builtin; refine wpList_appendF rfl _ _ rfl rfl (World.ownsRow_nil _ _ _ _) B m d rfl gs HB.out HM.out (by omega) (Nat.le_refl _) ?_; intro v4 w4 news hown hcy hG hat; have HOW := Lib.hid hown; have HCY := Lib.hid hcy; have HG := Lib.hid hG; clear hown hcy hG hat)
  have HE4 : Hid (Ext w w4) := Lib.hid ((Ext.refl w).grown HG.out (fun k e => by cases e))
  have hr4 : RSt w w4 v4 gs := RSt.of_row (cs := [] ++ news) (by rw [← HM.out, ← Nat.zero_add m]; exact HOW.out) (by rw [List.nil_append]; exact HCY.out)
  have HR4 := Lib.hid hr4
  clear HOW HCY HG hr4 hne
  go_loopw [5, 6] (fun v i wr => ∃ (k : Nat) (R : List Fl), k ≤ m ∧ i = .int .i64 (k : Int) ∧ RSt w wr v R ∧ R.Perm (fs.drop k) ∧ Ext w wr) (fun _ i _ => m - (intOf i).toNat)
  case atStart => exact ⟨0, gs, Nat.zero_le _, rfl, HR4.out, by rw [List.drop_zero]; exact HP.out.symm, HE4.out⟩
  case round =>
    obtain ⟨k, R, hk, rfl, hR, hpm, hE⟩ := hrel
    obtain ⟨wo, rfl⟩ : ∃ wo, wo = wr := ⟨_, rfl⟩
    have HE := Lib.hid hE
    have HPM := Lib.hid hpm
    clear HR4 HE4
    by_cases hkm : k < m
    · have hd : decide ((k : Int) < (m : Int)) = true := decide_eq_true (by omega)
      have hrl : R.length = m - k := by rw [hpm.length_eq, List.length_drop, ← HN.out]
      obtain ⟨A', c', rfl, hrc, hR⟩ := hR
      rcases hR with h0 | ⟨g, cur, rfl, hug, hblk, hcells⟩
      · rw [h0] at hrl; simp at hrl; omega
      have HDK := Lib.hid (HDR.out k hkm)
      have hmem : fs.getD k fl0 ∈ R := hpm.mem_iff.2 (by rw [HDK.out]; exact List.mem_cons_self)
      have HEX : Hid (∃ s, s < R.length ∧ R.getD s fl0 = fs.getD k fl0) := Lib.hid (by
        obtain ⟨s, hs, he⟩ := List.getElem_of_mem hmem
        exact ⟨s, hs, by rw [List.getD_eq_getElem?_getD, List.getElem?_eq_getElem hs, he]; rfl⟩)
      have HBL := Lib.hid hblk
      have HCE := Lib.hid hcells
      have HUG := Lib.hid hug
      obtain ⟨ak, hak⟩ : ∃ ak, fs.getD k fl0 = ak := ⟨_, rfl⟩
      have HAK := Lib.hid hak
      rw [hak] at HDK HEX
      obtain ⟨rl, hrle⟩ : ∃ rl, R.length = rl := ⟨_, rfl⟩
      have HRL := Lib.hid hrle
      rw [hrle] at hrl hrc
      have hr0 : 1 ≤ rl := by omega
      have hr1 : rl ≤ 100000 := by omega
      have HRK := Lib.hid hrl
      clear hrl
      rw [hrle]
      clear hE hpm hblk hcells hug hmem hak hrle
      go_wp2_with fail
      go_loopw [7] (fun p wx => ∃ t : Nat, t < rl ∧ p = .int .i64 (t : Int) ∧ (∀ s, s < t → R.getD s fl0 ≠ ak) ∧ Ext wo wx) (fun p _ => rl - (intOf p).toNat)
      case atStart => exact ⟨0, by omega, rfl, fun s hs => by omega, Ext.refl wo⟩
      case round =>
        obtain ⟨t, ht, rfl, hno, hX⟩ := hrel
        have HX := Lib.hid hX
        have HNO := Lib.hid hno
        have hdt : decide ((t : Int) < (rl : Int)) = true := decide_eq_true (by omega)
        obtain ⟨g2, o2, A2, b2, rfl, y0, y1, y2, hy2⟩ := HA.out.at_ (i := k) (by have := HN.out; omega)
        rw [HAK.out] at y0 y1 y2 hy2
        obtain ⟨A3, b3, z0, z1, z2, hy3⟩ := HCE.out t (by rw [HRL.out]; exact ht)
        have x0 := (HE.out.trans hX).cell y0
        have x1 := (HE.out.trans hX).cell y1
        have x2 := (HE.out.trans hX).cell y2
        have e0 := hX.cell z0
        have e1 := hX.cell z1
        have e2 := hX.cell z2
        have KS := fun W (hW : Ext wr W) => Same_by W ((R.getD t fl0).from_ : Int) ((R.getD t fl0).to_ : Int) (ak.from_ : Int) (ak.to_ : Int) A3 A2 b3 b2 (R.getD t fl0).b ak.b (hy3.ext ((HE.out.trans hX).trans hW)) (hy2.ext ((HE.out.trans hX).trans hW))
        obtain ⟨rt, hrt⟩ : ∃ rt, R.getD t fl0 = rt := ⟨_, rfl⟩
        have HRT := Lib.hid hrt
        rw [hrt] at e0 e1 e2 KS
        have HZ := Lib.hid (sameZ_eq rt ak)
        clear y0 y1 y2 z0 z1 z2 hy2 hy3 hrt hX hno
        by_cases heq : rt = ak
        · have hz : sameZ (rt.from_ : Int) (rt.to_ : Int) rt.b (ak.from_ : Int) (ak.to_ : Int) ak.b = true := HZ.out.2 heq
          rw [hz] at KS
          have KS := Lib.hid KS
          have HEQ := Lib.hid heq
          clear heq hz HZ
          generalize rt.from_ = fa at *
          generalize rt.to_ = ft at *
          generalize rt.b.length = bl at *
          generalize ak.from_ = ga at *
          generalize ak.to_ = gt at *
          generalize ak.b.length = al at *
          go_upto_region 8 with fail
          have HX8 : Ext wr wr.drew := (Ext.refl wr).drew
          refine wp_eager Ext.pre (n := 16) (by kernel_rfl) (by kernel_rfl) ?_
          refine Eg.batchK Ext.pre (by intro c a d v w h; cases d <;> exact h) (by kernel_rfl) (n := 5) [0, 1, 2, 3, 4, 5, 6, 7, 9, 10, 11] [] _ (by kernel_rfl) (fun K hK => ?_); (simp only [pickOps, List.getElem?_toArray, List.getElem?_cons_zero, List.getElem?_cons_succ, Option.toList_some, List.cons_append, List.nil_append]); (repeat (first | go_big_quiet_step (fail) | quiet_step (fail))); refine wpQuiet_nil (hK _ ?_); clear hK K
          (refine Eg.read Ext.pre (by intro c a d v w h; cases d <;> exact h) (by kernel_rfl) (i := 8) (n := 4) (l := [0, 1, 2, 3, 4, 5, 6, 7, 9, 10, 11]) rfl (by kernel_rfl) (by kernel_rfl) rfl ⟨_, fun w' hR => load_run rfl (load_fl (hR.cell (a := wr.drew) e0) (hR.cell (a := wr.drew) e1) (hR.cell (a := wr.drew) e2)), ?_⟩); (simp only [Act.put, List.setIfInBounds_toArray, List.getElem_toArray, List.getElem_cons_succ, List.getElem_cons_zero, List.set_cons_succ, List.set_cons_zero])
          (refine Eg.read Ext.pre (by intro c a d v w h; cases d <;> exact h) (by kernel_rfl) (i := 12) (n := 3) (l := [0, 1, 2, 3, 4, 5, 6, 7, 9, 10, 11, 8]) rfl (by kernel_rfl) (by kernel_rfl) rfl ⟨_, fun w' hR => load_run rfl (load_fl (hR.cell (a := wr.drew) x0) (hR.cell (a := wr.drew) x1) (hR.cell (a := wr.drew) x2)), ?_⟩); (simp only [Act.put, List.setIfInBounds_toArray, List.getElem_toArray, List.getElem_cons_succ, List.getElem_cons_zero, List.set_cons_succ, List.set_cons_zero])
          refine Eg.act Ext.pre (i := 13) (n := 2) (l := [0, 1, 2, 3, 4, 5, 6, 7, 9, 10, 11, 8, 12]) rfl (by kernel_rfl) ?_
          go_wp2_with fail
          refine (KS.out _ HX8).mono ?_
          rintro e w9 ⟨rfl, hE9⟩
          go_wp2_with fail
          refine ⟨hE9, ?_⟩
          replace HX8 := HX8.trans hE9
          clear hE9
          refine Eg.batchK Ext.pre (by intro c a d v w h; cases d <;> exact h) (by kernel_rfl) (n := 0) [14, 15] [0, 1, 2, 3, 4, 5, 6, 7, 9, 10, 11, 8, 12, 13] _ (by kernel_rfl) (fun K hK => ?_); (simp only [pickOps, List.getElem?_toArray, List.getElem?_cons_zero, List.getElem?_cons_succ, Option.toList_some, List.cons_append, List.nil_append]); (repeat (first | go_big_quiet_step (fail) | quiet_step (fail))); refine wpQuiet_nil (hK _ ?_); clear hK K
          refine Eg.finish (by kernel_rfl) ?_
          have HX9 := Lib.hid (HX.out.trans HX8)
          have hb1 : ((t : Int) == (rl : Int)) = false := by rw [beq_eq_false_iff_ne]; omega
          obtain ⟨r1, rfl⟩ : ∃ r1, rl = r1 + 1 := ⟨rl - 1, by omega⟩
          have hlast : R.length - 1 = r1 := by rw [HRL.out]; omega
          obtain ⟨A4, b4, z0, z1, z2, hy4⟩ := HCE.out r1 (by rw [HRL.out]; omega)
          have q0 := HX9.out.cell z0
          have q1 := HX9.out.cell z1
          have q2 := HX9.out.cell z2
          have hsw := swap_cells (HBL.out.ext HX9.out) (fun i hi => (HCE.out i hi).ext HX9.out) (t := t) (by rw [HRL.out]; exact ht) (Ab := A4) (cb := b4) (by rw [hlast]; exact hy4)
          rw [hlast] at hsw
          have HTH : Hid (w9.there g (t * 3) 3) := Lib.hid (fun j hj => by
            obtain ⟨A0, c0, k0, k1, k2, _⟩ := (HCE.out t (by rw [HRL.out]; exact ht)).ext HX9.out
            refine ⟨?_, (HBL.out.ext HX9.out).frozen _⟩
            match j, hj with
            | 0, _ => rw [Nat.add_zero, k0]; rfl
            | 1, _ => rw [k1]; rfl
            | 2, _ => rw [k2]; rfl)
          have HSP : Hid ((swapN R t).Perm (fs.drop (k + 1))) := Lib.hid (by
            have h1 := swapN_perm R (t := t) (by rw [HRL.out]; exact ht)
            rw [HRT.out, HEQ.out] at h1
            have h2 := HPM.out
            rw [HDK.out] at h2
            exact List.Perm.cons_inv (h1.symm.trans h2))
          have HSL : Hid ((swapN R t).length = r1) := Lib.hid (by rw [swapN_len, hlast])
          have hr1c : r1 ≤ c' := by omega
          obtain ⟨lr, hlr⟩ : ∃ lr, R.getD r1 fl0 = lr := ⟨_, rfl⟩
          rw [hlr] at q0 q1 q2 hsw
          obtain ⟨la, lt, lb⟩ := lr
          simp only at q0 q1 q2 hsw
          generalize lb.length = lbl at *
          have HSW := Lib.hid hsw
          clear HX8 e0 e1 e2 x0 x1 x2 z0 z1 z2 hy4 hsw hlr hlast
          go_wp2_with (refine wpList_store_mid rfl 45 _ _ rfl _ _ #[.int .i64 (la : Int), .int .i64 (lt : Int), .slice A4 lbl b4] rfl rfl HTH.out (Try.flSize _ _ _) (fl_one _ _ _ _ _) ?_)
          have HSW2 := HSW.out
          obtain ⟨cur', hb', hc'⟩ := HSW2
          refine ⟨⟨k + 1, swapN R t, by omega, by go_num, ⟨some ⟨g, 0, none⟩, c', by rw [HSL.out], by rw [HSL.out]; exact hr1c, .inr ⟨g, cur', rfl, HUG.out, hb', hc'⟩⟩, HSP.out, Ext.setCells (HE.out.trans HX9.out) HUG.out _⟩, by simp [intOf]; omega⟩
        · have hz : sameZ (rt.from_ : Int) (rt.to_ : Int) rt.b (ak.from_ : Int) (ak.to_ : Int) ak.b = false := by rw [← Bool.not_eq_true]; exact fun h => heq (HZ.out.1 h)
          rw [hz] at KS
          have KS := Lib.hid KS
          have HNO' : Hid (∀ s, s < t + 1 → R.getD s fl0 ≠ ak) := Lib.hid (fun s hs => by
            by_cases e : s = t
            · subst e; rw [HRT.out]; exact heq
            · exact HNO.out s (by omega))
          have HT' : Hid (t + 1 < rl) := Lib.hid (by
            obtain ⟨s, hs, he⟩ := HEX.out
            rw [HRL.out] at hs
            rcases Nat.lt_or_ge s (t + 1) with h | h
            · exact absurd he (HNO'.out s h)
            · omega)
          have ht' := HT'.out
          clear heq hz HZ
          generalize rt.from_ = fa at *
          generalize rt.to_ = ft at *
          generalize rt.b.length = bl at *
          generalize ak.from_ = ga at *
          generalize ak.to_ = gt at *
          generalize ak.b.length = al at *
          go_upto_region 8 with fail
          have HX8 : Ext wr wr.drew := (Ext.refl wr).drew
          refine wp_eager Ext.pre (n := 16) (by kernel_rfl) (by kernel_rfl) ?_
          refine Eg.batchK Ext.pre (by intro c a d v w h; cases d <;> exact h) (by kernel_rfl) (n := 5) [0, 1, 2, 3, 4, 5, 6, 7, 9, 10, 11] [] _ (by kernel_rfl) (fun K hK => ?_); (simp only [pickOps, List.getElem?_toArray, List.getElem?_cons_zero, List.getElem?_cons_succ, Option.toList_some, List.cons_append, List.nil_append]); (repeat (first | go_big_quiet_step (fail) | quiet_step (fail))); refine wpQuiet_nil (hK _ ?_); clear hK K
          (refine Eg.read Ext.pre (by intro c a d v w h; cases d <;> exact h) (by kernel_rfl) (i := 8) (n := 4) (l := [0, 1, 2, 3, 4, 5, 6, 7, 9, 10, 11]) rfl (by kernel_rfl) (by kernel_rfl) rfl ⟨_, fun w' hR => load_run rfl (load_fl (hR.cell (a := wr.drew) e0) (hR.cell (a := wr.drew) e1) (hR.cell (a := wr.drew) e2)), ?_⟩); (simp only [Act.put, List.setIfInBounds_toArray, List.getElem_toArray, List.getElem_cons_succ, List.getElem_cons_zero, List.set_cons_succ, List.set_cons_zero])
          (refine Eg.read Ext.pre (by intro c a d v w h; cases d <;> exact h) (by kernel_rfl) (i := 12) (n := 3) (l := [0, 1, 2, 3, 4, 5, 6, 7, 9, 10, 11, 8]) rfl (by kernel_rfl) (by kernel_rfl) rfl ⟨_, fun w' hR => load_run rfl (load_fl (hR.cell (a := wr.drew) x0) (hR.cell (a := wr.drew) x1) (hR.cell (a := wr.drew) x2)), ?_⟩); (simp only [Act.put, List.setIfInBounds_toArray, List.getElem_toArray, List.getElem_cons_succ, List.getElem_cons_zero, List.set_cons_succ, List.set_cons_zero])
          refine Eg.act Ext.pre (i := 13) (n := 2) (l := [0, 1, 2, 3, 4, 5, 6, 7, 9, 10, 11, 8, 12]) rfl (by kernel_rfl) ?_
          go_wp2_with fail
          refine (KS.out _ HX8).mono ?_
          rintro e w9 ⟨rfl, hE9⟩
          go_wp2_with fail
          refine ⟨hE9, ?_⟩
          replace HX8 := HX8.trans hE9
          clear hE9
          refine Eg.batchK Ext.pre (by intro c a d v w h; cases d <;> exact h) (by kernel_rfl) (n := 0) [14, 15] [0, 1, 2, 3, 4, 5, 6, 7, 9, 10, 11, 8, 12, 13] _ (by kernel_rfl) (fun K hK => ?_); (simp only [pickOps, List.getElem?_toArray, List.getElem?_cons_zero, List.getElem?_cons_succ, Option.toList_some, List.cons_append, List.nil_append]); (repeat (first | go_big_quiet_step (fail) | quiet_step (fail))); refine wpQuiet_nil (hK _ ?_); clear hK K
          refine Eg.finish (by kernel_rfl) ?_
          have HX9 := Lib.hid (HX.out.trans HX8)
          clear HX8 e0 e1 e2 x0 x1 x2
          go_wp2_with fail
          exact ⟨⟨t + 1, HT'.out, by go_num, HNO'.out, HX9.out⟩, by simp [intOf]; omega⟩
    · obtain rfl : k = m := by omega
      have hd : decide ((k : Int) < (k : Int)) = false := decide_eq_false (by omega)
      clear hR hpm
      go_wp2_with fail
      go_ret
      exact ⟨rfl, HE.out⟩

end Go.Proofs.Ytahooohokdbnpaa
