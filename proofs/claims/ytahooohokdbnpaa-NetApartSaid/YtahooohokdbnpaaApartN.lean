
/-
  The law NetApart, walked.
-/
import Derived.Test.YtahooohokdbnpaaFlK
import Derived.Test.YtahooohokdbnpaaOnlyN
set_option linter.unusedVariables false
set_option linter.unusedSimpArgs false
namespace Go.Proofs.Ytahooohokdbnpaa
open Go.RowKit Go.Shelf Go.Maps Pl

attribute [local go_sem] Oper.semAt_some

/-- what a row of a line's flights is, lengths named -/
theorem only_len {w : World} {A : Option Addr} {fs gs : List Fl} {n m c : Nat} {x y : Int} {o : Bool} (hn : n = fs.length) (hF : FlX w A fs) (hl : n ≤ 100000) (hg : onlyN fs x y o = gs) (hm : gs.length = m) :
    Calls Try.prog 23 #[.slice A n c, .int .i64 x, .int .i64 y, .bool o] w fun e w' => ∃ A' c', e = .returned (.slice A' m c') ∧ FlX w' A' gs ∧ Ext w w' := by
  have K := only_any w A fs n c x y o hn hF hl
  rw [hg, hm] at K
  exact K

set_option maxHeartbeats 4000000 in
set_option maxRecDepth 100000 in
theorem apart_any (w : World) (A : Option Addr) (fs : List Ac) (n c : Nat) (hn : n = fs.length) (hF : Acs w A fs) (hl : n ≤ 9223372036854775807) (hok : ∀ i, i < fs.length → I64 (fs.getD i ac0).a ∧ I64 (fs.getD i ac0).b)
    (a : Ac) (Aa : Option Addr) (ca : Nat) (hby : By w Aa a.bytes) (hla : a.bytes.length ≤ 9223372036854775807) (ha : I64 a.a) (hb : I64 a.b) (z : Int) (hz : I64 z) :
    Calls Try.prog 4 #[.slice A n c, .agg (acC a Aa ca), .int .i64 z] w fun e w' => e = .returned (.bool true) ∧ Ext w w' := by
  have HOK := Lib.hid hok
  have HN := Lib.hid hn
  unfold acC
  obtain ⟨kd, za, zb, l⟩ := a
  simp only at *
  have HX1 := Lib.hid (ext_new w (.cells #[.int .i64 kd, .int .i64 za, .int .i64 zb, .slice Aa l.length ca] 38))
  have HB1 := Lib.hid (Blk.new w 38 #[.int .i64 kd, .int .i64 za, .int .i64 zb, .slice Aa l.length ca])
  have HF := Lib.hid (hF.ext HX1.out)
  have HBY := Lib.hid (hby.ext HX1.out)
  have HIA := Lib.hid ha
  have HIB := Lib.hid hb
  have HIZ := Lib.hid hz
  obtain ⟨ll, hll⟩ : ∃ ll, l.length = ll := ⟨_, rfl⟩
  have HLL := Lib.hid hll
  rw [hll] at HX1 HB1 HF HBY hla ⊢
  have KM := Lib.hid (muchN_any _ A fs n c hn HF.out hl)
  clear hF hok hn hby ha hb hz hll
  go_enter Try.func4, Try.ntmps4
  go_wp2_with fail
  refine KM.out.mono ?_
  rintro e w1 ⟨mb, rfl, hmb, hE1⟩
  generalize w.alloc (.cells #[.int .i64 kd, .int .i64 za, .int .i64 zb, .slice Aa ll ca] 38) = w0 at *
  have HB2 := Lib.hid (HB1.out.ext hE1)
  have HE1 := Lib.hid (HX1.out.trans hE1)
  have HBY1 := Lib.hid (HBY.out.ext hE1)
  have HF1 := Lib.hid (HF.out.ext hE1)
  have HMB := Lib.hid hmb
  clear hE1 hmb KM HB1 HX1 HBY HF
  cases mb with
  | true =>
    clear HMB
    go_wp2_with fail
    refine (known_net w1).mono ?_
    rintro e w2 ⟨rfl, hE2⟩
    have HE2 := Lib.hid (HE1.out.trans hE2)
    clear hE2
    go_wp2_with fail
    go_ret
    exact ⟨rfl, HE2.out⟩
  | false =>
  obtain ⟨hl60, hbl⟩ := HMB.out rfl
  rw [← HN.out] at hl60
  have HP := Lib.hid (pair_law w1 A fs n c HN.out HF1.out hl60 (fun i hi => ⟨(HOK.out i hi).1, (HOK.out i hi).2, hbl i hi⟩))
  clear HMB hbl HOK HF1
  obtain ⟨x0, x1, x2, x3⟩ := cell4 HB2.out
  by_cases h3 : 3000 < ll
  · have hd3 : decide ((3000 : Int) < (ll : Int)) = true := decide_eq_true (by omega)
    clear HP
    go_wp2_with fail
    refine (known_net w1).mono ?_
    rintro e w2 ⟨rfl, hE2⟩
    have HE2 := Lib.hid (HE1.out.trans hE2)
    clear hE2
    go_wp2_with fail
    go_ret
    exact ⟨rfl, HE2.out⟩
  · have hd3 : decide ((3000 : Int) < (ll : Int)) = false := decide_eq_false (by omega)
    clear h3
    go_wp2_with fail
    refine HP.out.mono ?_
    rintro e w2 ⟨S, T, g, r, rfl, hP, hS, _, hE2⟩
    have hN2 := hP.1
    have HS := Lib.hid (fun k hk => Nat.le_trans HE1.out.size (hS k hk))
    have HE2 := Lib.hid (HE1.out.trans hE2)
    have HB3 := Lib.hid (HB2.out.ext hE2)
    have HBY2 := Lib.hid (HBY1.out.ext hE2)
    have HNB : Hid (70 * n ≤ 4200) := Lib.hid (by omega)
    have HN2 := Lib.hid (hN2.mono HNB.out)
    generalize actsN fs = N at *
    have hfl := flN_length HN2.out.1
    obtain ⟨F, hF⟩ : ∃ F, flN N = F := ⟨_, rfl⟩
    rw [hF] at hfl
    obtain ⟨len, hlen⟩ : ∃ len, F.length = len := ⟨_, rfl⟩
    rw [hlen] at hfl
    have HFN := Lib.hid hF
    have HLN := Lib.hid hlen
    have KF := Lib.hid (flights_keep HN2.out hF hlen)
    clear hP hN2 hS hE2 HNB HP x0 x1 x2 x3 hF hlen HB2 HBY1
    go_wp2_with fail
    refine KF.out.mono ?_
    rintro e w3 ⟨A1, c1, rfl, hx3, hE3⟩
    have HX3 := Lib.hid hx3
    have HN3 := HN2.out.ext hE3
    have HB4 := Lib.hid (HB3.out.ext hE3)
    have HE3 := Lib.hid (HE2.out.trans hE3)
    have KS := Send_net (c := ca) HN3 HIA.out HIB.out (by omega) (HBY2.out.ext hE3) (by rw [HLL.out]; exact hla)
    rw [HLL.out] at KS
    generalize sendE N za zb ll = se at *
    have KS := Lib.hid KS
    have HN3 := Lib.hid HN3
    obtain ⟨x0, x1, x2, x3⟩ := cell4 HB4.out
    clear hx3 hE3 KF HB3 HE2
    go_wp2_with fail
    refine KS.out.mono ?_
    rintro e w4 ⟨rfl, S4, hN4, hG4, hC4⟩
    have HB5 := Lib.hid (hC4.blk HB4.out (fun h => HN3.out.typ (by decide) (by decide) _ _ h HB4.out))
    have HS4 : Hid (∀ k, S4 k → w.heap.size ≤ k) := Lib.hid (fun k hk => (hG4 k hk).elim (HS.out k) (fun h => Nat.le_trans HE3.out.size h))
    have HE4 := Lib.hid (hC4.ext HE3.out HS.out)
    have HF4 : Hid (FlX w4 A1 F) := Lib.hid (HX3.out S w4 hC4 (fun k hk => .inl (HN2.out.lt k hk)))
    have HAS := Lib.hid (apart_send N za zb l)
    obtain ⟨N1, hN1⟩ : ∃ N1, sendN N za zb l = N1 := ⟨_, rfl⟩
    rw [hN1] at hN4 HAS
    have HN4 := Lib.hid (hN4.mono (nb' := 4300) (by omega))
    have hfl1 := flN_length hN4.1
    obtain ⟨F1, hF1⟩ : ∃ F1, flN N1 = F1 := ⟨_, rfl⟩
    rw [hF1] at hfl1 HAS
    obtain ⟨len1, hlen1⟩ : ∃ len1, F1.length = len1 := ⟨_, rfl⟩
    rw [hlen1] at hfl1
    rw [HFN.out] at HAS
    have HF1N := Lib.hid hF1
    have HL1N := Lib.hid hlen1
    have KF := Lib.hid (flights_keep HN4.out hF1 hlen1)
    clear hN4 hG4 hC4 KS x0 x1 x2 x3 HB4 HN3 hF1 hlen1 hN1 HBY2 HX3 HN2 HFN
    go_wp2_with fail
    refine KF.out.mono ?_
    rintro e w5 ⟨A2, c2, rfl, hx5, hE5⟩
    have HX5 := Lib.hid hx5
    have HN5 := Lib.hid (HN4.out.ext hE5)
    have HB6 := Lib.hid (HB5.out.ext hE5)
    have HE5 := Lib.hid (HE4.out.trans hE5)
    have HF5 := Lib.hid (HF4.out.ext hE5)
    obtain ⟨g1, hg1⟩ : ∃ g1, (onlyN F1 za zb true).length = g1 := ⟨_, rfl⟩
    have HGL := Lib.hid hg1
    have hg1' : g1 ≤ 1000 := by have := onlyN_le F1 za zb true; have := HL1N.out; omega
    have KO1 := Lib.hid (fun W (hW : Ext w5 W) => only_len (x := za) (y := zb) (o := true) (c := c2) HL1N.out.symm (HX5.out.x hW) (by omega) rfl hg1)
    have KO2 := Lib.hid (fun W (hW : Ext w5 W) => only_len (x := za) (y := zb) (o := true) (c := c1) HLN.out.symm (HF5.out.ext hW) (by omega) HAS.out.symm hg1)
    obtain ⟨x0, x1, x2, x3⟩ := cell4 HB6.out
    clear hx5 hE5 KF HB5 HE4 hg1
    go_upto_region 9 with fail
    have HX : Ext w5 w5.drew := (Ext.refl w5).drew
    refine wp_eager Ext.pre (n := 22) (by kernel_rfl) (by kernel_rfl) ?_
    refine Eg.batchK Ext.pre (by intro c a d v w h; cases d <;> exact h) (by kernel_rfl) (n := 9) [0, 1, 2, 3, 4, 5, 6, 7, 8, 10, 13, 14, 16] [] _ (by kernel_rfl) (fun K hK => ?_); (simp only [pickOps, List.getElem?_toArray, List.getElem?_cons_zero, List.getElem?_cons_succ, Option.toList_some, List.cons_append, List.nil_append]); (repeat (first | go_big_quiet_step (fail) | quiet_step (fail))); refine wpQuiet_nil (hK _ ?_); clear hK K
    (refine Eg.read Ext.pre (by intro c a d v w h; cases d <;> exact h) (by kernel_rfl) (i := 9) (n := 8) (l := [0, 1, 2, 3, 4, 5, 6, 7, 8, 10, 13, 14, 16]) rfl (by kernel_rfl) (by kernel_rfl) rfl ⟨_, fun w' hR => load_run rfl (load_int (hR.cell (a := w5.drew) x1)), ?_⟩); (simp only [Act.put, List.setIfInBounds_toArray, List.getElem_toArray, List.getElem_cons_succ, List.getElem_cons_zero, List.set_cons_succ, List.set_cons_zero])
    (refine Eg.read Ext.pre (by intro c a d v w h; cases d <;> exact h) (by kernel_rfl) (i := 11) (n := 7) (l := [0, 1, 2, 3, 4, 5, 6, 7, 8, 10, 13, 14, 16, 9]) rfl (by kernel_rfl) (by kernel_rfl) rfl ⟨_, fun w' hR => load_run rfl (load_int (hR.cell (a := w5.drew) x2)), ?_⟩); (simp only [Act.put, List.setIfInBounds_toArray, List.getElem_toArray, List.getElem_cons_succ, List.getElem_cons_zero, List.set_cons_succ, List.set_cons_zero])
    (refine Eg.read Ext.pre (by intro c a d v w h; cases d <;> exact h) (by kernel_rfl) (i := 15) (n := 6) (l := [0, 1, 2, 3, 4, 5, 6, 7, 8, 10, 13, 14, 16, 9, 11]) rfl (by kernel_rfl) (by kernel_rfl) rfl ⟨_, fun w' hR => load_run rfl (load_int (hR.cell (a := w5.drew) x1)), ?_⟩); (simp only [Act.put, List.setIfInBounds_toArray, List.getElem_toArray, List.getElem_cons_succ, List.getElem_cons_zero, List.set_cons_succ, List.set_cons_zero])
    (refine Eg.read Ext.pre (by intro c a d v w h; cases d <;> exact h) (by kernel_rfl) (i := 17) (n := 5) (l := [0, 1, 2, 3, 4, 5, 6, 7, 8, 10, 13, 14, 16, 9, 11, 15]) rfl (by kernel_rfl) (by kernel_rfl) rfl ⟨_, fun w' hR => load_run rfl (load_int (hR.cell (a := w5.drew) x2)), ?_⟩); (simp only [Act.put, List.setIfInBounds_toArray, List.getElem_toArray, List.getElem_cons_succ, List.getElem_cons_zero, List.set_cons_succ, List.set_cons_zero])
    refine Eg.act Ext.pre (i := 12) (n := 4) (l := [0, 1, 2, 3, 4, 5, 6, 7, 8, 10, 13, 14, 16, 9, 11, 15, 17]) rfl (by kernel_rfl) ?_
    go_wp2_with fail
    refine (KO1.out _ HX).mono ?_
    rintro e w6 ⟨A6, c6, rfl, hx6, hE6⟩
    go_wp2_with fail
    refine ⟨hE6, ?_⟩
    replace HX := HX.trans hE6
    have HX6 := Lib.hid hx6
    clear hx6 hE6
    refine Eg.act Ext.pre (i := 18) (n := 3) (l := [0, 1, 2, 3, 4, 5, 6, 7, 8, 10, 13, 14, 16, 9, 11, 15, 17, 12]) rfl (by kernel_rfl) ?_
    go_wp2_with fail
    refine (KO2.out _ HX).mono ?_
    rintro e w7 ⟨A7, c7, rfl, hx7, hE7⟩
    go_wp2_with fail
    refine ⟨hE7, ?_⟩
    replace HX := HX.trans hE7
    have KSA := Lib.hid (SameAll_same w7 A6 A7 (onlyN F1 za zb true) g1 g1 c6 c7 HGL.out.symm HGL.out.symm (HX6.out.ext hE7) hx7 (by rw [HGL.out]; omega))
    clear hx7 hE7
    refine Eg.act Ext.pre (i := 19) (n := 2) (l := [0, 1, 2, 3, 4, 5, 6, 7, 8, 10, 13, 14, 16, 9, 11, 15, 17, 12, 18]) rfl (by kernel_rfl) ?_
    go_wp2_with fail
    refine KSA.out.mono ?_
    rintro e w8 ⟨rfl, hE8⟩
    go_wp2_with fail
    refine ⟨hE8, ?_⟩
    replace HX := HX.trans hE8
    clear hE8
    refine Eg.batchK Ext.pre (by intro c a d v w h; cases d <;> exact h) (by kernel_rfl) (n := 0) [20, 21] [0, 1, 2, 3, 4, 5, 6, 7, 8, 10, 13, 14, 16, 9, 11, 15, 17, 12, 18, 19] _ (by kernel_rfl) (fun K hK => ?_); (simp only [pickOps, List.getElem?_toArray, List.getElem?_cons_zero, List.getElem?_cons_succ, Option.toList_some, List.cons_append, List.nil_append]); (repeat (first | go_big_quiet_step (fail) | quiet_step (fail))); refine wpQuiet_nil (hK _ ?_); clear hK K
    refine Eg.finish (by kernel_rfl) ?_
    have HE8 := Lib.hid (HE5.out.trans HX)
    have HX58 := Lib.hid HX
    clear HX KO1 KO2 KSA HX6 x0 x1 x2 x3 hg1' HGL HAS HF5 HB6 HF4 HLN HE5
    have hN8 := HN5.out.ext HX58.out
    have KA := At_net hN8 z HIZ.out
    have HAP := Lib.hid (fun h0 => apart_place (z := z) hN8.1 h0)
    have HN8 := Lib.hid hN8
    clear hN8 HN5
    have HEZ : Hid (atE N1 z = 0 ∨ atE N1 z ≠ 0) := Lib.hid (by omega)
    generalize hez : atE N1 z = ez at *
    generalize hff : atF N1 z = f at *
    clear hez hff
    obtain ⟨fa, ft, fb⟩ := f
    simp only at *
    have KA := Lib.hid KA
    go_wp2_with fail
    refine KA.out.mono ?_
    rintro e w9 ⟨vb, rfl, hbs, hE9⟩
    obtain ⟨Ab, cb, rfl, _⟩ := id hbs
    have HXA := Lib.hid (ext_new w9 (.cells #[.int .i64 (fa : Int), .int .i64 (ft : Int), .slice Ab fb.length cb] 45))
    have HBA := Lib.hid (Blk.new w9 45 #[.int .i64 (fa : Int), .int .i64 (ft : Int), .slice Ab fb.length cb])
    have HNA := Lib.hid (HN8.out.ext (hE9.trans HXA.out))
    have HEA := Lib.hid (HE8.out.trans (hE9.trans HXA.out))
    have HX5A := Lib.hid (HX58.out.trans (hE9.trans HXA.out))
    clear hbs hE9 HXA KA HN8 HX58
    rcases HEZ.out with h0 | h0
    · subst h0
      have hap := HAP.out rfl
      clear HAP HEZ
      rw [HF1N.out] at hap
      go_upto_region 12 with fail
      generalize w9.alloc (.cells #[.int .i64 (fa : Int), .int .i64 (ft : Int), .slice Ab fb.length cb] 45) = wA at *
      generalize w9.heap.size = bf at *
      go_wp2_with fail
      refine (num4_any _ _).mono ?_
      rintro e w' ⟨rfl, rfl⟩
      have KD := Lib.hid (Double_net HNA.out z HIZ.out (by omega))
      generalize doubleE N1 z = de at *
      go_wp2_with fail
      refine KD.out.mono ?_
      rintro e wB ⟨rfl, SB, hNB, hGB, hCB⟩
      have HNB := Lib.hid hNB
      have HGB := Lib.hid hGB
      have HCB := Lib.hid hCB
      have KT := Lib.hid (Take_net hNB z HIZ.out (by omega))
      clear hNB hGB hCB KD
      go_wp2_with fail
      refine KT.out.mono ?_
      rintro e wC ⟨vc, rfl, _, SC, hNC, hGC, hCC⟩
      have HNC := Lib.hid (hNC.mono (nb' := 4400) (by omega))
      have HCQ : Hid (Chg (fun k => k < w4.heap.size ∨ w5.heap.size ≤ k) w5 wC) := Lib.hid (((Chg.of_ext HX5A.out).trans (HCB.out.mono (T := fun k => k < w4.heap.size ∨ w5.heap.size ≤ k) (fun k hk => .inl (HN4.out.lt k hk))) (fun k h => .inl h)).trans (hCC.mono (T := fun k => k < w4.heap.size ∨ w5.heap.size ≤ k) (fun k hk => (HGB.out k hk).elim (fun h => .inl (HN4.out.lt k h)) (fun h => .inr (Nat.le_trans HX5A.out.size h)))) (fun k h => .inl h))
      have HSB : Hid (∀ k, SB k → w.heap.size ≤ k) := Lib.hid (fun k hk => (HGB.out k hk).elim (HS4.out k) (fun h => Nat.le_trans HEA.out.size h))
      have HEC := Lib.hid (hCC.ext (HCB.out.ext HEA.out HS4.out) HSB.out)
      have hbB := HCB.out.blk HBA.out (fun h => HNA.out.typ (by decide) (by decide) _ _ h HBA.out)
      have HBC := Lib.hid (hCC.blk hbB (fun h => HNB.out.typ (by decide) (by decide) _ _ h hbB))
      have HFC : Hid (FlX wC A2 F1) := Lib.hid (HX5.out _ wC HCQ.out (fun k h => h))
      clear hbB hNC hGC hCC KT HNB HGB HCB HSB HBA HCQ HX5 HX5A HNA
      generalize takeN (doubleN N1 z) z = N3 at *
      have hfl3 := flN_length HNC.out.1
      obtain ⟨F3, hF3⟩ : ∃ F3, flN N3 = F3 := ⟨_, rfl⟩
      rw [hF3] at hfl3 hap
      obtain ⟨len3, hlen3⟩ : ∃ len3, F3.length = len3 := ⟨_, rfl⟩
      rw [hlen3] at hfl3
      have HL3N := Lib.hid hlen3
      have KF := Lib.hid (flights_keep HNC.out hF3 hlen3)
      obtain ⟨hap1, hap2, hap3⟩ := hap
      have HAP1 := Lib.hid hap1
      obtain ⟨lb, hlb⟩ : ∃ lb, (onlyN F1 (fa : Int) (ft : Int) false).length = lb := ⟨_, rfl⟩
      obtain ⟨lm, hlm⟩ : ∃ lm, (onlyN F3 (fa : Int) (ft : Int) false).length = lm := ⟨_, rfl⟩
      obtain ⟨g2, hg2⟩ : ∃ g2, (onlyN F1 (fa : Int) (ft : Int) true).length = g2 := ⟨_, rfl⟩
      have hg2' : g2 ≤ 1000 := by have := onlyN_le F1 (fa : Int) (ft : Int) true; have := HL1N.out; omega
      rw [hlb] at hap2
      rw [hlb, hlm] at hap3
      have HLB := Lib.hid hlb
      have HLM := Lib.hid hlm
      have HG2 := Lib.hid hg2
      have HAP3 := Lib.hid hap3
      clear hF3 hlen3 hap1 hlb hlm hg2 hap3
      go_wp2_with fail
      refine KF.out.mono ?_
      rintro e wD ⟨A3, c3, rfl, hx3, hE3⟩
      have HXD := Lib.hid (hx3.x (Ext.refl wD))
      have HFD := Lib.hid (HFC.out.ext hE3)
      have HBD := HBC.out.ext hE3
      have HED := Lib.hid (HEC.out.trans hE3)
      obtain ⟨x0, x1, x2⟩ := cell3 HBD
      have KO3 := Lib.hid (fun W (hW : Ext wD W) => only_len (x := (fa : Int)) (y := (ft : Int)) (o := false) (c := c3) HL3N.out.symm (HXD.out.ext hW) (by omega) rfl HLM.out)
      have KO4 := Lib.hid (fun W (hW : Ext wD W) => only_len (x := (fa : Int)) (y := (ft : Int)) (o := false) (c := c2) HL1N.out.symm (HFD.out.ext hW) (by omega) rfl HLB.out)
      have KO5 := Lib.hid (fun W (hW : Ext wD W) => only_len (x := (fa : Int)) (y := (ft : Int)) (o := true) (c := c3) HL3N.out.symm (HXD.out.ext hW) (by omega) HAP1.out HG2.out)
      have KO6 := Lib.hid (fun W (hW : Ext wD W) => only_len (x := (fa : Int)) (y := (ft : Int)) (o := true) (c := c2) HL1N.out.symm (HFD.out.ext hW) (by omega) rfl HG2.out)
      clear hx3 hE3 HBD KF HEC HBC HFC
      go_upto_region 17 with fail
      have HX : Ext wD wD.drew := (Ext.refl wD).drew
      refine wp_eager Ext.pre (n := 14) (by kernel_rfl) (by kernel_rfl) ?_
      refine Eg.batchK Ext.pre (by intro c a d v w h; cases d <;> exact h) (by kernel_rfl) (n := 8) [0, 1, 3, 6, 7, 9] [] _ (by kernel_rfl) (fun K hK => ?_); (simp only [pickOps, List.getElem?_toArray, List.getElem?_cons_zero, List.getElem?_cons_succ, Option.toList_some, List.cons_append, List.nil_append]); (repeat (first | go_big_quiet_step (fail) | quiet_step (fail))); refine wpQuiet_nil (hK _ ?_); clear hK K
      (refine Eg.read Ext.pre (by intro c a d v w h; cases d <;> exact h) (by kernel_rfl) (i := 2) (n := 7) (l := [0, 1, 3, 6, 7, 9]) rfl (by kernel_rfl) (by kernel_rfl) rfl ⟨_, fun w' hR => load_run rfl (load_int (hR.cell (a := wD.drew) x0)), ?_⟩); (simp only [Act.put, List.setIfInBounds_toArray, List.getElem_toArray, List.getElem_cons_succ, List.getElem_cons_zero, List.set_cons_succ, List.set_cons_zero])
      (refine Eg.read Ext.pre (by intro c a d v w h; cases d <;> exact h) (by kernel_rfl) (i := 4) (n := 6) (l := [0, 1, 3, 6, 7, 9, 2]) rfl (by kernel_rfl) (by kernel_rfl) rfl ⟨_, fun w' hR => load_run rfl (load_int (hR.cell (a := wD.drew) x1)), ?_⟩); (simp only [Act.put, List.setIfInBounds_toArray, List.getElem_toArray, List.getElem_cons_succ, List.getElem_cons_zero, List.set_cons_succ, List.set_cons_zero])
      (refine Eg.read Ext.pre (by intro c a d v w h; cases d <;> exact h) (by kernel_rfl) (i := 8) (n := 5) (l := [0, 1, 3, 6, 7, 9, 2, 4]) rfl (by kernel_rfl) (by kernel_rfl) rfl ⟨_, fun w' hR => load_run rfl (load_int (hR.cell (a := wD.drew) x0)), ?_⟩); (simp only [Act.put, List.setIfInBounds_toArray, List.getElem_toArray, List.getElem_cons_succ, List.getElem_cons_zero, List.set_cons_succ, List.set_cons_zero])
      (refine Eg.read Ext.pre (by intro c a d v w h; cases d <;> exact h) (by kernel_rfl) (i := 10) (n := 4) (l := [0, 1, 3, 6, 7, 9, 2, 4, 8]) rfl (by kernel_rfl) (by kernel_rfl) rfl ⟨_, fun w' hR => load_run rfl (load_int (hR.cell (a := wD.drew) x1)), ?_⟩); (simp only [Act.put, List.setIfInBounds_toArray, List.getElem_toArray, List.getElem_cons_succ, List.getElem_cons_zero, List.set_cons_succ, List.set_cons_zero])
      refine Eg.act Ext.pre (i := 5) (n := 3) (l := [0, 1, 3, 6, 7, 9, 2, 4, 8, 10]) rfl (by kernel_rfl) ?_
      go_wp2_with fail
      refine (KO3.out _ HX).mono ?_
      rintro e w6 ⟨A6, c6, rfl, hx6, hE6⟩
      clear hx6
      go_wp2_with fail
      refine ⟨hE6, ?_⟩
      replace HX := HX.trans hE6
      clear hE6
      refine Eg.act Ext.pre (i := 11) (n := 2) (l := [0, 1, 3, 6, 7, 9, 2, 4, 8, 10, 5]) rfl (by kernel_rfl) ?_
      go_wp2_with fail
      refine (KO4.out _ HX).mono ?_
      rintro e w7 ⟨A7, c7, rfl, hx7, hE7⟩
      clear hx7
      go_wp2_with fail
      refine ⟨hE7, ?_⟩
      replace HX := HX.trans hE7
      clear hE7
      refine Eg.batchK Ext.pre (by intro c a d v w h; cases d <;> exact h) (by kernel_rfl) (n := 0) [12, 13] [0, 1, 3, 6, 7, 9, 2, 4, 8, 10, 5, 11] _ (by kernel_rfl) (fun K hK => ?_); (simp only [pickOps, List.getElem?_toArray, List.getElem?_cons_zero, List.getElem?_cons_succ, Option.toList_some, List.cons_append, List.nil_append]); (repeat (first | go_big_quiet_step (fail) | quiet_step (fail))); refine wpQuiet_nil (hK _ ?_); clear hK K
      refine Eg.finish (by kernel_rfl) ?_
      replace x0 := HX.cell x0
      replace x1 := HX.cell x1
      have HX7 := Lib.hid HX
      clear HX KO3 KO4 x2
      go_upto_region 18 with fail
      have HX : Ext wD w7.drew := HX7.out.drew
      by_cases hc : lm = lb
      · have e1 : ((lm : Int) == (lb : Int)) = true := by rw [beq_iff_eq]; omega
        clear HAP3 hap2 hc
        refine wp_eager Ext.pre (n := 40) (by kernel_rfl) (by kernel_rfl) ?_
        refine Eg.batchK Ext.pre (by intro c a d v w h; cases d <;> exact h) (by kernel_rfl) (n := 32) [0, 1, 2, 3, 5, 8, 9, 11] [] _ (by kernel_rfl) (fun K hK => ?_); (simp only [pickOps, List.getElem?_toArray, List.getElem?_cons_zero, List.getElem?_cons_succ, Option.toList_some, List.cons_append, List.nil_append]); (repeat (first | go_big_quiet_step (fail) | quiet_step (fail))); refine wpQuiet_nil (hK _ ?_); clear hK K
        (refine Eg.read Ext.pre (by intro c a d v w h; cases d <;> exact h) (by kernel_rfl) (i := 4) (n := 31) (l := [0, 1, 2, 3, 5, 8, 9, 11]) rfl (by kernel_rfl) (by kernel_rfl) rfl ⟨_, fun w' hR => load_run rfl (load_int (hR.cell (a := w7.drew) x0)), ?_⟩); (simp only [Act.put, List.setIfInBounds_toArray, List.getElem_toArray, List.getElem_cons_succ, List.getElem_cons_zero, List.set_cons_succ, List.set_cons_zero])
        (refine Eg.read Ext.pre (by intro c a d v w h; cases d <;> exact h) (by kernel_rfl) (i := 6) (n := 30) (l := [0, 1, 2, 3, 5, 8, 9, 11, 4]) rfl (by kernel_rfl) (by kernel_rfl) rfl ⟨_, fun w' hR => load_run rfl (load_int (hR.cell (a := w7.drew) x1)), ?_⟩); (simp only [Act.put, List.setIfInBounds_toArray, List.getElem_toArray, List.getElem_cons_succ, List.getElem_cons_zero, List.set_cons_succ, List.set_cons_zero])
        (refine Eg.read Ext.pre (by intro c a d v w h; cases d <;> exact h) (by kernel_rfl) (i := 10) (n := 29) (l := [0, 1, 2, 3, 5, 8, 9, 11, 4, 6]) rfl (by kernel_rfl) (by kernel_rfl) rfl ⟨_, fun w' hR => load_run rfl (load_int (hR.cell (a := w7.drew) x0)), ?_⟩); (simp only [Act.put, List.setIfInBounds_toArray, List.getElem_toArray, List.getElem_cons_succ, List.getElem_cons_zero, List.set_cons_succ, List.set_cons_zero])
        (refine Eg.read Ext.pre (by intro c a d v w h; cases d <;> exact h) (by kernel_rfl) (i := 12) (n := 28) (l := [0, 1, 2, 3, 5, 8, 9, 11, 4, 6, 10]) rfl (by kernel_rfl) (by kernel_rfl) rfl ⟨_, fun w' hR => load_run rfl (load_int (hR.cell (a := w7.drew) x1)), ?_⟩); (simp only [Act.put, List.setIfInBounds_toArray, List.getElem_toArray, List.getElem_cons_succ, List.getElem_cons_zero, List.set_cons_succ, List.set_cons_zero])
        refine Eg.act Ext.pre (i := 7) (n := 27) (l := [0, 1, 2, 3, 5, 8, 9, 11, 4, 6, 10, 12]) rfl (by kernel_rfl) ?_
        go_wp2_with fail
        refine (KO5.out _ HX).mono ?_
        rintro e w8 ⟨A8, c8, rfl, hx8, hE8⟩
        go_wp2_with fail
        refine ⟨hE8, ?_⟩
        replace HX := HX.trans hE8
        have HX8 := Lib.hid hx8
        clear hx8 hE8
        refine Eg.act Ext.pre (i := 13) (n := 26) (l := [0, 1, 2, 3, 5, 8, 9, 11, 4, 6, 10, 12, 7]) rfl (by kernel_rfl) ?_
        go_wp2_with fail
        refine (KO6.out _ HX).mono ?_
        rintro e wE ⟨A9, c9, rfl, hx9, hE9⟩
        go_wp2_with fail
        refine ⟨hE9, ?_⟩
        replace HX := HX.trans hE9
        have KSA := Lib.hid (SameAll_same wE A8 A9 (onlyN F1 (fa : Int) (ft : Int) true) g2 g2 c8 c9 HG2.out.symm HG2.out.symm (HX8.out.ext hE9) hx9 (by rw [HG2.out]; omega))
        clear hx9 hE9
        refine Eg.act Ext.pre (i := 14) (n := 25) (l := [0, 1, 2, 3, 5, 8, 9, 11, 4, 6, 10, 12, 7, 13]) rfl (by kernel_rfl) ?_
        go_wp2_with fail
        refine KSA.out.mono ?_
        rintro e wG ⟨rfl, hEG⟩
        go_wp2_with fail
        refine ⟨hEG, ?_⟩
        replace HX := HX.trans hEG
        clear hEG
        refine Eg.batchK Ext.pre (by intro c a d v w h; cases d <;> exact h) (by kernel_rfl) (n := 3) [15, 16, 17, 18, 19, 20, 21, 22, 23, 24, 25, 26, 27, 28, 29, 30, 31, 32, 33, 34, 35, 36] [0, 1, 2, 3, 5, 8, 9, 11, 4, 6, 10, 12, 7, 13, 14] _ (by kernel_rfl) (fun K hK => ?_); (simp only [pickOps, List.getElem?_toArray, List.getElem?_cons_zero, List.getElem?_cons_succ, Option.toList_some, List.cons_append, List.nil_append]); (repeat (first | go_big_quiet_step (fail) | quiet_step (fail))); refine wpQuiet_nil (hK _ ?_); clear hK K
        refine Eg.act Ext.pre (i := 37) (n := 2) (l := [0, 1, 2, 3, 5, 8, 9, 11, 4, 6, 10, 12, 7, 13, 14, 15, 16, 17, 18, 19, 20, 21, 22, 23, 24, 25, 26, 27, 28, 29, 30, 31, 32, 33, 34, 35, 36]) rfl (by kernel_rfl) ?_
        go_wp2_with fail
        refine (known_net _).mono ?_
        rintro e wH ⟨rfl, hEH⟩
        go_wp2_with fail
        refine ⟨hEH, ?_⟩
        replace HX := HX.trans hEH
        clear hEH
        refine Eg.batchK Ext.pre (by intro c a d v w h; cases d <;> exact h) (by kernel_rfl) (n := 0) [38, 39] [0, 1, 2, 3, 5, 8, 9, 11, 4, 6, 10, 12, 7, 13, 14, 15, 16, 17, 18, 19, 20, 21, 22, 23, 24, 25, 26, 27, 28, 29, 30, 31, 32, 33, 34, 35, 36, 37] _ (by kernel_rfl) (fun K hK => ?_); (simp only [pickOps, List.getElem?_toArray, List.getElem?_cons_zero, List.getElem?_cons_succ, Option.toList_some, List.cons_append, List.nil_append]); (repeat (first | go_big_quiet_step (fail) | quiet_step (fail))); refine wpQuiet_nil (hK _ ?_); clear hK K
        refine Eg.finish (by kernel_rfl) ?_
        have HEZ := Lib.hid (HED.out.trans HX)
        clear HX x0 x1
        go_wp2_with fail
        go_ret
        exact ⟨rfl, HEZ.out⟩
      · have hlb32 : lb = 32 ∧ lm = 31 := by
          have hap3 := HAP3.out
          split at hap3
          · omega
          · omega
        have e1 : ((lm : Int) == (lb : Int)) = false := by rw [beq_eq_false_iff_ne]; omega
        have e2 : ((lb : Int) == 32) = true := by rw [beq_iff_eq]; omega
        have e3 : ((lm : Int) == (lb : Int) - 1) = true := by rw [beq_iff_eq]; omega
        clear HAP3
        refine wp_eager Ext.pre (n := 40) (by kernel_rfl) (by kernel_rfl) ?_
        refine Eg.batchK Ext.pre (by intro c a d v w h; cases d <;> exact h) (by kernel_rfl) (n := 32) [0, 1, 2, 3, 5, 8, 9, 11] [] _ (by kernel_rfl) (fun K hK => ?_); (simp only [pickOps, List.getElem?_toArray, List.getElem?_cons_zero, List.getElem?_cons_succ, Option.toList_some, List.cons_append, List.nil_append]); (repeat (first | go_big_quiet_step (fail) | quiet_step (fail))); refine wpQuiet_nil (hK _ ?_); clear hK K
        (refine Eg.read Ext.pre (by intro c a d v w h; cases d <;> exact h) (by kernel_rfl) (i := 4) (n := 31) (l := [0, 1, 2, 3, 5, 8, 9, 11]) rfl (by kernel_rfl) (by kernel_rfl) rfl ⟨_, fun w' hR => load_run rfl (load_int (hR.cell (a := w7.drew) x0)), ?_⟩); (simp only [Act.put, List.setIfInBounds_toArray, List.getElem_toArray, List.getElem_cons_succ, List.getElem_cons_zero, List.set_cons_succ, List.set_cons_zero])
        (refine Eg.read Ext.pre (by intro c a d v w h; cases d <;> exact h) (by kernel_rfl) (i := 6) (n := 30) (l := [0, 1, 2, 3, 5, 8, 9, 11, 4]) rfl (by kernel_rfl) (by kernel_rfl) rfl ⟨_, fun w' hR => load_run rfl (load_int (hR.cell (a := w7.drew) x1)), ?_⟩); (simp only [Act.put, List.setIfInBounds_toArray, List.getElem_toArray, List.getElem_cons_succ, List.getElem_cons_zero, List.set_cons_succ, List.set_cons_zero])
        (refine Eg.read Ext.pre (by intro c a d v w h; cases d <;> exact h) (by kernel_rfl) (i := 10) (n := 29) (l := [0, 1, 2, 3, 5, 8, 9, 11, 4, 6]) rfl (by kernel_rfl) (by kernel_rfl) rfl ⟨_, fun w' hR => load_run rfl (load_int (hR.cell (a := w7.drew) x0)), ?_⟩); (simp only [Act.put, List.setIfInBounds_toArray, List.getElem_toArray, List.getElem_cons_succ, List.getElem_cons_zero, List.set_cons_succ, List.set_cons_zero])
        (refine Eg.read Ext.pre (by intro c a d v w h; cases d <;> exact h) (by kernel_rfl) (i := 12) (n := 28) (l := [0, 1, 2, 3, 5, 8, 9, 11, 4, 6, 10]) rfl (by kernel_rfl) (by kernel_rfl) rfl ⟨_, fun w' hR => load_run rfl (load_int (hR.cell (a := w7.drew) x1)), ?_⟩); (simp only [Act.put, List.setIfInBounds_toArray, List.getElem_toArray, List.getElem_cons_succ, List.getElem_cons_zero, List.set_cons_succ, List.set_cons_zero])
        refine Eg.act Ext.pre (i := 7) (n := 27) (l := [0, 1, 2, 3, 5, 8, 9, 11, 4, 6, 10, 12]) rfl (by kernel_rfl) ?_
        go_wp2_with fail
        refine (KO5.out _ HX).mono ?_
        rintro e w8 ⟨A8, c8, rfl, hx8, hE8⟩
        go_wp2_with fail
        refine ⟨hE8, ?_⟩
        replace HX := HX.trans hE8
        have HX8 := Lib.hid hx8
        clear hx8 hE8
        refine Eg.act Ext.pre (i := 13) (n := 26) (l := [0, 1, 2, 3, 5, 8, 9, 11, 4, 6, 10, 12, 7]) rfl (by kernel_rfl) ?_
        go_wp2_with fail
        refine (KO6.out _ HX).mono ?_
        rintro e wE ⟨A9, c9, rfl, hx9, hE9⟩
        go_wp2_with fail
        refine ⟨hE9, ?_⟩
        replace HX := HX.trans hE9
        have KSA := Lib.hid (SameAll_same wE A8 A9 (onlyN F1 (fa : Int) (ft : Int) true) g2 g2 c8 c9 HG2.out.symm HG2.out.symm (HX8.out.ext hE9) hx9 (by rw [HG2.out]; omega))
        clear hx9 hE9
        refine Eg.act Ext.pre (i := 14) (n := 25) (l := [0, 1, 2, 3, 5, 8, 9, 11, 4, 6, 10, 12, 7, 13]) rfl (by kernel_rfl) ?_
        go_wp2_with fail
        refine KSA.out.mono ?_
        rintro e wG ⟨rfl, hEG⟩
        go_wp2_with fail
        refine ⟨hEG, ?_⟩
        replace HX := HX.trans hEG
        clear hEG
        refine Eg.batchK Ext.pre (by intro c a d v w h; cases d <;> exact h) (by kernel_rfl) (n := 3) [15, 16, 17, 18, 19, 20, 21, 22, 23, 24, 25, 26, 27, 28, 29, 30, 31, 32, 33, 34, 35, 36] [0, 1, 2, 3, 5, 8, 9, 11, 4, 6, 10, 12, 7, 13, 14] _ (by kernel_rfl) (fun K hK => ?_); (simp only [pickOps, List.getElem?_toArray, List.getElem?_cons_zero, List.getElem?_cons_succ, Option.toList_some, List.cons_append, List.nil_append]); (repeat (first | go_big_quiet_step (fail) | quiet_step (fail))); refine wpQuiet_nil (hK _ ?_); clear hK K
        refine Eg.act Ext.pre (i := 37) (n := 2) (l := [0, 1, 2, 3, 5, 8, 9, 11, 4, 6, 10, 12, 7, 13, 14, 15, 16, 17, 18, 19, 20, 21, 22, 23, 24, 25, 26, 27, 28, 29, 30, 31, 32, 33, 34, 35, 36]) rfl (by kernel_rfl) ?_
        go_wp2_with fail
        refine (known_net _).mono ?_
        rintro e wH ⟨rfl, hEH⟩
        go_wp2_with fail
        refine ⟨hEH, ?_⟩
        replace HX := HX.trans hEH
        clear hEH
        refine Eg.batchK Ext.pre (by intro c a d v w h; cases d <;> exact h) (by kernel_rfl) (n := 0) [38, 39] [0, 1, 2, 3, 5, 8, 9, 11, 4, 6, 10, 12, 7, 13, 14, 15, 16, 17, 18, 19, 20, 21, 22, 23, 24, 25, 26, 27, 28, 29, 30, 31, 32, 33, 34, 35, 36, 37] _ (by kernel_rfl) (fun K hK => ?_); (simp only [pickOps, List.getElem?_toArray, List.getElem?_cons_zero, List.getElem?_cons_succ, Option.toList_some, List.cons_append, List.nil_append]); (repeat (first | go_big_quiet_step (fail) | quiet_step (fail))); refine wpQuiet_nil (hK _ ?_); clear hK K
        refine Eg.finish (by kernel_rfl) ?_
        have HEZ := Lib.hid (HED.out.trans HX)
        clear HX x0 x1
        go_wp2_with fail
        go_ret
        exact ⟨rfl, HEZ.out⟩
    · have hne : ((ez : Int) != 0) = true := by rw [bne_iff_ne]; omega
      clear h0 HAP HEZ
      go_wp2_with fail
      refine (num4_any _ _).mono ?_
      rintro e w' ⟨rfl, rfl⟩
      go_wp2_with fail
      refine (known_net _).mono ?_
      rintro e wZ ⟨rfl, hE⟩
      have HE := Lib.hid (HEA.out.trans hE)
      clear hE
      go_wp2_with fail
      go_ret
      exact ⟨rfl, HE.out⟩

end Go.Proofs.Ytahooohokdbnpaa
