
/-
  Contract of law04.as.
-/
import Derived.Test.YtahooohokdbnpaaPairN
set_option linter.unusedVariables false
set_option linter.unusedSimpArgs false
namespace Go.Proofs.Ytahooohokdbnpaa
open Go.RowKit Go.Shelf Go.Maps Pl

attribute [local go_sem] Oper.semAt_some

theorem upTo_zero (F : List Fl) : upTo F 0 = F := by unfold upTo; rw [if_neg (by omega)]
/-- all flights of a net, as a row that reads as they are -/
theorem flights_all {w : World} {S : Nat → Prop} {g nb : Nat} {N : Nt} (h : NetAt w S g nb N) :
    Calls Try.prog 16 #[.pointer (some ⟨g, 0, none⟩), .int .i64 0] w fun e w' => ∃ A c, e = .returned (.tuple #[.slice A (flN N).length c, .bool true]) ∧ FlX w' A (flN N) ∧ Ext w w' := by
  have K := flights_law h 0 (by unfold I64; omega)
  rw [upTo_zero] at K
  refine K.mono ?_
  rintro e w1 ⟨v, cs, rfl, hrow, hown, hE⟩
  have hfr : FlRow w1 w1 w.heap.size v (flN N) := ⟨cs, hrow, hown.cells⟩
  obtain ⟨A, c, rfl, hx⟩ := hfr.x (Ext.refl w1)
  exact ⟨A, c, rfl, hx, hE⟩

set_option maxHeartbeats 4000000 in
set_option maxRecDepth 100000 in
theorem as_law {w : World} {S T : Nat → Prop} {g r nb : Nat} {N : Nt} (h : Pr2 w S T g r nb N) :
    Calls Try.prog 29 #[.pointer (some ⟨g, 0, none⟩), .pointer (some ⟨r, 0, none⟩)] w fun e w' => e = .returned (.bool true) ∧ Ext w w' := by
  have HN := Lib.hid h.1
  have HR := Lib.hid h.2.1
  have KF := Lib.hid (flights_all h.1)
  have KL := Lib.hid (fun W (hW : Ext w W) => Len_net (h.1.ext hW))
  have hlen := flN_length h.1.1
  clear h
  go_enter Try.func29, Try.ntmps29
  generalize hfl : flN N = F at *
  have HFL := Lib.hid hfl
  generalize hln : F.length = len at *
  have HLN := Lib.hid hln
  clear hfl hln
  go_wp2_with fail
  refine KF.out.mono ?_
  rintro e w1 ⟨A1, c1, rfl, hx1, hE1⟩
  have HX1 := Lib.hid hx1
  have HE1 := Lib.hid hE1
  have KR := Lib.hid (Flights_ref (HR.out.ext hE1))
  rw [HFL.out] at KR
  clear KF hx1 hE1
  go_wp2_with fail
  refine KR.out.mono ?_
  rintro e w2 ⟨v2, rfl, hF2, hE2⟩
  obtain ⟨A2, c2, rfl, hx2⟩ := hF2.x hE2
  rw [HLN.out]
  have KSA := Lib.hid (fun W (hW : Ext w2 W) => SameAll_same W A1 A2 F len len c1 c2 HLN.out.symm HLN.out.symm ((HX1.out.ext hE2).ext hW) (hx2.ext hW) (by rw [HLN.out]; omega))
  have HE2 := Lib.hid (HE1.out.trans hE2)
  have hlc := (HR.out.ext HE2.out).lost_cell.1
  have KLO := Lib.hid (fun W (hW : Ext w W) => Lost_net (HN.out.ext hW))
  clear hF2 hE2 hx2 HX1 KR HE1
  go_upto_region 3 with fail
  have HX : Ext w2 w2.drew := (Ext.refl w2).drew
  have hzz : ((N.lost : Int) != (N.lost : Int)) = false := by simp
  have hll : ((len : Int) != (len : Int)) = false := by simp
  refine wp_eager Ext.pre (n := 24) (by kernel_rfl) (by kernel_rfl) ?_
  refine Eg.batchK Ext.pre (by intro c a d v w h; cases d <;> exact h) (by kernel_rfl) (n := 19) [0, 1, 2, 3, 4] [] _ (by kernel_rfl) (fun K hK => ?_); (simp only [pickOps, List.getElem?_toArray, List.getElem?_cons_zero, List.getElem?_cons_succ, Option.toList_some, List.cons_append, List.nil_append]); (repeat (first | go_big_quiet_step (fail) | quiet_step (fail))); refine wpQuiet_nil (hK _ ?_); clear hK K
  refine Eg.act Ext.pre (i := 5) (n := 18) (l := [0, 1, 2, 3, 4]) rfl (by kernel_rfl) ?_
  go_wp2_with fail
  refine (KSA.out _ HX).mono ?_
  rintro e w3 ⟨rfl, hE3⟩
  go_wp2_with fail
  refine ⟨hE3, ?_⟩
  replace HX := HX.trans hE3
  clear hE3
  refine Eg.batchK Ext.pre (by intro c a d v w h; cases d <;> exact h) (by kernel_rfl) (n := 12) [6, 7, 8, 9, 11, 12] [0, 1, 2, 3, 4, 5] _ (by kernel_rfl) (fun K hK => ?_); (simp only [pickOps, List.getElem?_toArray, List.getElem?_cons_zero, List.getElem?_cons_succ, Option.toList_some, List.cons_append, List.nil_append]); (repeat (first | go_big_quiet_step (fail) | quiet_step (fail))); refine wpQuiet_nil (hK _ ?_); clear hK K
  refine Eg.act Ext.pre (i := 10) (n := 11) (l := [0, 1, 2, 3, 4, 5, 6, 7, 8, 9, 11, 12]) rfl (by kernel_rfl) ?_
  go_wp2_with fail
  refine (KL.out _ (HE2.out.trans HX)).mono ?_
  rintro e w4 ⟨rfl, hE3⟩
  go_wp2_with fail
  refine ⟨hE3, ?_⟩
  replace HX := HX.trans hE3
  clear hE3
  refine Eg.batchK Ext.pre (by intro c a d v w h; cases d <;> exact h) (by kernel_rfl) (n := 4) [13, 14, 15, 16, 18, 19, 20] [0, 1, 2, 3, 4, 5, 6, 7, 8, 9, 11, 12, 10] _ (by kernel_rfl) (fun K hK => ?_); (simp only [pickOps, List.getElem?_toArray, List.getElem?_cons_zero, List.getElem?_cons_succ, Option.toList_some, List.cons_append, List.nil_append]); (repeat (first | go_big_quiet_step (fail) | quiet_step (fail))); refine wpQuiet_nil (hK _ ?_); clear hK K
  (refine Eg.read Ext.pre (by intro c a d v w h; cases d <;> exact h) (by kernel_rfl) (i := 21) (n := 3) (l := [0, 1, 2, 3, 4, 5, 6, 7, 8, 9, 11, 12, 10, 13, 14, 15, 16, 18, 19, 20]) rfl (by kernel_rfl) (by kernel_rfl) rfl ⟨_, fun w' hR => load_run rfl (load_int (hR.cell (HX.cell (a := w2) hlc))), ?_⟩); (simp only [Act.put, List.setIfInBounds_toArray, List.getElem_toArray, List.getElem_cons_succ, List.getElem_cons_zero, List.set_cons_succ, List.set_cons_zero])
  refine Eg.act Ext.pre (i := 17) (n := 2) (l := [0, 1, 2, 3, 4, 5, 6, 7, 8, 9, 11, 12, 10, 13, 14, 15, 16, 18, 19, 20, 21]) rfl (by kernel_rfl) ?_
  go_wp2_with fail
  refine (KLO.out _ (HE2.out.trans HX)).mono ?_
  rintro e w5 ⟨rfl, rfl⟩
  go_wp2_with fail
  refine ⟨Ext.refl _, ?_⟩
  refine Eg.batchK Ext.pre (by intro c a d v w h; cases d <;> exact h) (by kernel_rfl) (n := 0) [22, 23] [0, 1, 2, 3, 4, 5, 6, 7, 8, 9, 11, 12, 10, 13, 14, 15, 16, 18, 19, 20, 21, 17] _ (by kernel_rfl) (fun K hK => ?_); (simp only [pickOps, List.getElem?_toArray, List.getElem?_cons_zero, List.getElem?_cons_succ, Option.toList_some, List.cons_append, List.nil_append]); (repeat (first | go_big_quiet_step (fail) | quiet_step (fail))); refine wpQuiet_nil (hK _ ?_); clear hK K
  refine Eg.finish (by kernel_rfl) ?_
  have HE4 := Lib.hid (HE2.out.trans HX)
  clear HX KSA KL KLO HE2 hlc
  go_wp2_with fail
  go_loopw [8] (fun i wr => ∃ k : Nat, k ≤ len + 2 ∧ i = .int .i64 ((k : Int) - 1) ∧ Ext w wr) (fun i _ => len + 2 - (intOf i + 1).toNat)
  case atStart => exact ⟨0, Nat.zero_le _, rfl, HE4.out⟩
  case round =>
    obtain ⟨k, hk, rfl, hE⟩ := hrel
    have HE := Lib.hid hE
    clear hE HE4
    by_cases hkl : k ≤ len + 1
    · have hd : decide ((k : Int) - 1 ≤ (len : Int)) = true := decide_eq_true (by omega)
      obtain ⟨z, hz⟩ : ∃ z : Int, (k : Int) - 1 = z := ⟨_, rfl⟩
      have hzi : I64 z := by unfold I64; omega
      have hzl : -1 ≤ z := by omega
      have hzh : z ≤ 801 := by omega
      have HZ : Hid (z + 1 = ((k + 1 : Nat) : Int) - 1) := Lib.hid (by omega)
      have HZM : Hid (len + 2 - (intOf (.int .i64 (z + 1)) + 1).toNat < len + 2 - (intOf (.int .i64 z) + 1).toNat) := Lib.hid (by simp [intOf]; omega)
      have K1 := Lib.hid (At_net (HN.out.ext HE.out) z hzi)
      have K2 := Lib.hid (fun W (hW : Ext w W) => At_ref (HR.out.ext hW) z hzi)
      rw [hz] at hd ⊢
      clear hz
      generalize atF N z = f at *
      generalize atE N z = ez at *
      go_wp2_with fail
      refine K1.out.mono ?_
      rintro e w5 ⟨vb, rfl, hb5, hE5⟩
      obtain ⟨Ab, cb, rfl, _⟩ := id hb5
      have HX5 := Lib.hid (ext_new w5 (.cells #[.int .i64 (f.from_ : Int), .int .i64 (f.to_ : Int), .slice Ab f.b.length cb] 45))
      have HB5 := Lib.hid (Blk.new w5 45 #[.int .i64 (f.from_ : Int), .int .i64 (f.to_ : Int), .slice Ab f.b.length cb])
      have HS5 := Lib.hid (hb5.ext HX5.out)
      have HE6 := Lib.hid (HE.out.trans (hE5.trans HX5.out))
      clear hb5 hE5 K1
      go_wp2_with fail
      generalize w5.alloc (.cells #[.int .i64 (f.from_ : Int), .int .i64 (f.to_ : Int), .slice Ab f.b.length cb] 45) = w6 at *
      generalize w5.heap.size = b5 at *
      refine (K2.out w6 HE6.out).mono ?_
      rintro e w7 ⟨vb, rfl, hb7, hE7⟩
      obtain ⟨Ac, cc, rfl, _⟩ := id hb7
      have HX7 := Lib.hid (ext_new w7 (.cells #[.int .i64 (f.from_ : Int), .int .i64 (f.to_ : Int), .slice Ac f.b.length cc] 45))
      have HB7 := Blk.new w7 45 #[.int .i64 (f.from_ : Int), .int .i64 (f.to_ : Int), .slice Ac f.b.length cc]
      have HB6 := HB5.out.ext (hE7.trans HX7.out)
      have KS := Lib.hid (Same_any _ (f.from_ : Int) (f.to_ : Int) (f.from_ : Int) (f.to_ : Int) _ _ f.b f.b (HS5.out.ext (hE7.trans HX7.out)) (hb7.ext HX7.out))
      rw [sameZ_self] at KS
      have HE8 := Lib.hid (HE6.out.trans (hE7.trans HX7.out))
      obtain ⟨x0, x1, x2⟩ := cell3 HB6
      obtain ⟨y0, y1, y2⟩ := cell3 HB7
      have hee : ((ez : Int) != (ez : Int)) = false := by simp
      clear hb7 hE7 HB7 HB6 HB5 HS5 HX5 HE6 K2
      go_wp2_with fail
      refine KS.out.mono ?_
      rintro e w9 ⟨rfl, hE9⟩
      have HE9 := Lib.hid (HE8.out.trans hE9)
      clear hE9 HE8 x0 x1 x2 y0 y1 y2
      go_wp2_with fail
      refine (num4_any _ _).mono ?_
      rintro e w' ⟨rfl, rfl⟩
      go_wp2_with fail
      exact ⟨⟨k + 1, by omega, by rw [HZ.out], HE9.out⟩, HZM.out⟩
    · have hd : decide ((k : Int) - 1 ≤ (len : Int)) = false := decide_eq_false (by omega)
      go_wp2_with fail
      go_loopw [13] (fun i wr => ∃ a : Nat, a ≤ 7 ∧ i = .int .i64 (a : Int) ∧ Ext w wr) (fun i _ => 7 - (intOf i).toNat)
      case atStart => exact ⟨0, Nat.zero_le _, rfl, HE.out⟩
      case round =>
        obtain ⟨a, ha, rfl, hE⟩ := hrel
        have HE := Lib.hid hE
        clear hE
        by_cases ha6 : a ≤ 6
        · have hda : decide ((a : Int) ≤ 6) = true := decide_eq_true (by omega)
          go_wp2_with fail
          go_loopw [14] (fun i wr => ∃ b : Nat, b ≤ 7 ∧ i = .int .i64 (b : Int) ∧ Ext w wr) (fun i _ => 7 - (intOf i).toNat)
          case atStart => exact ⟨0, Nat.zero_le _, rfl, HE.out⟩
          case round =>
            obtain ⟨b, hb, rfl, hE⟩ := hrel
            have HE := Lib.hid hE
            by_cases hb6 : b ≤ 6
            · have hdb : decide ((b : Int) ≤ 6) = true := decide_eq_true (by omega)
              have K1 := Lib.hid (Line_net (HN.out.ext hE) (a := (a : Int)) (b := (b : Int)) (by unfold I64; omega) (by unfold I64; omega))
              have K2 := Lib.hid (Line_ref (HR.out.ext hE) (a : Int) (b : Int))
              clear hE
              generalize lineN N (a : Int) (b : Int) = ln at *
              have hee : ((ln : Int) != (ln : Int)) = false := by simp
              go_wp2_with fail
              refine K1.out.mono ?_
              rintro e w' ⟨rfl, rfl⟩
              go_wp2_with fail
              refine K2.out.mono ?_
              rintro e w' ⟨rfl, rfl⟩
              go_wp2_with fail
              exact ⟨⟨b + 1, by omega, by go_num, HE.out⟩, by simp [intOf]; omega⟩
            · have hdb : decide ((b : Int) ≤ 6) = false := decide_eq_false (by omega)
              clear hE
              go_wp2_with fail
              exact ⟨⟨a + 1, by omega, by go_num, HE.out⟩, by simp [intOf]; omega⟩
        · have hda : decide ((a : Int) ≤ 6) = false := decide_eq_false (by omega)
          go_wp2_with fail
          go_ret
          exact ⟨rfl, HE.out⟩

end Go.Proofs.Ytahooohokdbnpaa
