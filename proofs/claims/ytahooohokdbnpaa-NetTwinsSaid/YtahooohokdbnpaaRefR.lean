
/-
  Contracts of ref04.Net.Double, Clear.
-/
import Derived.Test.YtahooohokdbnpaaRefQ
set_option linter.unusedVariables false
set_option linter.unusedSimpArgs false
namespace Go.Proofs.Ytahooohokdbnpaa
open Go.RowKit Go.Shelf Go.Maps Pl

attribute [local go_sem] Oper.semAt_some

theorem send_double {N : Nt} (h : OkN N) {z : Int} (h0 : atE N z = 0) (hf : (N.L (atF N z).line).length < 32) :
    sendE N ((atF N z).from_ : Int) ((atF N z).to_ : Int) (atF N z).b.length = 0 ∧ sendN N ((atF N z).from_ : Int) ((atF N z).to_ : Int) (atF N z).b = pushN N (atF N z).line (atF N z).b := by
  obtain ⟨o1, o2, o3, o4⟩ := at_ok h h0
  obtain ⟨i1, i2, i3, i4, i5⟩ := lines_small h o1
  have hl : (atF N z).line = ((atF N z).from_, (atF N z).to_) := rfl
  rw [hl] at i3 i4 i5 hf
  have e0 : sendE N ((atF N z).from_ : Int) ((atF N z).to_ : Int) (atF N z).b.length = 0 := by
    unfold sendE twoB lineN
    rw [i3, i4, i5, decide_eq_true (show ((atF N z).from_ : Int) ≠ ((atF N z).to_ : Int) by omega), decide_eq_true o3]
    simp only [Bool.and_self, if_true]
    rw [if_neg (by omega)]
  refine ⟨e0, ?_⟩
  unfold sendN
  rw [e0, if_pos rfl, i5, hl]

set_option maxHeartbeats 2000000 in
set_option maxRecDepth 100000 in
theorem Double_ref {w : World} {T : Nat → Prop} {g : Nat} {N : Nt} (h : RefAt w T g N) (z : Int) (hz : I64 z) (hlo : N.lost < 1000000) :
    Calls Try.prog 47 #[.pointer (some ⟨g, 0, none⟩), .int .i64 z] w fun e w' => e = .returned (.int .i64 (doubleE N z : Int)) ∧ ∃ T', RefAt w' T' g (doubleN N z) ∧ (∀ k, T' k → T k ∨ w.heap.size ≤ k) ∧ Chg (fun k => k = g) w w' := by
  have KA := Lib.hid (At_ref h z hz)
  have H := Lib.hid h
  have HDE : Hid (doubleE N z = if atE N z = 0 then (if 32 ≤ (N.L (atF N z).line).length then 5 else 0) else atE N z) := Lib.hid rfl
  have HDN : Hid (doubleN N z = if doubleE N z = 0 then pushN N (atF N z).line (atF N z).b else N) := Lib.hid rfl
  have HOK : Hid (atE N z = 0 → (atF N z).line ∈ linesOf N.ends ∧ (atF N z).from_ ≠ (atF N z).to_ ∧ (atF N z).b.length ≤ 1048576 ∧ atK N z < (N.L (atF N z).line).length) := Lib.hid (fun h0 => at_ok h.1 h0)
  have HSD : Hid (atE N z = 0 → (N.L (atF N z).line).length < 32 → sendE N ((atF N z).from_ : Int) ((atF N z).to_ : Int) (atF N z).b.length = 0 ∧ sendN N ((atF N z).from_ : Int) ((atF N z).to_ : Int) (atF N z).b = pushN N (atF N z).line (atF N z).b) := Lib.hid (fun h0 hf => send_double h.1 h0 hf)
  clear h
  go_enter Try.func47, Try.ntmps47
  go_wp2_with fail
  refine KA.out.mono ?_
  rintro e w2 ⟨vb, rfl, hb, hE2⟩
  obtain ⟨Ab, cb, rfl, _⟩ := id hb
  have HX := ext_new w2 (.cells #[.int .i64 ((atF N z).from_ : Int), .int .i64 ((atF N z).to_ : Int), .slice Ab (atF N z).b.length cb] 45)
  have HB3 := Lib.hid (Blk.new w2 45 #[.int .i64 ((atF N z).from_ : Int), .int .i64 ((atF N z).to_ : Int), .slice Ab (atF N z).b.length cb])
  have HE3 := Lib.hid (hE2.trans HX)
  have HBS := Lib.hid (hb.ext HX)
  clear hb hE2 HX KA
  by_cases h0 : atE N z = 0
  · obtain ⟨o1, o2, o3, _⟩ := HOK.out h0
    have hsd := HSD.out h0
    have hde := HDE.out
    rw [if_pos h0] at hde
    rw [h0]
    have hdn := HDN.out
    rw [hde] at hdn
    clear h0 HOK HDE HDN HSD
    have hln : (atF N z).line = ((atF N z).from_, (atF N z).to_) := rfl
    rw [hln] at o1 hde hdn hsd
    clear hln
    generalize hffb : (atF N z).b = ffb at *
    generalize hffa : (atF N z).from_ = ffa at *
    generalize hfft : (atF N z).to_ = fft at *
    obtain ⟨i1, i2, i3, i4, i5⟩ := lines_small H.out.1 o1
    have hlN : lineN N (ffa : Int) (fft : Int) = (N.L (ffa, fft)).length := by unfold lineN; rw [i3, i4, i5]; rfl
    have KL := Lib.hid (Line_ref (H.out.ext HE3.out) (ffa : Int) (fft : Int))
    rw [hlN] at KL
    obtain ⟨A', c', e', hby, _, _⟩ := HBS.out.by_
    cases e'
    have KP := Lib.hid (Send_ref (c := cb) (H.out.ext HE3.out) (ffa : Int) (fft : Int) hlo hby (by omega))
    obtain ⟨c50, c51, c52⟩ := cell3 HB3.out
    clear hby i1 i2 i3 i4 i5 hlN o1 hffa hfft hffb HBS HB3
    by_cases hfull : 32 ≤ (N.L (ffa, fft)).length
    · rw [if_pos hfull] at hde hdn
      simp only [Nat.reduceEqDiff, if_false] at hdn
      have HRES := Lib.hid (And.intro hde hdn)
      have hd : decide ((32 : Int) ≤ ((N.L (ffa, fft)).length : Int)) = true := decide_eq_true (by omega)
      clear hde hdn hfull KP hsd
      generalize (N.L (ffa, fft)).length = ln at *
      go_upto_region 4 with fail
      generalize w2.alloc (.cells #[.int .i64 (ffa : Int), .int .i64 (fft : Int), .slice Ab ffb.length cb] 45) = w3 at *
      go_wp2_with fail
      refine KL.out.mono ?_
      rintro e w' ⟨rfl, rfl⟩
      go_wp2_with fail
      go_ret
      rw [HRES.out.1, HRES.out.2]
      exact ⟨rfl, T, H.out.ext HE3.out, fun k hk => .inl hk, Chg.of_ext HE3.out⟩
    · obtain ⟨s1, s2⟩ := hsd (by omega)
      rw [if_neg hfull] at hde hdn
      simp only [if_true] at hdn
      rw [s1, s2, ← hdn] at KP
      have HRES := Lib.hid hde
      have hd : decide ((32 : Int) ≤ ((N.L (ffa, fft)).length : Int)) = false := decide_eq_false (by omega)
      clear hde hdn hfull hsd s1 s2
      generalize (N.L (ffa, fft)).length = ln at *
      go_upto_region 4 with fail
      generalize w2.alloc (.cells #[.int .i64 (ffa : Int), .int .i64 (fft : Int), .slice Ab ffb.length cb] 45) = w3 at *
      go_wp2_with fail
      refine KL.out.mono ?_
      rintro e w' ⟨rfl, rfl⟩
      go_wp2_with fail
      refine KP.out.mono ?_
      rintro e w' ⟨rfl, T', hN, hS, hC⟩
      have HN := Lib.hid hN
      have HS := Lib.hid hS
      have HC := Lib.hid hC
      clear hN hS hC
      go_wp2_with fail
      go_ret
      rw [HRES.out]
      exact ⟨rfl, T', HN.out, fun k hk => (HS.out k hk).elim .inl (fun h => .inr (Nat.le_trans HE3.out.size h)), (Chg.of_ext HE3.out).trans HC.out (fun k h => .inl h)⟩
  · have hne : ((atE N z : Int) != 0) = true := by rw [bne_iff_ne]; omega
    have hde := HDE.out
    rw [if_neg h0] at hde
    have hdn := HDN.out
    rw [if_neg (by rw [hde]; exact h0)] at hdn
    have HRES := Lib.hid (And.intro hde hdn)
    generalize hez : atE N z = ez at *
    have HEZ := Lib.hid hez
    clear h0 HOK HDE HDN hde hdn hez HBS HB3 HSD
    go_wp2_with fail
    go_ret
    rw [HRES.out.1, HRES.out.2]
    exact ⟨rfl, T, H.out.ext HE3.out, fun k hk => .inl hk, Chg.of_ext HE3.out⟩

theorem clearL_self {N : Nt} (h : OkN N) (z : Nat) (j : Nat) (e : j + 1 = z) : clearL N.L z (j + 1) = clearL N.L z j := by
  subst e
  rw [clearL_succ]
  funext q
  unfold setL
  split
  · rename_i h1
    subst h1
    show [] = clearL N.L (j + 1) j (j + 1, j + 1)
    unfold clearL
    rw [if_neg (by simp only; omega), h.self_]
  · rfl
theorem okN_clearL {N : Nt} (h : OkN N) (z j : Nat) : OkN { N with L := clearL N.L z j } := by
  induction j with
  | zero => rw [clearL_zero]; exact h
  | succ j ih =>
    rw [clearL_succ]
    exact okN_set (N := { N with L := clearL N.L z j }) ih (fun x hx => by simp at hx) (Nat.zero_le _)
set_option maxHeartbeats 2000000 in
set_option maxRecDepth 100000 in
theorem Clear_ref {w : World} {T : Nat → Prop} {g : Nat} {N : Nt} (h : RefAt w T g N) (z : Int) :
    Calls Try.prog 48 #[.pointer (some ⟨g, 0, none⟩), .int .i64 z] w fun e w' => e = .returned (.int .i64 (clearC N z : Int)) ∧ RefAt w' T g (clearN N z) ∧ Chg (fun k => k = g) w w' := by
  have H := Lib.hid h
  have h5 := h.1.e5
  have HCC : Hid (clearC N z = if endB N z then clearK N.L z.toNat N.ends else 0) := Lib.hid rfl
  have HCN : Hid (clearN N z = if endB N z then { N with L := clearL N.L z.toNat N.ends } else N) := Lib.hid rfl
  clear h
  cases he : endB N z with
  | false =>
    have HL0 : Hid (∀ a, lineN N a z = 0) := Lib.hid (fun a => by unfold lineN; rw [he, Bool.and_false]; rfl)
    have HT0 : Hid (∀ a, twoB N a z = false) := Lib.hid (fun a => by unfold twoB; rw [he, Bool.and_false, Bool.false_and])
    have hcc := HCC.out
    have hcn := HCN.out
    rw [he] at hcc hcn
    simp only [Bool.false_eq_true, if_false] at hcc hcn
    rw [hcc, hcn]
    clear hcc hcn HCC HCN he
    have HEN : Hid (∃ en, N.ends = en) := Lib.hid ⟨_, rfl⟩
    obtain ⟨en, hen⟩ := HEN.out
    have HEN2 := Lib.hid hen
    rw [hen] at h5
    clear HEN hen
    go_enter Try.func48, Try.ntmps48
    go_wp2_with fail
    go_loopw [5, 6] (fun s i wr => ∃ j : Nat, j ≤ en ∧ i = .int .i64 ((j + 1 : Nat) : Int) ∧ s = .int .i64 0 ∧ Ext w wr) (fun _ i _ => en + 1 - (intOf i).toNat)
    case atStart => exact ⟨0, Nat.zero_le _, rfl, rfl, Ext.refl w⟩
    case round =>
      obtain ⟨j, hj, rfl, rfl, hE⟩ := hrel
      have HE := Lib.hid hE
      have hce := (H.out.ext hE).ends
      rw [HEN2.out] at hce
      have KL := Lib.hid (Line_ref (H.out.ext hE) ((j : Int) + 1) z)
      rw [HL0.out] at KL
      have K2 := Lib.hid (two_ref (H.out.ext hE) ((j : Int) + 1) z)
      rw [HT0.out] at K2
      clear hE
      by_cases hlt : j < en
      · have hd : decide (((j + 1 : Nat) : Int) ≤ (en : Int)) = true := decide_eq_true (by omega)
        go_wp2_with fail
        refine KL.out.mono ?_
        rintro e w' ⟨rfl, rfl⟩
        go_wp2_with fail
        refine K2.out.mono ?_
        rintro e w' ⟨rfl, rfl⟩
        go_wp2_with fail
        exact ⟨⟨j + 1, by omega, by go_num, by go_num, HE.out⟩, by simp [intOf]; omega⟩
      · obtain rfl : j = en := by omega
        have hd : decide (((j + 1 : Nat) : Int) ≤ (j : Int)) = false := decide_eq_false (by omega)
        go_wp2_with fail
        go_ret
        exact ⟨rfl, H.out.ext HE.out, Chg.of_ext HE.out⟩
  | true =>
    have hcc := HCC.out
    have hcn := HCN.out
    rw [he] at hcc hcn
    simp only [if_true] at hcc hcn
    have hz := (endB_iff N z).1 he
    obtain ⟨n, rfl⟩ : ∃ n : Nat, z = (n : Int) := ⟨z.toNat, by omega⟩
    rw [Int.toNat_natCast] at hcc hcn
    rw [hcc, hcn]
    clear hcc hcn HCC HCN
    obtain ⟨NC, hNC⟩ : ∃ NC : Nat → Nt, NC = fun j => { N with L := clearL N.L n j } := ⟨_, rfl⟩
    have HNC : Hid (∀ j, NC j = { N with L := clearL N.L n j }) := Lib.hid (fun j => by rw [hNC])
    have HL1 : Hid (∀ j, j < N.ends → lineN (NC j) ((j : Int) + 1) (n : Int) = (N.L (j + 1, n)).length) := Lib.hid (fun j hj => by
      rw [hNC]
      unfold lineN
      have e1 : endB { N with L := clearL N.L n j } ((j : Int) + 1) = true := (endB_iff _ _).2 ⟨by omega, by show _ ≤ (N.ends : Int); omega⟩
      have e2 : endB { N with L := clearL N.L n j } (n : Int) = true := he
      rw [e1, e2, Bool.and_true, if_pos rfl]
      show (clearL N.L n j (pr ((j : Int) + 1) (n : Int))).length = _
      rw [show pr ((j : Int) + 1) (n : Int) = (j + 1, n) by unfold pr; rw [show ((j : Int) + 1).toNat = j + 1 by omega, Int.toNat_natCast], clearL_ahead])
    have HT1 : Hid (∀ j, j < N.ends → twoB (NC j) ((j : Int) + 1) (n : Int) = decide (j + 1 ≠ n)) := Lib.hid (fun j hj => by
      rw [hNC]
      unfold twoB
      have e1 : endB { N with L := clearL N.L n j } ((j : Int) + 1) = true := (endB_iff _ _).2 ⟨by omega, by show _ ≤ (N.ends : Int); omega⟩
      have e2 : endB { N with L := clearL N.L n j } (n : Int) = true := he
      rw [e1, e2, Bool.and_true, Bool.true_and, decide_eq_decide]
      omega)
    have HST : Hid (∀ j, { NC j with L := setL (NC j).L (j + 1, n) [] } = NC (j + 1)) := Lib.hid (fun j => by
      rw [hNC]
      show ({ N with L := setL (clearL N.L n j) (j + 1, n) [] } : Nt) = { N with L := clearL N.L n (j + 1) }
      rw [clearL_succ])
    have HSF : Hid (∀ j, j + 1 = n → NC (j + 1) = NC j) := Lib.hid (fun j e => by rw [HNC.out, HNC.out, clearL_self H.out.1 n j e])
    have HOKC : Hid (∀ j, OkN (NC j)) := Lib.hid (fun j => by rw [HNC.out]; exact okN_clearL H.out.1 n j)
    have HN0 : Hid (NC 0 = N) := Lib.hid (by rw [HNC.out, clearL_zero])
    have HNE : Hid (∀ j, (NC j).ends = N.ends) := Lib.hid (fun j => by rw [HNC.out])
    have HCK : Hid (∀ j, clearK N.L n (j + 1) = clearK N.L n j + (N.L (j + 1, n)).length) := Lib.hid (fun j => rfl)
    have HC0 : Hid (clearK N.L n 0 = 0) := Lib.hid rfl
    have HCL : Hid (∀ j, clearK N.L n j ≤ 32 * j) := Lib.hid (fun j => clearK_le H.out.1 n j)
    have H32 := Lib.hid (fun p => H.out.1.full p)
    rw [← HNC.out]
    have HR0 : Hid (RefAt w T g (NC 0)) := Lib.hid (by rw [HN0.out]; exact H.out)
    generalize clearK N.L n = cK at *
    generalize N.ends = en at *
    clear H he hNC HNC HN0
    go_enter Try.func48, Try.ntmps48
    go_wp2_with fail
    go_loopw [5, 6] (fun s i wr => ∃ j : Nat, j ≤ en ∧ i = .int .i64 ((j + 1 : Nat) : Int) ∧ s = .int .i64 (cK j : Int) ∧ RefAt wr T g (NC j) ∧ Chg (fun k => k = g) w wr) (fun _ i _ => en + 1 - (intOf i).toNat)
    case atStart => exact ⟨0, Nat.zero_le _, rfl, by rw [HC0.out]; rfl, HR0.out, Chg.refl _ w⟩
    case round =>
      obtain ⟨j, hj, rfl, rfl, hR, hC⟩ := hrel
      have HR := Lib.hid hR
      have HC := Lib.hid hC
      have hce := hR.ends
      rw [HNE.out] at hce
      have hckl := HCL.out j
      clear hR hC HR0 HC0
      by_cases hlt : j < en
      · have hd : decide (((j + 1 : Nat) : Int) ≤ (en : Int)) = true := decide_eq_true (by omega)
        have KL := Lib.hid (Line_ref HR.out ((j : Int) + 1) (n : Int))
        rw [HL1.out j hlt] at KL
        have K2 := Lib.hid (two_ref HR.out ((j : Int) + 1) (n : Int))
        rw [HT1.out j hlt] at K2
        have HCj := Lib.hid (HCK.out j)
        have hln := H32.out (j + 1, n)
        generalize (N.L (j + 1, n)).length = ln at *
        by_cases hjn : j + 1 = n
        · rw [decide_eq_false (show ¬ j + 1 ≠ n from fun h => h hjn)] at K2
          have HSj := Lib.hid (HSF.out j hjn)
          clear hjn
          go_wp2_with fail
          refine KL.out.mono ?_
          rintro e w' ⟨rfl, rfl⟩
          go_wp2_with fail
          refine K2.out.mono ?_
          rintro e w' ⟨rfl, rfl⟩
          go_wp2_with fail
          exact ⟨⟨j + 1, by omega, by go_num, by rw [HCj.out]; go_num, by rw [HSj.out]; exact HR.out, HC.out⟩, by simp [intOf]; omega⟩
        · rw [decide_eq_true (show j + 1 ≠ n from hjn)] at K2
          obtain ⟨A, c, hcell, _⟩ := HR.out.line (m := j + 1) (n := n) (by omega) (by omega)
          obtain ⟨cs, hblk, _⟩ := HR.out.cellAt
          have hfr := hblk.frozen ((j + 1) * 6 + n)
          have HOKj : Hid (OkN { NC j with L := setL (NC j).L (j + 1, n) [] }) := Lib.hid (by rw [HST.out]; exact HOKC.out _)
          have HNX := Lib.hid (HR.out.stored (Ext.refl wr) (m := j + 1) (n := n) (by omega) (by omega) (v := .slice none 0 0) (l := []) (T' := T) ⟨none, 0, rfl, Nat.le_refl _, Nat.zero_le _, .inl rfl⟩ (fun k hk => hk) (fun k hk => .inl hk) HOKj.out)
          rw [HST.out] at HNX
          have HCX : Hid (Chg (fun k => k = g) wr (wr.setCell ⟨g, (j + 1) * 6 + n, none⟩ (.slice none 0 0))) := Lib.hid (Chg.of_grown (grown_set _ _ _) (fun r e => by cases e; rfl))
          generalize ((NC j).L (j + 1, n)).length = lx at *
          clear hblk hjn HOKj
          go_wp2_with fail
          refine KL.out.mono ?_
          rintro e w' ⟨rfl, rfl⟩
          go_wp2_with fail
          refine K2.out.mono ?_
          rintro e w' ⟨rfl, rfl⟩
          go_wp2_with fail
          exact ⟨⟨j + 1, by omega, by go_num, by rw [HCj.out]; go_num, HNX.out, HC.out.trans HCX.out (fun k h => .inl h)⟩, by simp [intOf]; omega⟩
      · obtain rfl : j = en := by omega
        have hd : decide (((j + 1 : Nat) : Int) ≤ (j : Int)) = false := decide_eq_false (by omega)
        go_wp2_with fail
        go_ret
        exact ⟨rfl, HR.out, HC.out⟩

end Go.Proofs.Ytahooohokdbnpaa
