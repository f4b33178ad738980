
/-
  Contracts of net.At, Double.
-/
import Derived.Test.YtahooohokdbnpaaNetE
set_option linter.unusedVariables false
set_option linter.unusedSimpArgs false
namespace Go.Proofs.Ytahooohokdbnpaa
open Go.RowKit Go.Shelf Go.Maps Pl

attribute [local go_sem] Oper.semAt_some

theorem store_fl {w : World} {g : Nat} {a b : Int} {A A' : Option Addr} {n n' c c' : Nat} (h : Blk w g 45 #[.int .i64 a, .int .i64 b, .slice A n c]) : Blk (w.setCell ⟨g, 2, none⟩ (.slice A' n' c')) g 45 #[.int .i64 a, .int .i64 b, .slice A' n' c'] := h.set 2 (.slice A' n' c')
theorem Ext.bs {w w' : World} {v : Value} {l : List UInt8} {g : Nat} {t : TypeId} {cs : Array Value} (h : Bs 5 w v l) (hg : w.grownBy w' (some g)) (hb : Blk w g t cs) (ht : t ≠ 5) : Bs 5 w' v l :=
  h.kept (fun k cur hk => hk.grown hg (fun e => by cases e; exact ht (hb.type hk).1))

set_option maxHeartbeats 2000000 in
set_option maxRecDepth 100000 in
theorem At_net {w : World} {S : Nat → Prop} {g nb : Nat} {N : Nt} (h : NetAt w S g nb N) (z : Int) (hz : I64 z) :
    Calls Try.prog 24 #[.pointer (some ⟨g, 0, none⟩), .int .i64 z] w fun e w' => ∃ vb, e = .returned (.tuple #[.agg #[.int .i64 ((atF N z).from_ : Int), .int .i64 ((atF N z).to_ : Int), vb], .int .i64 (atE N z : Int)]) ∧ Bs 5 w' vb (atF N z).b ∧ Ext w w' := by
  have KF := Lib.hid (fun W (hW : Ext w W) => find_net (h.ext hW) z hz)
  have HAF : Hid (atE N z ≠ 0 → atF N z = fl0) := Lib.hid (fun h => by unfold atF; rw [if_neg h])
  have HBG : Hid (atE N z = 0 → (atF N z).b.length ≤ 1048576) := Lib.hid (fun h0 => (at_ok h.1 h0).2.2.1)
  have hzr : (zeroValue 45).run Try.prog w = .ok (.agg #[.int .i64 0, .int .i64 0, .slice none 0 0]) w := by kernel_rfl
  have HE1 := Lib.hid (ext_new w (.cells #[.int .i64 0, .int .i64 0, .slice none 0 0] 45))
  have HBr := Lib.hid (Blk.new w 45 #[.int .i64 0, .int .i64 0, .slice none 0 0])
  clear h
  go_enter Try.func24, Try.ntmps24
  go_wp2_with fail
  generalize w.alloc (.cells #[.int .i64 0, .int .i64 0, .slice none 0 0] 45) = w1 at *
  refine (KF.out w1 HE1.out).mono ?_
  rintro e w2 ⟨vb, rfl, hb, hE2⟩
  obtain ⟨Ab, cb, rfl, _⟩ := id hb
  have HBr2 := Lib.hid (HBr.out.ext hE2)
  have HE2 := Lib.hid (HE1.out.trans hE2)
  have HX := ext_new w2 (.cells #[.int .i64 ((atF N z).from_ : Int), .int .i64 ((atF N z).to_ : Int), .slice Ab (atF N z).b.length cb] 45)
  have HB3 := Lib.hid (Blk.new w2 45 #[.int .i64 ((atF N z).from_ : Int), .int .i64 ((atF N z).to_ : Int), .slice Ab (atF N z).b.length cb])
  have HBr3 := Lib.hid (HBr2.out.ext HX)
  have HE3 := Lib.hid (HE2.out.trans HX)
  have HBS := Lib.hid (hb.ext HX)
  have hlt := HBr2.out.lt
  clear HBr HE1 hb hE2 HX KF HBr2 HE2
  by_cases h0 : atE N z = 0
  · have hl := HBG.out h0
    rw [h0]
    generalize hffb : (atF N z).b = ffb at *
    generalize hffa : (atF N z).from_ = ffa at *
    generalize hfft : (atF N z).to_ = fft at *
    have HRES := Lib.hid (And.intro h0 (And.intro hffa (And.intro hfft hffb)))
    clear h0 HAF HBG hffa hfft hffb
    obtain ⟨A', c', e', hby, _, _⟩ := HBS.out.by_
    cases e'
    have hc2 := (cell3 HB3.out).2.2
    have KC := Lib.hid (clone8 _ Ab ffb cb hby (by omega))
    clear hby HBS
    go_upto_region 4 with fail
    generalize w2.alloc (.cells #[.int .i64 (ffa : Int), .int .i64 (fft : Int), .slice Ab ffb.length cb] 45) = w3 at *
    generalize w2.heap.size = bx at *
    go_wp2_with fail
    refine KC.out.mono ?_
    rintro e w4 ⟨v, rfl, hO, hE4⟩
    obtain ⟨Av, cv, rfl, _⟩ := hO.form
    have hB4 := HB3.out.ext hE4
    have c2 := (cell3 hB4).2.2
    have f2 := hB4.frozen 2
    have hB5 := store_fl (A' := Av) (n' := ffb.length) (c' := cv) hB4
    have HBr5 := Lib.hid ((HBr3.out.ext hE4).far (p := ⟨bx, 2, none⟩) (by show w.heap.size ≠ bx; omega) (.slice Av ffb.length cv))
    have HE5 := Lib.hid ((HE3.out.trans hE4).setCell (p := ⟨bx, 2, none⟩) (by show _ ≤ bx; omega) (.slice Av ffb.length cv))
    have HBS5 := Lib.hid (Ext.bs (Bs.of_own hO) (grown_set w4 ⟨bx, 2, none⟩ (.slice Av ffb.length cv)) hB4 (by decide))
    obtain ⟨c50, c51, c52⟩ := cell3 hB5
    clear hc2 KC HB3 HBr3 HE3 hO hE4
    go_wp2_with (refine wpList_store_row rfl 45 _ _ rfl _ _ rfl rfl _ _ HBr5.out (Try.flSize _ _ _) rfl (fl_one _ _ _ _ _) ?_)
    refine bodyPost_ret (v := .tuple #[.agg #[.int .i64 (ffa : Int), .int .i64 (fft : Int), .slice Av ffb.length cv], .int .i64 0]) (results_row2 Try.results24 _ _ w.heap.size _ #[.int .i64 (ffa : Int), .int .i64 (fft : Int), .slice Av ffb.length cv] (0, 0) _ rfl (Blk.row HBr5.out _) Try.underlying45 rfl (Try.flSize _ _ _)) rfl ?_
    rw [HRES.out.1, HRES.out.2.1, HRES.out.2.2.1, HRES.out.2.2.2]
    exact ⟨_, rfl, Ext.bs HBS5.out (grown_row _ _ _) HBr5.out (by decide), HE5.out.setRow (Nat.le_refl _) _⟩
  · have hf := HAF.out h0
    have hne : ((atE N z : Int) != 0) = true := by rw [bne_iff_ne]; omega
    rw [hf] at HBr3 HE3 HB3 HBS ⊢
    generalize hez : atE N z = ez at *
    have HRES := Lib.hid (And.intro hf hez)
    have hzr2 : ∀ W, (zeroValue 45).run Try.prog W = .ok (.agg #[.int .i64 0, .int .i64 0, .slice none 0 0]) W := fun W => by kernel_rfl
    clear h0 HAF HBG hf hez
    go_wp2_with (refine wpList_store_row rfl 45 _ _ rfl _ _ rfl rfl _ _ HBr3.out (Try.flSize _ _ _) rfl (fl_one _ _ _ _ _) ?_)
    refine bodyPost_ret (v := .tuple #[.agg #[.int .i64 0, .int .i64 0, .slice none 0 0], .int .i64 ez]) (results_row2 Try.results24 _ _ w.heap.size _ #[.int .i64 0, .int .i64 0, .slice none 0 0] (0, 0) _ rfl (Blk.row HBr3.out _) Try.underlying45 rfl (Try.flSize _ _ _)) rfl ?_
    rw [HRES.out.1, HRES.out.2]
    exact ⟨_, rfl, Bs.nil _ _ _ _ (Nat.zero_le _), HE3.out.setRow (Nat.le_refl _) _⟩

set_option maxHeartbeats 2000000 in
set_option maxRecDepth 100000 in
theorem Double_net {w : World} {S : Nat → Prop} {g nb : Nat} {N : Nt} (h : NetAt w S g nb N) (z : Int) (hz : I64 z) (hnb : nb < 1000000) :
    Calls Try.prog 25 #[.pointer (some ⟨g, 0, none⟩), .int .i64 z] w fun e w' => e = .returned (.int .i64 (doubleE N z : Int)) ∧ ∃ S', NetAt w' S' g (nb + 1) (doubleN N z) ∧ (∀ k, S' k → S k ∨ w.heap.size ≤ k) ∧ Chg S w w' := by
  have KF := Lib.hid (find_net h z hz)
  have H := Lib.hid h
  have HDE : Hid (doubleE N z = if atE N z = 0 then (if 32 ≤ (N.L (atF N z).line).length then 5 else 0) else atE N z) := Lib.hid rfl
  have HDN : Hid (doubleN N z = if doubleE N z = 0 then pushN N (atF N z).line (atF N z).b else N) := Lib.hid rfl
  have HOK : Hid (atE N z = 0 → (atF N z).line ∈ linesOf N.ends ∧ (atF N z).from_ ≠ (atF N z).to_ ∧ (atF N z).b.length ≤ 1048576 ∧ atK N z < (N.L (atF N z).line).length) := Lib.hid (fun h0 => at_ok h.1 h0)
  have HAE : Hid (atE N z ≤ 6) := Lib.hid (by unfold atE; split; omega; split <;> omega)
  clear h
  go_enter Try.func25, Try.ntmps25
  go_wp2_with fail
  refine KF.out.mono ?_
  rintro e w2 ⟨vb, rfl, hb, hE2⟩
  obtain ⟨Ab, cb, rfl, _⟩ := id hb
  have HX := ext_new w2 (.cells #[.int .i64 ((atF N z).from_ : Int), .int .i64 ((atF N z).to_ : Int), .slice Ab (atF N z).b.length cb] 45)
  have HB3 := Lib.hid (Blk.new w2 45 #[.int .i64 ((atF N z).from_ : Int), .int .i64 ((atF N z).to_ : Int), .slice Ab (atF N z).b.length cb])
  have HE3 := Lib.hid (hE2.trans HX)
  have HBS := Lib.hid (hb.ext HX)
  clear hb hE2 HX KF
  by_cases h0 : atE N z = 0
  · obtain ⟨o1, o2, o3, _⟩ := HOK.out h0
    have hde := HDE.out
    rw [if_pos h0] at hde
    rw [h0]
    have hdn := HDN.out
    rw [hde] at hdn
    clear h0 HOK HAE HDE HDN
    generalize hffb : (atF N z).b = ffb at *
    have hln : (atF N z).line = ((atF N z).from_, (atF N z).to_) := rfl
    rw [hln] at o1 hde hdn
    clear hln
    generalize hffa : (atF N z).from_ = ffa at *
    generalize hfft : (atF N z).to_ = fft at *
    obtain ⟨i1, i2, i3, i4, i5⟩ := lines_small H.out.1 o1
    have hlN : lineN N (ffa : Int) (fft : Int) = (N.L (ffa, fft)).length := by unfold lineN; rw [i3, i4, i5]; rfl
    have KL := Lib.hid (Line_net (H.out.ext HE3.out) i1 i2)
    rw [hlN] at KL
    obtain ⟨A', c', e', hby, _, _⟩ := HBS.out.by_
    cases e'
    have KP := Lib.hid (fun hf => push_net (c := cb) (H.out.ext HE3.out) o1 o2 hf hnb hby o3)
    obtain ⟨c50, c51, c52⟩ := cell3 HB3.out
    clear hby i1 i2 i3 i4 i5 hlN o1 hffa hfft hffb HBS HB3
    by_cases hfull : 32 ≤ (N.L (ffa, fft)).length
    · rw [if_pos hfull] at hde hdn
      simp only [Nat.reduceEqDiff, if_false] at hdn
      have HRES := Lib.hid (And.intro hde hdn)
      have hd : decide ((32 : Int) ≤ ((N.L (ffa, fft)).length : Int)) = true := decide_eq_true (by omega)
      generalize (N.L (ffa, fft)).length = ln at *
      clear hde hdn hfull KP
      go_upto_region 4 with fail
      generalize w2.alloc (.cells #[.int .i64 (ffa : Int), .int .i64 (fft : Int), .slice Ab ffb.length cb] 45) = w3 at *
      go_wp2_with fail
      refine KL.out.mono ?_
      rintro e w' ⟨rfl, rfl⟩
      go_wp2_with fail
      go_ret
      rw [HRES.out.1, HRES.out.2]
      exact ⟨rfl, S, (H.out.ext HE3.out).mono (Nat.le_succ _), fun k hk => .inl hk, Chg.of_ext HE3.out⟩
    · rw [if_neg hfull] at hde hdn
      simp only [if_true] at hdn
      have HRES := Lib.hid (And.intro hde hdn)
      have hd : decide ((32 : Int) ≤ ((N.L (ffa, fft)).length : Int)) = false := decide_eq_false (by omega)
      have KP2 := Lib.hid (KP.out (by omega))
      generalize (N.L (ffa, fft)).length = ln at *
      clear hde hdn hfull KP
      go_upto_region 4 with fail
      generalize w2.alloc (.cells #[.int .i64 (ffa : Int), .int .i64 (fft : Int), .slice Ab ffb.length cb] 45) = w3 at *
      go_wp2_with fail
      refine KL.out.mono ?_
      rintro e w' ⟨rfl, rfl⟩
      go_wp2_with fail
      refine KP2.out.mono ?_
      rintro e w' ⟨⟨v, rfl⟩, S', hN, hS, hC⟩
      have HN := Lib.hid hN
      have HS := Lib.hid hS
      have HC := Lib.hid hC
      clear hN hS hC
      go_wp2_with fail
      go_ret
      rw [HRES.out.1, HRES.out.2]
      exact ⟨rfl, S', HN.out, fun k hk => (HS.out k hk).elim .inl (fun h => .inr (Nat.le_trans HE3.out.size h)), (Chg.of_ext HE3.out).trans HC.out (fun k h => .inl h)⟩
  · have hne : ((atE N z : Int) != 0) = true := by rw [bne_iff_ne]; omega
    have hde := HDE.out
    rw [if_neg h0] at hde
    have hdn := HDN.out
    rw [if_neg (by rw [hde]; exact h0)] at hdn
    have HRES := Lib.hid (And.intro hde hdn)
    generalize hez : atE N z = ez at *
    have HEZ := Lib.hid hez
    clear h0 HOK HDE HDN hde hdn hez HBS HB3
    go_wp2_with fail
    go_ret
    rw [HRES.out.1, HRES.out.2]
    exact ⟨rfl, S, (H.out.ext HE3.out).mono (Nat.le_succ _), fun k hk => .inl hk, Chg.of_ext HE3.out⟩

end Go.Proofs.Ytahooohokdbnpaa
