
/-
  The law NetAdds, walked.
-/
import Derived.Test.YtahooohokdbnpaaAddsP
import Derived.Test.YtahooohokdbnpaaBagW
set_option linter.unusedVariables false
set_option linter.unusedSimpArgs false
namespace Go.Proofs.Ytahooohokdbnpaa
open Go.RowKit Go.Shelf Go.Maps Pl

attribute [local go_sem] Oper.semAt_some

/-- what is left comes behind what went out: both rows are alike -/
theorem Ad.last {w W wN : World} {S : Nat → Prop} {g nb : Nat} {N : Nt} {vi vo vN : Value} {ci co news : List Value} {fi fo F : List Fl} {len : Nat} (h : Ad w W S g nb N vi vo ci co fi fo)
    (hown : wN.ownsRow w.heap.size 45 3 vN (fo.length + len) (co ++ news)) (hcy : CyP (EB w W) news F) (hG : W.grownBy wN vo.ownBlock) (hlen : F.length = len) (hp : fi.Perm (fo ++ F)) (hl : fi.length ≤ 100000) :
    ∃ Ai ci' Ao co', vi = .slice Ai fi.length ci' ∧ vN = .slice Ao (fo.length + len) co' ∧ Calls Try.prog 28 #[.slice Ai fi.length ci', .slice Ao (fo.length + len) co'] wN (fun e w' => e = .returned (.bool true) ∧ Ext wN w') ∧ Ext w wN := by
  obtain ⟨h1, h2, h3, h4, h5, h6, h7, h8⟩ := h
  have hC : Chg (fun k => vo.ownBlock = some k) W wN := Chg.of_grown hG (fun k e => e)
  have hu8 : ∀ k cur, vo.ownBlock = some k → ¬ Blk W k 5 cur := fun k cur hk hx => by
    obtain ⟨cur', hf⟩ := row_blk h4 hk
    exact absurd (hf.type hx).1 (by decide)
  have hE : Ext w wN := h8.grown hG (fun k e => (World.ownsRow.lt h4 k e).1)
  have h2' : wN.ownsRow w.heap.size 45 3 vi fi.length ci := by
    rcases hvi : vi.ownBlock with _ | k
    · exact World.ownsRow.kept h2 hG (.inl hvi)
    · exact World.ownsRow.kept h2 hG (.inr (fun e => h6 k hvi (by rw [← e]; exact hvi)))
  have hlo : (fo ++ F).length = fo.length + len := by rw [List.length_append, hlen]
  obtain ⟨Ai, ci', hvi, hfi⟩ := row_flP h2' (h3.mono (fun A c l h => h.chg hC hu8))
  have hown' : wN.ownsRow w.heap.size 45 3 vN (fo ++ F).length (co ++ news) := by rw [hlo]; exact hown
  obtain ⟨Ao, co', hvo, hfo⟩ := row_flP hown' ((h5.app hcy).mono (fun A c l h => h.chg hC hu8))
  rw [hlo] at hvo
  exact ⟨Ai, ci', Ao, co', hvi, hvo, bag_any wN Ai Ao fi (fo ++ F) fi.length (fo.length + len) ci' co' rfl hlo.symm (hfi.mono (fun A c l h => h.by_ hE)) (hfo.mono (fun A c l h => h.by_ hE)) hp hl, hE⟩

set_option maxHeartbeats 8000000 in
set_option maxRecDepth 100000 in
theorem adds_any (w : World) (A : Option Addr) (fs : List Ac) (n c : Nat) (hn : n = fs.length) (hF : Acs w A fs) (hl : n ≤ 9223372036854775807) (hok : ∀ i, i < fs.length → I64 (fs.getD i ac0).a ∧ I64 (fs.getD i ac0).b) :
    Calls Try.prog 5 #[.slice A n c] w fun e w' => e = .returned (.bool true) ∧ Ext w w' := by
  have HOK := Lib.hid hok
  have HN := Lib.hid hn
  have HF := Lib.hid hF
  have KM := Lib.hid (fun W (hW : Ext w W) => muchN_any W A fs n c hn (hF.ext hW) hl)
  obtain ⟨i0, hi, hz0, hz1, hz2⟩ := info_parts Try.infoFl
  clear hF hok hn
  go_enter Try.func5, Try.ntmps5
  go_wp2_with fail
  refine (known_net w).mono ?_
  rintro e w0 ⟨rfl, hE0⟩
  have HE0 := Lib.hid hE0
  have KM := Lib.hid (KM.out w0 hE0)
  clear hE0
  go_wp2_with fail
  refine KM.out.mono ?_
  rintro e w1 ⟨mb, rfl, hmb, hE1⟩
  have HE1 := Lib.hid (HE0.out.trans hE1)
  have HMB := Lib.hid hmb
  clear hE1 hmb KM HE0
  cases mb with
  | true =>
    clear HMB
    go_wp2_with fail
    go_ret
    exact ⟨rfl, HE1.out⟩
  | false =>
  obtain ⟨hl60, hbl⟩ := HMB.out rfl
  rw [← HN.out] at hl60
  have HBL := Lib.hid hbl
  clear HMB hbl
  have KN := New_net w1 4 (by omega) (by omega)
  rw [show ((4 : Nat) : Int) = 4 from rfl] at KN
  have KN := Lib.hid KN
  go_wp2_with fail
  refine KN.out.mono ?_
  rintro e w2 ⟨S0, g, rfl, hN2, hS2, hE2⟩
  have HA2 : Hid (Ad w w2 S0 g 0 (newN 4) (.slice none 0 0) (.slice none 0 0) [] [] [] []) := Lib.hid ⟨hN2, World.ownsRow_nil _ _ _ _, CyP.nil _, World.ownsRow_nil _ _ _ _, CyP.nil _, fun k hk => (by cases hk), fun k hk => Nat.le_trans HE1.out.size (hS2 k hk), HE1.out.trans hE2⟩
  clear hN2 hS2 hE2 KN HE1
  go_wp2_with fail
  refine (num4_any _ _).mono ?_
  rintro e w' ⟨rfl, rfl⟩
  go_wp2_with fail
  go_loopw [5, 6, 7] (fun vi vo i wr => ∃ (k : Nat) (S : Nat → Prop) (N : Nt) (ci co : List Value) (fi fo : List Fl), k ≤ n ∧ i = .int .i64 (k : Int) ∧ Ad w wr S g k N vi vo ci co fi fo ∧ fi.Perm (fo ++ flN N) ∧ fi.length ≤ k) (fun _ _ i _ => n - (intOf i).toNat)
  case atStart => exact ⟨0, S0, newN 4, [], [], [], [], Nat.zero_le _, rfl, HA2.out, List.Perm.refl _, Nat.le_refl _⟩
  case round =>
    obtain ⟨k, S, N, ci, co, fi, fo, hk, rfl, hAd, hpm, hfi⟩ := hrel
    obtain ⟨wo, rfl⟩ : ∃ wo, wo = wr := ⟨_, rfl⟩
    have hfo : fo.length ≤ k := by have := hpm.length_eq; rw [List.length_append] at this; omega
    have HAD := Lib.hid hAd
    have HPM := Lib.hid hpm
    clear hAd hpm HA2
    by_cases hkn : k < n
    · have hd : decide ((k : Int) < (n : Int)) = true := decide_eq_true (by omega)
      have HEo := Lib.hid HAD.out.2.2.2.2.2.2.2
      obtain ⟨b, o, rfl, d0, d1, d2, Ai, cai, d3, hby⟩ := HF.out.at_ (i := k) (by have := HN.out; omega)
      have c0 := HEo.out.cell d0
      have c1 := HEo.out.cell d1
      have c2 := HEo.out.cell d2
      have c3 := HEo.out.cell d3
      obtain ⟨ok1, ok2⟩ := HOK.out k (by have := HN.out; omega)
      have ok3 := HBL.out k (by have := HN.out; omega)
      generalize fs.getD k ac0 = s at *
      obtain ⟨kd, za, zb, l⟩ := s
      simp only at *
      obtain ⟨ll, hll⟩ : ∃ ll, l.length = ll := ⟨_, rfl⟩
      have HLL := Lib.hid hll
      have HBY := Lib.hid hby
      rw [hll] at c3 ok3
      have HX1 := Lib.hid (ext_new wo (.cells #[.int .i64 kd, .int .i64 za, .int .i64 zb, .slice Ai ll cai] 38))
      have HB1 := Lib.hid (Blk.new wo 38 #[.int .i64 kd, .int .i64 za, .int .i64 zb, .slice Ai ll cai])
      have HA1 := Lib.hid (HAD.out.ext HX1.out)
      have KA := At_net HA1.out.1 za ok1
      have HTP := Lib.hid (fun h => take_perm (N := N) (z := za) h)
      have HTN : Hid (atE N za ≠ 0 → takeN N za = N) := Lib.hid (fun h => by unfold takeN; rw [if_neg h])
      have HDP := Lib.hid (double_perm HAD.out.1.1 za)
      have HIA := Lib.hid ok1
      have HIB := Lib.hid ok2
      have HDR := Lib.hid (fun W S nb (h : NetAt W S g nb N) (hnb : nb < 1000000) => Drop_net h za ok1 hnb)
      generalize atE N za = ez at *
      generalize atF N za = f at *
      obtain ⟨fa, ft, fb⟩ := f
      simp only at *
      have KA := Lib.hid KA
      clear d0 d1 d2 d3 hby hll ok1 ok2
      go_wp2_with fail
      refine KA.out.mono ?_
      rintro e w4 ⟨vb, rfl, hbs, hE4⟩
      obtain ⟨Ab, cb, rfl, _⟩ := id hbs
      have HX5 := Lib.hid (ext_new w4 (.cells #[.int .i64 (fa : Int), .int .i64 (ft : Int), .slice Ab fb.length cb] 45))
      have HBF := Lib.hid (Blk.new w4 45 #[.int .i64 (fa : Int), .int .i64 (ft : Int), .slice Ab fb.length cb])
      have HBA := Lib.hid (HB1.out.ext (hE4.trans HX5.out))
      have HA5 := Lib.hid (HA1.out.ext (hE4.trans HX5.out))
      have HBS := Lib.hid (hbs.ext HX5.out)
      clear hbs hE4 HX5 KA HA1 HX1 HB1 HAD HEo c0 c1 c2 c3
      go_upto_region 14 with fail
      generalize w4.alloc (.cells #[.int .i64 (fa : Int), .int .i64 (ft : Int), .slice Ab fb.length cb] 45) = w5 at *
      generalize w4.heap.size = bF at *
      generalize wo.heap.size = bA at *
      have HEw := Lib.hid HA5.out.2.2.2.2.2.2.2
      obtain ⟨x0, x1, x2, x3⟩ := cell4 HBA.out
      have HTA : Hid (∀ W S nb (N' : Nt) (h : NetAt W S g nb N') cur, Blk W bA 38 cur → ¬ S bA) := Lib.hid (fun W S nb N' h cur hb hs => h.typ (by decide) (by decide) _ _ hs hb)
      have HTF : Hid (∀ W S nb (N' : Nt) (h : NetAt W S g nb N') cur, Blk W bF 45 cur → ¬ S bF) := Lib.hid (fun W S nb N' h cur hb hs => h.typ (by decide) (by decide) _ _ hs hb)
      by_cases h1 : kd = 1
      · subst h1
        have KS := Send_net (c := cai) HA5.out.1 HIA.out HIB.out (by omega) (HBY.out.ext HEw.out) (by rw [HLL.out]; omega)
        have HSP := send_perm N za zb l
        rw [HLL.out] at KS HSP
        clear HTP HTN HDP HDR HTF HBF HBS
        by_cases hse : sendE N za zb ll = 0
        · rw [if_pos hse] at HSP
          obtain ⟨p, q, rfl, rfl, hsp⟩ := HSP
          rw [hse] at KS
          have KS := Lib.hid KS
          have HSP := Lib.hid hsp
          clear hsp hse
          go_wp2_with fail
          refine KS.out.mono ?_
          rintro e w6 ⟨rfl, S6, hN6, hG6, hC6⟩
          have HA6 := Lib.hid (HA5.out.net hN6 hG6 hC6)
          have HB6 := hC6.blk HBA.out (HTA.out _ _ _ _ HA5.out.1 _ HBA.out)
          obtain ⟨y0, y1, y2, y3⟩ := cell4 HB6
          have HE6 := Lib.hid (HA6.out.2.2.2.2.2.2.2.trans (ext_new w6 (.cells #[.int .i64 (p : Int), .int .i64 (q : Int), .slice Ai ll cai] 45)))
          have HOW := Lib.hid (World.ownsRow.alloc HA6.out.2.1 (.cells #[.int .i64 (p : Int), .int .i64 (q : Int), .slice Ai ll cai] 45))
          have HNW := Lib.hid (blk_news3 (Blk.new w6 45 #[.int .i64 (p : Int), .int .i64 (q : Int), .slice Ai ll cai]))
          have HPI := Lib.hid (fun v4 w4 => HA6.out.pushI (v4 := v4) (w4 := w4) ⟨p, q, l⟩ (Ab := Ai) (cb := cai) (.inl HBY.out))
          simp only [HLL.out] at HPI
          have HPM6 : Hid ((fi ++ [(⟨p, q, l⟩ : Fl)]).Perm (fo ++ flN (sendN N (p : Int) (q : Int) l))) := Lib.hid ((List.perm_append_comm (l₁ := fi) (l₂ := [(⟨p, q, l⟩ : Fl)])).trans (((HPM.out.cons _).trans List.perm_middle.symm).trans (HSP.out.symm.append_left fo)))
          clear hN6 hG6 hC6 KS HB6 x0 x1 x2 x3
          go_wp2_with fail
          refine (num4_any _ _).mono ?_
          rintro e w' ⟨rfl, rfl⟩
          go_wp2_with (at_builtin; refine wpList_append_own_at _ rfl _ _ _ rfl w.heap.size 45 i0 (.agg #[.int .i64 0, .int .i64 0, .slice none 0 0]) 3 40 Try.underlying41 hi hz0 hz1 hz2 rfl (by omega) _ fi.length ci rfl HOW.out ⟨w6.heap.size, 0, none⟩ 1 1 [.int .i64 (p : Int), .int .i64 (q : Int), .slice Ai ll cai] rfl rfl HNW.out (by intro u hu; simp at hu; rcases hu with rfl | rfl | rfl <;> rfl) (by unfold maxLen; omega) (by omega) (by have := HE6.out.size; omega) ?_; intro vN wN hownN hGN hnilN hatN; have HOWN := Lib.hid hownN; have HGN := Lib.hid hGN; have HATN := Lib.hid hatN; clear hownN hGN hnilN hatN)
          exact ⟨⟨k + 1, S6, sendN N (p : Int) (q : Int) l, _, co, fi ++ [⟨p, q, l⟩], fo, by omega, by go_num, (HPI.out vN wN HOWN.out HGN.out HATN.out).1, HPM6.out, by rw [List.length_append]; simp; omega⟩, by simp [intOf]; omega⟩
        · rw [if_neg hse] at HSP
          have hne : ((sendE N za zb ll : Int) == 0) = false := by rw [beq_eq_false_iff_ne]; omega
          generalize sendE N za zb ll = se at *
          have KS := Lib.hid KS
          have HSP := Lib.hid HSP
          clear hse
          go_wp2_with fail
          refine KS.out.mono ?_
          rintro e w6 ⟨rfl, S6, hN6, hG6, hC6⟩
          have HA6 := Lib.hid (HA5.out.net hN6 hG6 hC6)
          clear hN6 hG6 hC6 KS x0 x1 x2 x3
          go_wp2_with fail
          refine (num4_any _ _).mono ?_
          rintro e w' ⟨rfl, rfl⟩
          go_wp2_with fail
          exact ⟨⟨k + 1, S6, sendN N za zb l, ci, co, fi, fo, by omega, by go_num, HA6.out, by rw [HSP.out]; exact HPM.out, by omega⟩, by simp [intOf]; omega⟩
      by_cases h2 : kd = 2
      · subst h2
        clear HDP
        by_cases hez : ez = 0
        · subst hez
          have HTP := Lib.hid (HTP.out rfl)
          have HE6 := Lib.hid (HEw.out.trans (ext_new w5 (.cells #[.int .i64 (fa : Int), .int .i64 (ft : Int), .slice Ab fb.length cb] 45)))
          have HOW := Lib.hid (World.ownsRow.alloc HA5.out.2.2.2.1 (.cells #[.int .i64 (fa : Int), .int .i64 (ft : Int), .slice Ab fb.length cb] 45))
          have HNW := Lib.hid (blk_news3 (Blk.new w5 45 #[.int .i64 (fa : Int), .int .i64 (ft : Int), .slice Ab fb.length cb]))
          have HPI := Lib.hid (fun v4 w4 => HA5.out.swap.pushI (v4 := v4) (w4 := w4) ⟨fa, ft, fb⟩ (Ab := Ab) (cb := cb) (.inr HBS.out))
          have HPM6 : Hid (fi.Perm ((fo ++ [⟨fa, ft, fb⟩]) ++ flN (takeN N za))) := Lib.hid (by rw [List.append_assoc]; exact HPM.out.trans (HTP.out.append_left fo))
          have HRB := Lib.hid (fun k (hk : u6.ownBlock = some k) => row_blk HA5.out.2.2.2.1 hk)
          obtain ⟨z0, z1, z2⟩ := cell3 HBF.out
          simp only at HPI
          generalize fb.length = fbl at *
          clear HTN HTF
          go_wp2_with fail
          refine (num4_any _ _).mono ?_
          rintro e w' ⟨rfl, rfl⟩
          go_wp2_with (at_builtin; refine wpList_append_own_at _ rfl _ _ _ rfl w.heap.size 45 i0 (.agg #[.int .i64 0, .int .i64 0, .slice none 0 0]) 3 40 Try.underlying41 hi hz0 hz1 hz2 rfl (by omega) _ fo.length co rfl HOW.out ⟨w5.heap.size, 0, none⟩ 1 1 [.int .i64 (fa : Int), .int .i64 (ft : Int), .slice Ab fbl cb] rfl rfl HNW.out (by intro u hu; simp at hu; rcases hu with rfl | rfl | rfl <;> rfl) (by unfold maxLen; omega) (by omega) (by have := HE6.out.size; omega) ?_; intro vN wN hownN hGN hnilN hatN; have HOWN := Lib.hid hownN; have HGN := Lib.hid hGN; have HATN := Lib.hid hatN; clear hownN hGN hnilN hatN; have HAN := Lib.hid (HPI.out vN wN HOWN.out HGN.out HATN.out); have HAS := Lib.hid HAN.out.1.swap; have HBN := HAN.out.2.blk HBA.out (fun e => by
            obtain ⟨cur, hc⟩ := HRB.out _ e
            exact absurd (hc.type HBA.out).1 (by decide)); obtain ⟨y0, y1, y2, y3⟩ := cell4 HBN; have KD := Lib.hid (HDR.out _ _ _ HAS.out.1 (by omega)); clear x0 x1 x2 x3 z0 z1 z2 HBN HPI HOWN HGN HATN HOW HNW)
          refine KD.out.mono ?_
          rintro e w8 ⟨rfl, S8, hN8, hG8, hC8⟩
          have HA8 := Lib.hid (HAS.out.net hN8 hG8 hC8)
          clear hN8 hG8 hC8 KD y0 y1 y2 y3
          go_wp2_with fail
          refine (num4_any _ _).mono ?_
          rintro e w' ⟨rfl, rfl⟩
          go_wp2_with fail
          refine (num4_any _ _).mono ?_
          rintro e w' ⟨rfl, rfl⟩
          go_wp2_with fail
          exact ⟨⟨k + 1, S8, takeN N za, ci, _, fi, fo ++ [⟨fa, ft, fb⟩], by omega, by go_num, HA8.out, HPM6.out, by omega⟩, by simp [intOf]; omega⟩
        · have hne : ((ez : Int) == 0) = false := by rw [beq_eq_false_iff_ne]; omega
          have hnn : ((ez : Int) != (ez : Int)) = false := by simp
          have HTN := Lib.hid (HTN.out hez)
          have KD := Lib.hid (HDR.out _ _ _ HA5.out.1 (by omega))
          clear hez HTP HTF HBF HBS
          go_wp2_with fail
          refine (num4_any _ _).mono ?_
          rintro e w' ⟨rfl, rfl⟩
          go_wp2_with fail
          refine KD.out.mono ?_
          rintro e w8 ⟨rfl, S8, hN8, hG8, hC8⟩
          have HA8 := Lib.hid (HA5.out.net hN8 hG8 hC8)
          clear hN8 hG8 hC8 KD x0 x1 x2 x3
          go_wp2_with fail
          refine (num4_any _ _).mono ?_
          rintro e w' ⟨rfl, rfl⟩
          go_wp2_with fail
          refine (num4_any _ _).mono ?_
          rintro e w' ⟨rfl, rfl⟩
          go_wp2_with fail
          exact ⟨⟨k + 1, S8, takeN N za, ci, co, fi, fo, by omega, by go_num, HA8.out, by rw [HTN.out]; exact HPM.out, by omega⟩, by simp [intOf]; omega⟩
      by_cases h3 : kd = 3
      · subst h3
        clear HDP
        by_cases hez : ez = 0
        · subst hez
          have HTP := Lib.hid (HTP.out rfl)
          have HE6 := Lib.hid (HEw.out.trans (ext_new w5 (.cells #[.int .i64 (fa : Int), .int .i64 (ft : Int), .slice Ab fb.length cb] 45)))
          have HOW := Lib.hid (World.ownsRow.alloc HA5.out.2.2.2.1 (.cells #[.int .i64 (fa : Int), .int .i64 (ft : Int), .slice Ab fb.length cb] 45))
          have HNW := Lib.hid (blk_news3 (Blk.new w5 45 #[.int .i64 (fa : Int), .int .i64 (ft : Int), .slice Ab fb.length cb]))
          have HPI := Lib.hid (fun v4 w4 => HA5.out.swap.pushI (v4 := v4) (w4 := w4) ⟨fa, ft, fb⟩ (Ab := Ab) (cb := cb) (.inr HBS.out))
          have HPM6 : Hid (fi.Perm ((fo ++ [⟨fa, ft, fb⟩]) ++ flN (takeN N za))) := Lib.hid (by rw [List.append_assoc]; exact HPM.out.trans (HTP.out.append_left fo))
          have HRB := Lib.hid (fun k (hk : u6.ownBlock = some k) => row_blk HA5.out.2.2.2.1 hk)
          obtain ⟨z0, z1, z2⟩ := cell3 HBF.out
          simp only at HPI
          generalize fb.length = fbl at *
          clear HTN HTF
          go_wp2_with fail
          refine (num4_any _ _).mono ?_
          rintro e w' ⟨rfl, rfl⟩
          go_wp2_with (at_builtin; refine wpList_append_own_at _ rfl _ _ _ rfl w.heap.size 45 i0 (.agg #[.int .i64 0, .int .i64 0, .slice none 0 0]) 3 40 Try.underlying41 hi hz0 hz1 hz2 rfl (by omega) _ fo.length co rfl HOW.out ⟨w5.heap.size, 0, none⟩ 1 1 [.int .i64 (fa : Int), .int .i64 (ft : Int), .slice Ab fbl cb] rfl rfl HNW.out (by intro u hu; simp at hu; rcases hu with rfl | rfl | rfl <;> rfl) (by unfold maxLen; omega) (by omega) (by have := HE6.out.size; omega) ?_; intro vN wN hownN hGN hnilN hatN; have HOWN := Lib.hid hownN; have HGN := Lib.hid hGN; have HATN := Lib.hid hatN; clear hownN hGN hnilN hatN; have HAN := Lib.hid (HPI.out vN wN HOWN.out HGN.out HATN.out); have HAS := Lib.hid HAN.out.1.swap; have HBN := HAN.out.2.blk HBA.out (fun e => by
            obtain ⟨cur, hc⟩ := HRB.out _ e
            exact absurd (hc.type HBA.out).1 (by decide)); obtain ⟨y0, y1, y2, y3⟩ := cell4 HBN; have KD := Lib.hid (HDR.out _ _ _ HAS.out.1 (by omega)); clear x0 x1 x2 x3 z0 z1 z2 HBN HPI HOWN HGN HATN HOW HNW)
          refine KD.out.mono ?_
          rintro e w8 ⟨rfl, S8, hN8, hG8, hC8⟩
          have HA8 := Lib.hid (HAS.out.net hN8 hG8 hC8)
          clear hN8 hG8 hC8 KD y0 y1 y2 y3
          go_wp2_with fail
          refine (num4_any _ _).mono ?_
          rintro e w' ⟨rfl, rfl⟩
          go_wp2_with fail
          refine (num4_any _ _).mono ?_
          rintro e w' ⟨rfl, rfl⟩
          go_wp2_with fail
          exact ⟨⟨k + 1, S8, takeN N za, ci, _, fi, fo ++ [⟨fa, ft, fb⟩], by omega, by go_num, HA8.out, HPM6.out, by omega⟩, by simp [intOf]; omega⟩
        · have hne : ((ez : Int) == 0) = false := by rw [beq_eq_false_iff_ne]; omega
          have hnn : ((ez : Int) != (ez : Int)) = false := by simp
          have HTN := Lib.hid (HTN.out hez)
          have KD := Lib.hid (HDR.out _ _ _ HA5.out.1 (by omega))
          clear hez HTP HTF HBF HBS
          go_wp2_with fail
          refine (num4_any _ _).mono ?_
          rintro e w' ⟨rfl, rfl⟩
          go_wp2_with fail
          refine KD.out.mono ?_
          rintro e w8 ⟨rfl, S8, hN8, hG8, hC8⟩
          have HA8 := Lib.hid (HA5.out.net hN8 hG8 hC8)
          clear hN8 hG8 hC8 KD x0 x1 x2 x3
          go_wp2_with fail
          refine (num4_any _ _).mono ?_
          rintro e w' ⟨rfl, rfl⟩
          go_wp2_with fail
          refine (num4_any _ _).mono ?_
          rintro e w' ⟨rfl, rfl⟩
          go_wp2_with fail
          exact ⟨⟨k + 1, S8, takeN N za, ci, co, fi, fo, by omega, by go_num, HA8.out, by rw [HTN.out]; exact HPM.out, by omega⟩, by simp [intOf]; omega⟩
      by_cases h4 : kd = 4
      · subst h4
        have KD := Double_net HA5.out.1 za HIA.out (by omega)
        clear HTP HTN HDR
        by_cases hde : doubleE N za = 0
        · have HDP := HDP.out
          rw [if_pos hde] at HDP
          rw [hde] at KD
          have KD := Lib.hid KD
          have HDP := Lib.hid HDP.2
          clear hde
          go_wp2_with fail
          refine KD.out.mono ?_
          rintro e w6 ⟨rfl, S6, hN6, hG6, hC6⟩
          have HA6 := Lib.hid (HA5.out.net hN6 hG6 hC6)
          have HB6 := hC6.blk HBF.out (HTF.out _ _ _ _ HA5.out.1 _ HBF.out)
          have HBS6 := Lib.hid (HBS.out.chg hC6 HA5.out.1.bytes)
          obtain ⟨z0, z1, z2⟩ := cell3 HB6
          have HE6 := Lib.hid (HA6.out.2.2.2.2.2.2.2.trans (ext_new w6 (.cells #[.int .i64 (fa : Int), .int .i64 (ft : Int), .slice Ab fb.length cb] 45)))
          have HOW := Lib.hid (World.ownsRow.alloc HA6.out.2.1 (.cells #[.int .i64 (fa : Int), .int .i64 (ft : Int), .slice Ab fb.length cb] 45))
          have HNW := Lib.hid (blk_news3 (Blk.new w6 45 #[.int .i64 (fa : Int), .int .i64 (ft : Int), .slice Ab fb.length cb]))
          have HPI := Lib.hid (fun v4 w4 => HA6.out.pushI (v4 := v4) (w4 := w4) ⟨fa, ft, fb⟩ (Ab := Ab) (cb := cb) (.inr HBS6.out))
          simp only at HPI
          have HPM6 : Hid ((fi ++ [(⟨fa, ft, fb⟩ : Fl)]).Perm (fo ++ flN (doubleN N za))) := Lib.hid ((List.perm_append_comm (l₁ := fi) (l₂ := [(⟨fa, ft, fb⟩ : Fl)])).trans (((HPM.out.cons _).trans List.perm_middle.symm).trans (HDP.out.symm.append_left fo)))
          generalize fb.length = fbl at *
          clear hN6 hG6 hC6 KD HB6 x0 x1 x2 x3
          go_wp2_with fail
          refine (num4_any _ _).mono ?_
          rintro e w' ⟨rfl, rfl⟩
          go_wp2_with (at_builtin; refine wpList_append_own_at _ rfl _ _ _ rfl w.heap.size 45 i0 (.agg #[.int .i64 0, .int .i64 0, .slice none 0 0]) 3 40 Try.underlying41 hi hz0 hz1 hz2 rfl (by omega) _ fi.length ci rfl HOW.out ⟨w6.heap.size, 0, none⟩ 1 1 [.int .i64 (fa : Int), .int .i64 (ft : Int), .slice Ab fbl cb] rfl rfl HNW.out (by intro u hu; simp at hu; rcases hu with rfl | rfl | rfl <;> rfl) (by unfold maxLen; omega) (by omega) (by have := HE6.out.size; omega) ?_; intro vN wN hownN hGN hnilN hatN; have HOWN := Lib.hid hownN; have HGN := Lib.hid hGN; have HATN := Lib.hid hatN; clear hownN hGN hnilN hatN)
          exact ⟨⟨k + 1, S6, doubleN N za, _, co, fi ++ [⟨fa, ft, fb⟩], fo, by omega, by go_num, (HPI.out vN wN HOWN.out HGN.out HATN.out).1, HPM6.out, by rw [List.length_append]; simp; omega⟩, by simp [intOf]; omega⟩
        · have HD2 := HDP.out
          rw [if_neg hde] at HD2
          have HD2 := Lib.hid HD2
          clear HDP
          have hne : ((doubleE N za : Int) == 0) = false := by rw [beq_eq_false_iff_ne]; omega
          generalize doubleE N za = de at *
          have KD := Lib.hid KD
          clear hde
          go_wp2_with fail
          refine KD.out.mono ?_
          rintro e w6 ⟨rfl, S6, hN6, hG6, hC6⟩
          have HA6 := Lib.hid (HA5.out.net hN6 hG6 hC6)
          clear hN6 hG6 hC6 KD x0 x1 x2 x3
          go_wp2_with fail
          refine (num4_any _ _).mono ?_
          rintro e w' ⟨rfl, rfl⟩
          go_wp2_with fail
          exact ⟨⟨k + 1, S6, doubleN N za, ci, co, fi, fo, by omega, by go_num, HA6.out, by rw [HD2.out]; exact HPM.out, by omega⟩, by simp [intOf]; omega⟩
      by_cases h5 : kd = 5
      · subst h5
        obtain ⟨F, hF⟩ : ∃ F, flN N = F := ⟨_, rfl⟩
        obtain ⟨len, hlen⟩ : ∃ len, F.length = len := ⟨_, rfl⟩
        have hfl := flN_length HA5.out.1.1
        rw [hF, hlen] at hfl
        have HLN := Lib.hid hlen
        have KF := Lib.hid (flights_keep HA5.out.1 hF hlen)
        have HCP := clear_perm N za
        rw [hF] at HCP
        have HCP := Lib.hid HCP
        have HPM5 := HPM.out
        rw [hF] at HPM5
        have HPM5 := Lib.hid HPM5
        have HG0 : Hid (goneN (F.take 0) za = []) := Lib.hid rfl
        have HGS : Hid (∀ j, j < len → goneN (F.take (j + 1)) za = if ((F.getD j fl0).to_ : Int) = za then goneN (F.take j) za ++ [F.getD j fl0] else goneN (F.take j) za) := Lib.hid (fun j hj => goneN_snoc F za (by rw [hlen]; exact hj))
        have HGE : Hid (goneN (F.take len) za = goneN F za) := Lib.hid (by rw [← hlen, List.take_length])
        have HGB : Hid (∀ j, (goneN (F.take j) za).length ≤ j) := Lib.hid (fun j => by
          refine Nat.le_trans (List.length_filter_le _ _) ?_
          rw [List.length_take]
          exact Nat.min_le_left _ _)
        obtain ⟨on, hon⟩ : ∃ on : Nat → List Fl, on = fun j => goneN (F.take j) za := ⟨_, rfl⟩
        have HON : Hid (∀ j, goneN (F.take j) za = on j) := Lib.hid (fun j => by rw [hon])
        simp only [HON.out] at HG0 HGS HGE HGB
        clear hon HON hF hlen HTP HTN HDP HDR HBF HBS HTF
        go_wp2_with fail
        refine KF.out.mono ?_
        rintro e w6 ⟨A6, c6, rfl, hx6, hE6⟩
        clear x0 x1 x2 x3
        have HX6 := Lib.hid hx6
        have HA6 := Lib.hid (HA5.out.ext hE6)
        have HB6 := Lib.hid (HBA.out.ext hE6)
        have HV6 : Hid (∀ k, u6.ownBlock = some k → k < w5.heap.size ∨ w6.heap.size ≤ k) := Lib.hid (fun k hk => .inl (World.ownsRow.lt HA5.out.2.2.2.1 k hk).2)
        have HQ6 := Lib.hid (Chg.refl (fun k => k < w5.heap.size ∨ w6.heap.size ≤ k) w6)
        clear hx6 hE6 KF HBA HA5
        go_wp2_with fail
        go_loopw [6, 13] (fun v i wx => ∃ (j : Nat) (co' : List Value), j ≤ len ∧ i = .int .i64 (j : Int) ∧ Ad w wx S g k N u5 v ci co' fi (fo ++ on j) ∧ (∀ k, v.ownBlock = some k → k < w5.heap.size ∨ w6.heap.size ≤ k) ∧ Chg (fun k => k < w5.heap.size ∨ w6.heap.size ≤ k) w6 wx ∧ Blk wx bA 38 #[.int .i64 5, .int .i64 za, .int .i64 zb, .slice Ai ll cai]) (fun _ i _ => len - (intOf i).toNat)
        case atStart => exact ⟨0, co, Nat.zero_le _, rfl, by rw [HG0.out, List.append_nil]; exact HA6.out, HV6.out, HQ6.out, HB6.out⟩
        case round =>
          obtain ⟨j, co', hj, rfl, hA, hV, hQ, hB⟩ := hrel
          have HA := Lib.hid hA
          have HV := Lib.hid hV
          have HQ := Lib.hid hQ
          have HB := Lib.hid hB
          clear hA hV hQ hB HA6 HV6 HQ6 HB6
          by_cases hjl : j < len
          · have hdj : decide ((j : Int) < (len : Int)) = true := decide_eq_true (by omega)
            obtain ⟨gr, o1, Ab', cb', rfl, z0, z1, z2, hbs⟩ := (HX6.out _ wr HQ.out (fun k h => h)).at_ (i := j) (by have := HLN.out; omega)
            have hsj := HGS.out j hjl
            have hgb := HGB.out j
            have hll9 : (fo ++ on j).length ≤ 900 := by rw [List.length_append]; omega
            have x1 := (cell4 HB.out).2.1
            have HRB := Lib.hid (fun k hk => row_blk HA.out.2.2.2.1 (k := k) hk)
            have HLT := Lib.hid (World.ownsRow.lt HA.out.2.2.2.1)
            generalize F.getD j fl0 = fj at *
            obtain ⟨xa, xt, xb⟩ := fj
            simp only at *
            have HE7 := Lib.hid (HA.out.2.2.2.2.2.2.2.trans ((Ext.refl wr).drew.trans (ext_new wr.drew (.cells #[.int .i64 (xa : Int), .int .i64 (xt : Int), .slice Ab' xb.length cb'] 45))))
            have HAd := Lib.hid (HA.out.ext (Ext.refl wr).drew)
            have HOW := Lib.hid (World.ownsRow.alloc HAd.out.2.2.2.1 (.cells #[.int .i64 (xa : Int), .int .i64 (xt : Int), .slice Ab' xb.length cb'] 45))
            have HNW := Lib.hid (blk_news3 (Blk.new wr.drew 45 #[.int .i64 (xa : Int), .int .i64 (xt : Int), .slice Ab' xb.length cb']))
            have HPI := Lib.hid (fun v4 w4 => HAd.out.swap.pushI (v4 := v4) (w4 := w4) ⟨xa, xt, xb⟩ (Ab := Ab') (cb := cb') (.inr (hbs.ext (Ext.refl wr).drew)))
            simp only at HPI
            generalize xb.length = xbl at *
            have y0 : wr.drew.cell? ⟨gr, o1 + j * 3, none⟩ = some (.int .i64 (xa : Int)) := (Ext.refl wr).drew.cell z0
            have y1 : wr.drew.cell? ⟨gr, o1 + j * 3 + 1, none⟩ = some (.int .i64 (xt : Int)) := (Ext.refl wr).drew.cell z1
            have y2 : wr.drew.cell? ⟨gr, o1 + j * 3 + 2, none⟩ = some (.slice Ab' xbl cb') := (Ext.refl wr).drew.cell z2
            clear hbs z0 z2
            by_cases q1 : (xt : Int) = za
            · have g1 : ((xt : Int) == za) = true := by rw [beq_iff_eq]; exact q1
              rw [if_pos q1] at hsj
              have HSJ := Lib.hid hsj
              clear q1 hsj
              go_upto_region 32 with fail
              refine wp_eager Ext.pre (n := 8) (by kernel_rfl) (by kernel_rfl) ?_
              refine Eg.batchK Ext.pre (by intro c a d v w h; cases d <;> exact h) (by kernel_rfl) (n := 3) [0, 1, 2, 3, 5] [] _ (by kernel_rfl) (fun K hK => ?_); (simp only [pickOps, List.getElem?_toArray, List.getElem?_cons_zero, List.getElem?_cons_succ, Option.toList_some, List.cons_append, List.nil_append]); (repeat (first | go_big_quiet_step (fail) | quiet_step (fail))); refine wpQuiet_nil (hK _ ?_); clear hK K
              (refine Eg.read Ext.pre (by intro c a d v w h; cases d <;> exact h) (by kernel_rfl) (i := 4) (n := 2) (l := [0, 1, 2, 3, 5]) rfl (by kernel_rfl) (by kernel_rfl) rfl ⟨_, fun w' hR => load_run rfl (load_int (hR.cell (a := wr.drew) z1)), ?_⟩); (simp only [Act.put, List.setIfInBounds_toArray, List.getElem_toArray, List.getElem_cons_succ, List.getElem_cons_zero, List.set_cons_succ, List.set_cons_zero])
              (refine Eg.read Ext.pre (by intro c a d v w h; cases d <;> exact h) (by kernel_rfl) (i := 6) (n := 1) (l := [0, 1, 2, 3, 5, 4]) rfl (by kernel_rfl) (by kernel_rfl) rfl ⟨_, fun w' hR => load_run rfl (load_int (hR.cell (a := wr.drew) x1)), ?_⟩); (simp only [Act.put, List.setIfInBounds_toArray, List.getElem_toArray, List.getElem_cons_succ, List.getElem_cons_zero, List.set_cons_succ, List.set_cons_zero])
              refine Eg.batchK Ext.pre (by intro c a d v w h; cases d <;> exact h) (by kernel_rfl) (n := 0) [7] [0, 1, 2, 3, 5, 4, 6] _ (by kernel_rfl) (fun K hK => ?_); (simp only [pickOps, List.getElem?_toArray, List.getElem?_cons_zero, List.getElem?_cons_succ, Option.toList_some, List.cons_append, List.nil_append]); (repeat (first | go_big_quiet_step (fail) | quiet_step (fail))); refine wpQuiet_nil (hK _ ?_); clear hK K
              refine Eg.finish (by kernel_rfl) ?_
              have HQd := Lib.hid (HQ.out.trans (Chg.of_ext (S := fun k => k < w5.heap.size ∨ w6.heap.size ≤ k) (Ext.refl wr).drew) (fun k h => .inl h))
              have HBd := Lib.hid (HB.out.ext (Ext.refl wr).drew)
              have HWD : Hid (wr.heap.size ≤ wr.drew.heap.size) := Lib.hid (Ext.refl wr).drew.size
              generalize wr.drew = wd at *
              clear z1 x1
              go_wp2_with (at_builtin; refine wpList_append_own_at _ rfl _ _ _ rfl w.heap.size 45 i0 (.agg #[.int .i64 0, .int .i64 0, .slice none 0 0]) 3 40 Try.underlying41 hi hz0 hz1 hz2 rfl (by omega) _ (fo ++ on j).length co' rfl HOW.out ⟨wd.heap.size, 0, none⟩ 1 1 [.int .i64 (xa : Int), .int .i64 (xt : Int), .slice Ab' xbl cb'] rfl rfl HNW.out (by intro u hu; simp at hu; rcases hu with rfl | rfl | rfl <;> rfl) (by unfold maxLen; omega) (by omega) (by have := HE7.out.size; omega) ?_; intro vN wN hownN hGN hnilN hatN; have HOWN := Lib.hid hownN; have HGN := Lib.hid hGN; have HATN := Lib.hid hatN; clear hownN hGN hnilN hatN)
              have HVN : Hid (∀ k, vN.ownBlock = some k → k < w5.heap.size ∨ w6.heap.size ≤ k) := Lib.hid (fun k hk => HATN.out.elim (fun e => HV.out k (e.symm.trans hk)) (fun e => by
                rw [e] at hk
                cases hk
                exact .inr (Nat.le_trans HQ.out.size (Nat.le_trans HWD.out (by rw [World.size_alloc]; omega)))))
              have HQN := Lib.hid ((HQd.out.trans (HPI.out vN wN HOWN.out HGN.out HATN.out).2 (fun k hk => .inl (HV.out k hk))))
              have HBN := Lib.hid ((HPI.out vN wN HOWN.out HGN.out HATN.out).2.blk HBd.out (fun e => by
                obtain ⟨cur, hc⟩ := HRB.out _ e
                exact absurd (hc.type HB.out).1 (by decide)))
              exact ⟨⟨j + 1, _, by omega, by go_num, by rw [HSJ.out, ← List.append_assoc]; exact (HPI.out vN wN HOWN.out HGN.out HATN.out).1.swap, HVN.out, HQN.out, HBN.out⟩, by simp [intOf]; omega⟩
            · have g1 : ((xt : Int) == za) = false := by rw [beq_eq_false_iff_ne]; exact q1
              rw [if_neg q1] at hsj
              have HSJ := Lib.hid hsj
              clear q1 hsj HPI HOW HNW HE7
              go_upto_region 32 with fail
              refine wp_eager Ext.pre (n := 8) (by kernel_rfl) (by kernel_rfl) ?_
              refine Eg.batchK Ext.pre (by intro c a d v w h; cases d <;> exact h) (by kernel_rfl) (n := 3) [0, 1, 2, 3, 5] [] _ (by kernel_rfl) (fun K hK => ?_); (simp only [pickOps, List.getElem?_toArray, List.getElem?_cons_zero, List.getElem?_cons_succ, Option.toList_some, List.cons_append, List.nil_append]); (repeat (first | go_big_quiet_step (fail) | quiet_step (fail))); refine wpQuiet_nil (hK _ ?_); clear hK K
              (refine Eg.read Ext.pre (by intro c a d v w h; cases d <;> exact h) (by kernel_rfl) (i := 4) (n := 2) (l := [0, 1, 2, 3, 5]) rfl (by kernel_rfl) (by kernel_rfl) rfl ⟨_, fun w' hR => load_run rfl (load_int (hR.cell (a := wr.drew) z1)), ?_⟩); (simp only [Act.put, List.setIfInBounds_toArray, List.getElem_toArray, List.getElem_cons_succ, List.getElem_cons_zero, List.set_cons_succ, List.set_cons_zero])
              (refine Eg.read Ext.pre (by intro c a d v w h; cases d <;> exact h) (by kernel_rfl) (i := 6) (n := 1) (l := [0, 1, 2, 3, 5, 4]) rfl (by kernel_rfl) (by kernel_rfl) rfl ⟨_, fun w' hR => load_run rfl (load_int (hR.cell (a := wr.drew) x1)), ?_⟩); (simp only [Act.put, List.setIfInBounds_toArray, List.getElem_toArray, List.getElem_cons_succ, List.getElem_cons_zero, List.set_cons_succ, List.set_cons_zero])
              refine Eg.batchK Ext.pre (by intro c a d v w h; cases d <;> exact h) (by kernel_rfl) (n := 0) [7] [0, 1, 2, 3, 5, 4, 6] _ (by kernel_rfl) (fun K hK => ?_); (simp only [pickOps, List.getElem?_toArray, List.getElem?_cons_zero, List.getElem?_cons_succ, Option.toList_some, List.cons_append, List.nil_append]); (repeat (first | go_big_quiet_step (fail) | quiet_step (fail))); refine wpQuiet_nil (hK _ ?_); clear hK K
              refine Eg.finish (by kernel_rfl) ?_
              clear z1 x1 y0 y1 y2
              go_wp2_with fail
              exact ⟨⟨j + 1, co', by omega, by go_num, by rw [HSJ.out]; exact HAd.out, HV.out, HQ.out.trans (Chg.of_ext (S := fun k => k < w5.heap.size ∨ w6.heap.size ≤ k) (Ext.refl wr).drew) (fun k h => .inl h), HB.out.ext (Ext.refl wr).drew⟩, by simp [intOf]; omega⟩
          · obtain rfl : j = len := by omega
            have hdj : decide ((j : Int) < (j : Int)) = false := decide_eq_false (by omega)
            rw [HGE.out] at HA
            have x1 := (cell4 HB.out).2.1
            have KC := Lib.hid (Clear_net HA.out.1 za HIA.out)
            generalize clearC N za = gc at *
            go_wp2_with fail
            refine KC.out.mono ?_
            rintro e w8 ⟨rfl, hN8, hC8⟩
            have HA8 := Lib.hid (HA.out.net hN8 (fun k hk => .inl hk) hC8)
            clear hN8 hC8 KC x1
            go_wp2_with fail
            exact ⟨⟨k + 1, S, clearN N za, ci, co', fi, fo ++ goneN F za, by omega, by go_num, HA8.out.mono (by omega), by rw [List.append_assoc]; exact HPM5.out.trans (HCP.out.append_left fo), by omega⟩, by simp [intOf]; omega⟩
      have e1 : (kd == 1) = false := by rw [beq_eq_false_iff_ne]; exact h1
      have e2 : (kd == 2) = false := by rw [beq_eq_false_iff_ne]; exact h2
      have e3 : (kd == 3) = false := by rw [beq_eq_false_iff_ne]; exact h3
      have e4 : (kd == 4) = false := by rw [beq_eq_false_iff_ne]; exact h4
      have e5 : (kd == 5) = false := by rw [beq_eq_false_iff_ne]; exact h5
      clear h1 h2 h3 h4 h5
      go_wp2_with fail
      exact ⟨⟨k + 1, S, N, ci, co, fi, fo, by omega, by go_num, HA5.out.mono (by omega), HPM.out, by omega⟩, by simp [intOf]; omega⟩
    · obtain rfl : k = n := by omega
      have hd : decide ((k : Int) < (k : Int)) = false := decide_eq_false (by omega)
      obtain ⟨F, hF⟩ : ∃ F, flN N = F := ⟨_, rfl⟩
      obtain ⟨len, hlen⟩ : ∃ len, F.length = len := ⟨_, rfl⟩
      have hfl := flN_length HAD.out.1.1
      have HPM5 := HPM.out
      rw [hF, hlen] at hfl
      rw [hF] at HPM5
      have HPM5 := Lib.hid HPM5
      have HLN := Lib.hid hlen
      have KF := Lib.hid (flights_keep HAD.out.1 hF hlen)
      have HFIL : Hid (fi.length = fo.length + len) := Lib.hid (by have := HPM5.out.length_eq; rw [List.length_append, hlen] at this; exact this)
      clear hF hlen HPM
      go_wp2_with fail
      refine KF.out.mono ?_
      rintro e w6 ⟨A6, c6, rfl, hx6, hE6⟩
      have HX6 := Lib.hid (hx6.x (Ext.refl w6))
      have HA6 := Lib.hid (HAD.out.ext hE6)
      clear hx6 hE6 KF HAD
      obtain ⟨Ai6, ci6, hui, hfi6⟩ := row_flP HA6.out.2.1 HA6.out.2.2.1
      have HFI6 := Lib.hid hfi6
      have HOWo := Lib.hid HA6.out.2.2.2.1
      have hfo2 : fo.length ≤ 60 := by omega
      clear hfi6
      go_wp2_with (at_builtin; refine wpList_appendF rfl _ _ rfl rfl HOWo.out A6 len c6 rfl F (HX6.out.eb (w := w)) HLN.out.symm (by omega) (by have := HA6.out.2.2.2.2.2.2.2.size; omega) ?_; intro vN wN newsN hownN hcyN hGN hatN; have HEND := Lib.hid (HA6.out.last hownN hcyN hGN HLN.out HPM5.out (by omega)); obtain ⟨Ai7, ci7, Ao7, co7, hi7, ho7, hK7, hE7⟩ := HEND.out; subst hi7; subst ho7; have HK7 := Lib.hid hK7; have HE7 := Lib.hid hE7; clear hownN hcyN hGN hatN hK7 hE7)
      refine HK7.out.mono ?_
      rintro e w8 ⟨rfl, hE8⟩
      have HE8 := Lib.hid (HE7.out.trans hE8)
      clear hE8
      go_wp2_with fail
      go_ret
      exact ⟨rfl, HE8.out⟩

end Go.Proofs.Ytahooohokdbnpaa
