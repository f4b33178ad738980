
/-
  Contract of net.Copy: a range over a map.
-/
import Derived.Test.YtahooohokdbnpaaTwinA
import Derived.Maps.RangeWalk
set_option linter.unusedVariables false
set_option linter.unusedSimpArgs false
namespace Go.Proofs.Ytahooohokdbnpaa
open Go.RowKit Go.Shelf Go.Maps Pl

attribute [local go_sem] Oper.semAt_some

/-- the lines that are done, as the new map has them -/
structure CpAt (w : World) (B : Nat) (left : Lit → Bool) (F F' : Lit → Option Value) (N : Nt) : Prop where
  todo : ∀ l, left l = true → F' l = none
  done_ : ∀ p, p ∈ linesOf N.ends → left (kl p) = false → (F (kl p) = none ∧ F' (kl p) = none) ∨ ∃ v, F' (kl p) = some v ∧ Lin 36 5 w B v (N.L p)
  apart : ∀ p q v u k, p ∈ linesOf N.ends → q ∈ linesOf N.ends → p ≠ q → F' (kl p) = some v → F' (kl q) = some u → v.ownBlock = some k → u.ownBlock ≠ some k
  none_ : ∀ l v, F' l = some v → ∃ p, p ∈ linesOf N.ends ∧ l = kl p
  own : ∀ l v k, F' l = some v → v.ownBlock = some k → B ≤ k ∧ ∃ cur, Blk w k 36 cur
theorem CpAt.chg {w w' : World} {S : Nat → Prop} {B : Nat} {left : Lit → Bool} {F F' : Lit → Option Value} {N : Nt} (h : CpAt w B left F F' N) (hC : Chg S w w') (hS : ∀ k cur, S k → ¬ Blk w k 5 cur) (hS2 : ∀ k cur, S k → ¬ Blk w k 36 cur) : CpAt w' B left F F' N := by
  refine ⟨h.todo, fun p hp hl => ?_, h.apart, h.none_, fun l v k hF hk => ?_⟩
  · rcases h.done_ p hp hl with h1 | ⟨v, h1, h2⟩
    · exact .inl h1
    · exact .inr ⟨v, h1, h2.chg hC hS (fun k hk hs => by
        obtain ⟨_, cur, hb⟩ := h2.block hk
        exact hS2 k cur hs hb)⟩
  · obtain ⟨h1, cur, h2⟩ := h.own l v k hF hk
    exact ⟨h1, cur, hC.blk h2 (fun hs => hS2 k cur hs h2)⟩
theorem pair_fl (x y : Int) : (#[Value.int .i64 x, Value.int .i64 y] : Array Value).all (·.oneCell') = true := by simp [Value.oneCell']
theorem CpAt.step {w : World} {B M : Nat} {left : Lit → Bool} {F F' : Lit → Option Value} {N : Nt} (h : CpAt w B left F F' N) (hok : OkN N) {p : Nat × Nat} (hp : p ∈ linesOf N.ends) (hl : left (kl p) = true) (hself : (kl p).sameKey (kl p) = true) {v : Value}
    (hv : Lin 36 5 w M v (N.L p)) (hM : B ≤ M) (hold : ∀ l u k, F' l = some u → u.ownBlock = some k → k < M) : CpAt w B (fun z => left z && !z.sameKey (kl p)) F (updF F' (kl p) (some v)) N := by
  have hne : ∀ q, q ∈ linesOf N.ends → q ≠ p → kl q ≠ kl p := fun q hq hqp e => hqp (kl_inj hok hq hp e)
  refine ⟨fun l hl' => ?_, fun q hq hlq => ?_, fun a b u u' k ha hb hab hFa hFb hk => ?_, fun l u hF => ?_, fun l u k hF hk => ?_⟩
  · rw [Bool.and_eq_true] at hl'
    by_cases e : l = kl p
    · subst e
      rw [hself] at hl'
      exact absurd hl'.2 (by decide)
    · rw [updF_other _ _ e]
      exact h.todo l hl'.1
  · by_cases e : q = p
    · subst e
      exact .inr ⟨v, updF_same _ _ _, hv.down hM⟩
    · rw [updF_other _ _ (hne q hq e)]
      refine h.done_ q hq ?_
      cases hlk : left (kl q) with
      | false => rfl
      | true =>
        rw [hlk, Bool.true_and] at hlq
        have : (kl q).sameKey (kl p) = true := by cases hs : (kl q).sameKey (kl p) <;> simp_all
        exact absurd (Go.WideAt.sameKey_eq this) (hne q hq e)
  · by_cases e1 : a = p
    · have e2 : b ≠ p := fun e => hab (e1.trans e.symm)
      subst e1
      rw [updF_same] at hFa
      rw [updF_other _ _ (hne b hb e2)] at hFb
      cases hFa
      intro hk'
      have h1 := (hv.block hk).1
      have h2 := hold _ _ _ hFb hk'
      omega
    · rw [updF_other _ _ (hne a ha e1)] at hFa
      by_cases e2 : b = p
      · subst e2
        rw [updF_same] at hFb
        cases hFb
        intro hk'
        have h1 := (hv.block hk').1
        have h2 := hold _ _ _ hFa hk
        omega
      · rw [updF_other _ _ (hne b hb e2)] at hFb
        exact h.apart a b u u' k ha hb hab hFa hFb hk
  · by_cases e : l = kl p
    · exact ⟨p, hp, e⟩
    · rw [updF_other _ _ e] at hF
      exact h.none_ l u hF
  · by_cases e : l = kl p
    · subst e
      rw [updF_same] at hF
      cases hF
      obtain ⟨h1, h2⟩ := hv.block hk
      exact ⟨Nat.le_trans hM h1, h2⟩
    · rw [updF_other _ _ e] at hF
      exact h.own l u k hF hk
/-- all lines done: a net of its own -/
theorem CpAt.net {w : World} {B g gm nb n c : Nat} {left : Lit → Bool} {F F' : Lit → Option Value} {N : Nt} (h : CpAt w B left F F' N) (hok : OkN N) (hlo : N.lost ≤ nb) (hall : ∀ l, left l = false) (hF : ∀ p, p ∈ linesOf N.ends → F (kl p) = none → N.L p = [])
    (hb : Blk w g 75 #[.int .i64 (N.ends : Int), .map (some gm), .int .i64 (N.lost : Int)]) (hm : Mp Try.prog 79 w gm n F' c) (hn : n ≤ nb) (hg : B ≤ g) (hgm : B ≤ gm) :
    ∃ S', NetAt w S' g nb N ∧ ∀ k, S' k → B ≤ k := by
  refine ⟨fun k => k = g ∨ k = gm ∨ ∃ l v, F' l = some v ∧ v.ownBlock = some k, ⟨hok, hlo, gm, F', c, hb, hm.mono hn, ⟨fun p hp => ?_, h.apart, h.none_⟩, .inl rfl, .inr (.inl rfl), fun k hk => ?_⟩, fun k hk => ?_⟩
  · rcases h.done_ p hp (hall _) with ⟨h1, h2⟩ | ⟨v, h1, h2⟩
    · exact .inl ⟨h2, hF p hp h1⟩
    · exact .inr ⟨v, h1, h2.down (Nat.zero_le _), fun k hk => .inr (.inr ⟨_, v, h1, hk⟩)⟩
  · rcases hk with rfl | rfl | ⟨l, v, h1, h2⟩
    · exact .inl rfl
    · exact .inr (.inl rfl)
    · exact .inr (.inr (h.own l v k h1 h2).2)
  · rcases hk with rfl | rfl | ⟨l, v, h1, h2⟩
    · exact hg
    · exact hgm
    · exact (h.own l v k h1 h2).1
theorem load_npair {w : World} {p : Nat} {x y : Int} (h0 : w.cell? ⟨p, 0, none⟩ = some (.int .i64 x)) (h1 : w.cell? ⟨p, 1, none⟩ = some (.int .i64 y)) : (Instr.loadAt 79 (.pointer (some ⟨p, 0, none⟩))).run Try.prog w = .ok (.agg #[.int .i64 x, .int .i64 y]) w := by
  simp [go_sem, h0, h1, Try.underlying79]
theorem load_mapv {w : World} {p : Addr} {b : Nat} (h : w.cell? p = some (.map (some b))) : (Instr.loadAt 73 (.pointer (some p))).run Try.prog w = .ok (.map (some b)) w := by
  simp [go_sem, h]
theorem no_blk {w : World} {P : Program} {k : TypeId} {R : Value → Option (DataW Value × List MemPlace)} {b r n : Nat} {D : DataW Value} {left : Lit → Bool} {cnt : Nat} (h : w.ranges P k R b r n D left cnt) : ∀ t cur, ¬ Blk w r t cur := by
  obtain ⟨es, clock, since, seen, c0, hb, F, hs, hD, hr, rest⟩ := h
  intro t cur hx
  unfold Blk at hx
  rw [hx] at hr
  cases hr

set_option maxHeartbeats 4000000 in
set_option maxRecDepth 100000 in
theorem Copy_net {w : World} {S : Nat → Prop} {g nb : Nat} {N : Nt} (h : NetAt w S g nb N) (hnb : nb ≤ 100000) :
    Calls Try.prog 34 #[.pointer (some ⟨g, 0, none⟩)] w fun e w' => ∃ S' g', e = .returned (.pointer (some ⟨g', 0, none⟩)) ∧ NetAt w' S' g' nb N ∧ (∀ k, S' k → w.heap.size ≤ k) ∧ Ext w w' := by
  have KN := Lib.hid (none_net h)
  obtain ⟨h0, hlo, gm, F, c, hb, hm, hln, hs1, hs2, hk⟩ := id h
  have H0 := Lib.hid h0
  have HLO := Lib.hid hlo
  have HM := Lib.hid hm
  have HL := Lib.hid hln
  obtain ⟨x0, x1, x2⟩ := cell3 hb
  have hmm := @run_makeMap Try.prog
  obtain ⟨D, hD, hD1, hD2, hD3⟩ := id hm
  have HD := Lib.hid hD
  have HD1 := Lib.hid hD1
  have HD2 := Lib.hid hD2
  have HD3 := Lib.hid hD3
  have hcn : c ≤ nb := hm.count_le
  have HX1 := Lib.hid (ext_new w (.cells #[.int .i64 (N.ends : Int), .map (some gm), .int .i64 (N.lost : Int)] 75))
  have HB1 := Lib.hid (Blk.new w 75 #[.int .i64 (N.ends : Int), .map (some gm), .int .i64 (N.lost : Int)])
  have HBg := Lib.hid hb
  clear h h0 hlo hb hm hln hs1 hs2 hk hD hD1 hD2 hD3
  go_enter Try.func34, Try.ntmps34
  go_wp2_with fail
  refine KN.out.mono ?_
  rintro e w' ⟨rfl, rfl⟩
  have hzn : ∀ W, (zeroValue 75).run Try.prog W = .ok (.agg #[.int .i64 0, .map none, .int .i64 0]) W := fun W => by kernel_rfl
  go_upto_region 5 with fail
  obtain ⟨w2, hw2⟩ : ∃ w2, w2 = ((w.alloc (.cells #[.int .i64 (N.ends : Int), .map (some (w.heap.size + 1)), .int .i64 (N.lost : Int)] 75)).alloc (.map #[] 0)) := ⟨_, rfl⟩
  rw [← hw2]
  have hsz : w2.heap.size = w.heap.size + 2 := by rw [hw2]; simp
  have HE2 : Hid (Ext w w2) := Lib.hid (by rw [hw2]; exact ((Ext.refl w).alloc _).alloc _)
  have HG2 : Hid (Blk w2 w.heap.size 75 #[.int .i64 (N.ends : Int), .map (some (w.heap.size + 1)), .int .i64 (N.lost : Int)]) := Lib.hid (by rw [hw2]; exact (Blk.new w _ _).alloc _)
  have HM2 : Hid (Mp Try.prog 79 w2 (w.heap.size + 1) 0 (fun _ => none) 0) := Lib.hid (by
    rw [hw2]
    have h1 := Mp.made (w.alloc (.cells #[.int .i64 (N.ends : Int), .map (some (w.heap.size + 1)), .int .i64 (N.lost : Int)] 75)) Try.prog 79
    rw [World.size_alloc] at h1
    exact h1)
  have HD2w : Hid (w2.ownsMap Try.prog 79 heldR gm nb D) := Lib.hid (HD.out.kept (row := none) ⟨Below.os HE2.out, Below.tape HE2.out, Below.output HE2.out, HE2.out.size, fun i hi _ => HE2.out.block hi⟩ (by simp))
  have hgmlt := HM.out.lt
  have x1' := HE2.out.cell x1
  clear hw2 HB1 HX1 x0 x2 hzn x1 hmm
  go_wp2_with (first
    | (at_range; refine wpList_range_own _ rfl _ 73 rfl 79 30 Try.pairKeys Try.underlying73 heldR gm nb D rfl HD2w.out ?_; intro w3 hrg3 hg3 hs3)
    | fail)
  go_frame
  have HRG3 := Lib.hid hrg3
  have HE3 := Lib.hid (HE2.out.grown hg3 (fun k e => by cases e))
  have HG3 := Lib.hid (HG2.out.grown hg3 (by simp))
  have HM3 := Lib.hid (HM2.out.kept hg3 (by simp))
  rw [hsz]
  rw [hsz] at HRG3 hs3
  have hdone0 : ∀ p, p ∈ linesOf N.ends → Maps.has D (kl p) = false → F (kl p) = none := fun p hp hl => by
    cases hF : F (kl p) with
    | none => rfl
    | some v =>
      have h1 := Maps.has_true_of_atKey (HD1.out (kl p) v hF)
      rw [hl] at h1
      cases h1
  have HCP3 : Hid (CpAt w3 w.heap.size (Maps.has D) F (fun _ => none) N) := Lib.hid ⟨fun l _ => rfl, fun p hp hl => .inl ⟨hdone0 p hp hl, rfl⟩, fun p q v u k _ _ _ hF => (by cases hF), fun l v hF => (by cases hF), fun l v k hF => (by cases hF)⟩
  clear hdone0
  clear hrg3 hg3 HE2 HG2 HM2 HD2w x1'
  go_loopw [] (fun wr => ∃ left cnt F' c' n', wr.ranges Try.prog 79 heldR gm (w.heap.size + 2) nb D left cnt ∧ (∀ l, left l = true → Maps.has D l = true) ∧ Mp Try.prog 79 wr (w.heap.size + 1) n' F' c' ∧ n' + cnt ≤ nb ∧ CpAt wr w.heap.size left F F' N ∧
    Blk wr w.heap.size 75 #[.int .i64 (N.ends : Int), .map (some (w.heap.size + 1)), .int .i64 (N.lost : Int)] ∧ Ext w wr) (fun wr => wr.rangeLeft gm (w.heap.size + 2))
  case atStart => exact ⟨_, _, _, _, 0, HRG3.out, fun l h => h, HM3.out, by rw [HD3.out]; omega, HCP3.out, HG3.out, HE3.out⟩
  case round =>
    obtain ⟨left, cnt, F', c', n', hrg, hlD, hM, hnc, hCP, hG, hE⟩ := hrel
    have HRG := Lib.hid hrg
    have HLD := Lib.hid hlD
    have HMr := Lib.hid hM
    have HCP := Lib.hid hCP
    have HG := Lib.hid hG
    have HE := Lib.hid hE
    clear hrg hlD hM hCP hG hE HRG3 HM3 HCP3 HG3 HE3
    go_wp2_with (first
      | (at_next; refine wpList_next_ranges _ rfl _ rfl 79 Try.pairKeys heldR id id (fun key kl _ => ⟨key, rfl⟩) (fun v y _ => ⟨v, rfl⟩) gm (w.heap.size + 2) nb D left cnt rfl HRG.out ?_ ?_)
      | fail)
    · intro hc0 hl0
      have HL0 := Lib.hid hl0
      clear hl0
      go_wp2_with fail
      go_ret
      obtain ⟨S', hN', hS'⟩ := HCP.out.net H0.out HLO.out HL0.out (fun p hp hF => by
        rcases HL.out.here p hp with h1 | ⟨v, h1, _⟩
        · exact h1.2
        · rw [hF] at h1; cases h1) HG.out HMr.out (by omega) (Nat.le_refl _) (by omega)
      exact ⟨S', w.heap.size, rfl, hN', hS', HE.out⟩
    · intro x c0 kl0 y1 y2 w1 cnt1 hkx hlx hRx hat hrg1 hlt hg1 hs1 hen
      have hself : kl0.sameKey kl0 = true := Go.WideAt.sameKey_self (Try.pairKeys.key hkx)
      have hFx : F kl0 = some c0 := by
        cases hF : F kl0 with
        | none =>
          have h1 := HD2.out kl0 hF
          rw [HLD.out kl0 hlx] at h1
          cases h1
        | some v =>
          have h1 := HD1.out kl0 v hF (.held v)
          have h2 := hat (.held v)
          rw [h1] at h2
          simp only [heldR, id, Option.some.injEq, Prod.mk.injEq] at hRx
          rw [← hRx.1] at h2
          injection h2 with h3
          rw [h3]
      obtain ⟨p, hp, rfl⟩ := HL.out.none_ kl0 c0 hFx
      obtain ⟨i1, i2, _, _, _⟩ := lines_small H0.out hp
      obtain rfl : x = .agg #[.int .i64 (p.1 : Int), .int .i64 (p.2 : Int)] := Try.pairKeys.inj hkx (key_pair i1 i2)
      have hlin : Lin 36 5 w 0 c0 (N.L p) := by
        rcases HL.out.here p hp with h1 | ⟨v, h1, h2, _⟩
        · rw [hFx] at h1; cases h1.1
        · rw [hFx] at h1; cases h1; exact h2
      obtain ⟨A0, cc, rfl, hlc, _⟩ := hlin.form
      have hr0 := no_blk HRG.out
      have hC1 : Chg (fun k => k = w.heap.size + 2) wr w1 := Chg.of_grown hg1 (fun k e => by cases e; rfl)
      have HE1 := Lib.hid (HE.out.grown hg1 (fun k e => by cases e; omega))
      have HM1 := Lib.hid (HMr.out.kept hg1 (by simp))
      have HG1 := Lib.hid (HG.out.grown hg1 (by simp))
      have HCP1 := Lib.hid (HCP.out.chg hC1 (fun k cur e => by rw [e]; exact hr0 _ cur) (fun k cur e => by rw [e]; exact hr0 _ cur))
      have HRG1 := Lib.hid hrg1
      have HLX := Lib.hid hlin.lx
      have HP := Lib.hid hp
      have HLK := Lib.hid hlx
      have HSELF := Lib.hid hself
      have HFX := Lib.hid hFx
      have hkey := key_pair i1 i2
      have hkp : kl p = klz (p.1 : Int) (p.2 : Int) := rfl
      rw [← hkp] at hkey
      have hl32 := H0.out.full p
      have HLT := Lib.hid hlt
      have HLEFT := Lib.hid (HRG.out.left_eq)
      obtain ⟨ln, hlne⟩ : ∃ ln, (N.L p).length = ln := ⟨_, rfl⟩
      have HLNE := Lib.hid hlne
      rw [hlne] at hen hlc hl32
      clear hself hFx hkx hat hRx hrg1 hlt hlx hlin hp hr0 hC1 hg1 i1 i2 hlne hkp HRG HMr HG HCP HE HL
      obtain ⟨p1, p2⟩ := p
      simp only at hen hkey
      simp only [id] at hen ⊢
      have HXP := Lib.hid (ext_new w1 (.cells #[.int .i64 (p1 : Int), .int .i64 (p2 : Int)] 79))
      have HBP := Lib.hid (Blk.new w1 79 #[.int .i64 (p1 : Int), .int .i64 (p2 : Int)])
      go_upto_region 8 with fail
      rw [hs1] at HBP
      have HE4 := Lib.hid (HE1.out.trans HXP.out)
      have HM4 := Lib.hid (HM1.out.ext HXP.out)
      have HG4 := Lib.hid (HG1.out.ext HXP.out)
      have HCP4 := Lib.hid (HCP1.out.chg (S := fun _ => False) (Chg.of_ext HXP.out) (fun _ _ h => h.elim) (fun _ _ h => h.elim))
      have HRG4 := Lib.hid (HRG1.out.alloc (.cells #[.int .i64 (p1 : Int), .int .i64 (p2 : Int)] 79))
      have HBP4 := Lib.hid HBP.out
      have KC := Lib.hid (fun W (hW : Ext w W) => cloneL W A0 (N.L (p1, p2)) ln cc HLNE.out.symm (HLX.out.ext hW) (by rw [HLNE.out]; omega))
      have hwr : w.heap.size + 3 ≤ wr.heap.size := by have := (HRG1.out).lt; omega
      have hgne : ¬ w.heap.size = w.heap.size + 1 := by omega
      have hpne : ¬ wr.heap.size = w.heap.size + 1 := by omega
      have hn9 : n' < maxLen := by unfold maxLen; omega
      have g1 := (cell3 HG4.out).2.1
      have q0 : (w1.alloc (.cells #[.int .i64 (p1 : Int), .int .i64 (p2 : Int)] 79)).cell? ⟨wr.heap.size, 0, none⟩ = some (.int .i64 (p1 : Int)) := by rw [HBP4.out.cell]; rfl
      have q1 : (w1.alloc (.cells #[.int .i64 (p1 : Int), .int .i64 (p2 : Int)] 79)).cell? ⟨wr.heap.size, 1, none⟩ = some (.int .i64 (p2 : Int)) := by rw [HBP4.out.cell]; rfl
      clear hen HE1 HM1 HG1 HCP1 HRG1 HXP HBP HBP4 HLX
      generalize w1.alloc (.cells #[.int .i64 (p1 : Int), .int .i64 (p2 : Int)] 79) = w4 at *
      have HX : Ext w4 w4.drew := (Ext.refl w4).drew
      refine wp_eager (chg_pre (fun k => k = w.heap.size + 1)) (n := 6) (by kernel_rfl) (by kernel_rfl) ?_
      refine Eg.batchK (chg_pre (fun k => k = w.heap.size + 1)) (by intro c a d v w h; cases d <;> exact h) (by kernel_rfl) (n := 4) [0, 3] [] _ (by kernel_rfl) (fun K hK => ?_); (simp only [pickOps, List.getElem?_toArray, List.getElem?_cons_zero, List.getElem?_cons_succ, Option.toList_some, List.cons_append, List.nil_append]); (repeat (first | go_big_quiet_step (fail) | quiet_step (fail))); refine wpQuiet_nil (hK _ ?_); clear hK K
      (refine Eg.read (chg_pre (fun k => k = w.heap.size + 1)) (by intro c a d v w h; cases d <;> exact h) (by kernel_rfl) (i := 1) (n := 3) (l := [0, 3]) rfl (by kernel_rfl) (by kernel_rfl) rfl ⟨_, fun w' hR => load_run rfl (load_mapv (hR.cell (w := w4.drew) g1 hgne)), ?_⟩); (simp only [Act.put, List.setIfInBounds_toArray, List.getElem_toArray, List.getElem_cons_succ, List.getElem_cons_zero, List.set_cons_succ, List.set_cons_zero])
      (refine Eg.read (chg_pre (fun k => k = w.heap.size + 1)) (by intro c a d v w h; cases d <;> exact h) (by kernel_rfl) (i := 2) (n := 2) (l := [0, 3, 1]) rfl (by kernel_rfl) (by kernel_rfl) rfl ⟨_, fun w' hR => load_run rfl (load_npair (hR.cell (w := w4.drew) q0 hpne) (hR.cell (w := w4.drew) q1 hpne)), ?_⟩); (simp only [Act.put, List.setIfInBounds_toArray, List.getElem_toArray, List.getElem_cons_succ, List.getElem_cons_zero, List.set_cons_succ, List.set_cons_zero])
      refine Eg.act (chg_pre (fun k => k = w.heap.size + 1)) (i := 4) (n := 1) (l := [0, 3, 1, 2]) rfl (by kernel_rfl) ?_
      go_wp2_with fail
      refine (KC.out _ (HE4.out.trans HX)).mono ?_
      rintro e w5 ⟨v, rfl, hv, hE5⟩
      go_wp2_with fail
      refine ⟨Chg.of_ext hE5, ?_⟩
      have HV5 := Lib.hid hv
      have HX5 := Lib.hid (HX.trans hE5)
      have HM5 := Lib.hid ((HM4.out.ext HX).ext hE5)
      have HSD := Lib.hid HX.size
      clear hv hE5
      refine Eg.act (chg_pre (fun k => k = w.heap.size + 1)) (i := 5) (n := 0) (l := [0, 3, 1, 2, 4]) rfl (by kernel_rfl) ?_
      (refine wpList_store_mp HM5.out Try.pairKeys Try.underlying73 hn9 rfl _ _ _ rfl rfl rfl hkey v rfl ?_; intro w6 hM6 hg6)
      refine ⟨Chg.of_grown hg6 (fun k e => by cases e; rfl), ?_⟩
      simp only [Act.put, List.setIfInBounds_toArray, List.getElem_toArray, List.getElem_cons_succ, List.getElem_cons_zero, List.set_cons_succ, List.set_cons_zero]
      refine Eg.finish (by kernel_rfl) ?_
      have hgmx : ∀ t cur, ¬ Blk w5 (w.heap.size + 1) t cur := fun t cur hx => by
        obtain ⟨es, cl, he⟩ := HM5.out.map
        unfold Blk at hx
        rw [hx] at he
        cases he
      have hC6 : Chg (fun k => k = w.heap.size + 1) w5 w6 := Chg.of_grown hg6 (fun k e => by cases e; rfl)
      have HCP5 := HCP4.out.chg (S := fun _ => False) (Chg.of_ext HX5.out) (fun _ _ h => h.elim) (fun _ _ h => h.elim)
      have hold : ∀ l u k, F' l = some u → u.ownBlock = some k → k < w4.drew.heap.size := fun l u k hF hk => by
        obtain ⟨_, cur, hb⟩ := HCP4.out.own l u k hF hk
        exact Nat.lt_of_lt_of_le hb.lt HSD.out
      have HCP6 := Lib.hid ((HCP5.step H0.out HP.out HLK.out HSELF.out HV5.out (by have := HE4.out.size; have := HSD.out; omega) hold).chg hC6 (fun k cur e => by rw [e]; exact hgmx _ cur) (fun k cur e => by rw [e]; exact hgmx _ cur))
      have HE6 := Lib.hid ((HE4.out.trans HX5.out).grown hg6 (fun k e => by cases e; omega))
      have HG6 := Lib.hid ((HG4.out.ext HX5.out).grown hg6 (by simp))
      have hg5 : w4.grownBy w5 none := ⟨Below.os HX5.out, Below.tape HX5.out, Below.output HX5.out, HX5.out.size, fun i hi _ => HX5.out.block hi⟩
      have HRG6 := Lib.hid ((HRG4.out.kept hg5 (by simp) (by simp)).kept hg6 (fun e => by have := Option.some.inj e; omega) (fun e => by have := Option.some.inj e; omega))
      have HM6 := Lib.hid hM6
      have HLT2 : Hid (w6.rangeLeft gm (w.heap.size + 2) < wr.rangeLeft gm (w.heap.size + 2)) := Lib.hid (by rw [HRG6.out.left_eq, HLEFT.out]; exact HLT.out)
      have hlt2 := HLT.out
      clear hM6 hg6 hC6 hgmx HCP5 hold hg5 g1 q0 q1
      go_wp2_with fail
      exact ⟨⟨_, cnt1, _, _, n' + 1, HRG6.out, fun l h => HLD.out l (by rw [Bool.and_eq_true] at h; exact h.1), HM6.out, by omega, HCP6.out, HG6.out, HE6.out⟩, HLT2.out⟩

end Go.Proofs.Ytahooohokdbnpaa
