
/-
  A net whose bytes lie outside some blocks; Send.
-/
import Derived.Test.YtahooohokdbnpaaRefR
set_option linter.unusedVariables false
set_option linter.unusedSimpArgs false
namespace Go.Proofs.Ytahooohokdbnpaa
open Go.RowKit Go.Shelf Go.Maps Pl

attribute [local go_sem] Oper.semAt_some

theorem row_det {w : World} {e : TypeId} {v : Value} {n : Nat} {xs ys : List Value} (h : w.ownsRow 0 e 1 v n xs) (k : w.ownsRow 0 e 1 v n ys) : xs = ys := by
  obtain ⟨h1, h2⟩ := h
  obtain ⟨k1, k2⟩ := k
  rcases h2 with ⟨rfl, hn⟩ | ⟨g, cap, cur, rfl, hb, hh, hnc, hcm, hcs, ht⟩
  · rw [List.eq_nil_of_length_eq_zero (l := xs) (by omega), List.eq_nil_of_length_eq_zero (l := ys) (by omega)]
  · rcases k2 with ⟨e2, hn⟩ | ⟨g', cap', cur', e2, hb', hh', _, _, _, ht'⟩
    · cases e2
    · cases e2
      rw [hh] at hh'
      cases hh'
      exact ht.symm.trans ht'
theorem row_chg {w w' : World} {e : TypeId} {v : Value} {n : Nat} {xs : List Value} {S : Nat → Prop} (h : w.ownsRow 0 e 1 v n xs) (hC : Chg S w w') (hv : ∀ k, v.ownBlock = some k → ¬ S k) : w'.ownsRow 0 e 1 v n xs := by
  obtain ⟨h1, h2⟩ := h
  refine ⟨h1, ?_⟩
  rcases h2 with h2 | ⟨g, cap, cur, rfl, hb, hh, r⟩
  · exact .inl h2
  · exact .inr ⟨g, cap, cur, rfl, hb, Chg.blk hC (t := e) hh (hv g rfl), r⟩
theorem Own.addr {e : TypeId} {w : World} {B : Nat} {A : Option Addr} {n c : Nat} {l : List UInt8} (h : Own e w B (.slice A n c) l) : ∀ p, A = some p → B ≤ p.block := by
  rintro p rfl
  obtain ⟨_, h2⟩ := h
  rcases h2 with ⟨e2, hn⟩ | ⟨g, cap, cur, e2, hb, _⟩
  · cases e2
  · cases e2; exact hb

/-- no bytes of the net's lines lie in blocks of X -/
def XOut (X : Nat → Prop) (w : World) (F : Lit → Option Value) (N : Nt) : Prop :=
  ∀ p, p ∈ linesOf N.ends → ∀ v, F (kl p) = some v → ∀ vs, w.ownsRow 0 36 1 v (N.L p).length vs → ∀ u ∈ vs, ∀ A n c, u = .slice (some A) n c → 0 < n → ¬ X A.block
def NetX (X : Nat → Prop) (w : World) (S : Nat → Prop) (g nb : Nat) (N : Nt) : Prop :=
  OkN N ∧ N.lost ≤ nb ∧ ∃ gm F c, Blk w g 75 #[.int .i64 (N.ends : Int), .map (some gm), .int .i64 (N.lost : Int)] ∧ Mp Try.prog 79 w gm nb F c ∧ LnsAt w S F N ∧ S g ∧ S gm ∧ (∀ k, S k → k = g ∨ k = gm ∨ ∃ cur, Blk w k 36 cur) ∧ XOut X w F N
section
variable {X S T : Nat → Prop} {w w' : World} {g nb : Nat} {N : Nt}
theorem NetX.at_ (h : NetX X w S g nb N) : NetAt w S g nb N := by
  obtain ⟨h0, hlo, gm, F, cc, hb, hm, hln, hs1, hs2, hk, hxo⟩ := h
  exact ⟨h0, hlo, gm, F, cc, hb, hm, hln, hs1, hs2, hk⟩
/-- what a net's bytes lie in has been there -/
theorem NetAt.fresh (h : NetAt w S g nb N) : NetX (fun k => w.heap.size ≤ k) w S g nb N := by
  obtain ⟨h0, hlo, gm, F, cc, hb, hm, hln, hs1, hs2, hk⟩ := h
  refine ⟨h0, hlo, gm, F, cc, hb, hm, hln, hs1, hs2, hk, fun p hp v hF vs hr u hu A n c e hn => ?_⟩
  rcases hln.here p hp with h1 | ⟨v', h1, ⟨vs', h2, h3⟩, _⟩
  · rw [h1.1] at hF; cases hF
  · rw [h1] at hF
    cases hF
    have := row_det hr h2
    subst this
    obtain ⟨i, hi, rfl⟩ := List.mem_iff_getElem.1 hu
    have hl := hr.1
    obtain ⟨A', c', e', _, _, h4⟩ := h3 i (by omega)
    rw [List.getD_eq_getElem?_getD, List.getElem?_eq_getElem hi] at e'
    have e2 : vs[i] = Value.slice A' ((N.L p).getD i []).length c' := e'
    rw [e2] at e
    cases e
    rcases h4 with h4 | ⟨g', o, cur, e3, hb', _⟩
    · rw [h4] at hn; simp at hn
    · cases e3
      have := hb'.lt
      show ¬ w.heap.size ≤ g'
      omega
theorem LnsAt.chgX {F : Lit → Option Value} (h : LnsAt w S F N) (hxo : XOut X w F N) (hC : Chg T w w') (hST : ∀ k, S k → ¬ T k) (hT : ∀ k cur, T k → Blk w k 5 cur → X k) : LnsAt w' S F N := by
  refine ⟨fun p hp => ?_, h.apart, h.none_⟩
  rcases h.here p hp with h1 | ⟨v, h1, ⟨vs, h2, h2'⟩, h3⟩
  · exact .inl h1
  · refine .inr ⟨v, h1, ⟨vs, row_chg h2 hC (fun k hk => hST k (h3 k hk)), fun i hi => ?_⟩, h3⟩
    obtain ⟨A, c, e, q1, q2, q3⟩ := h2' i hi
    refine ⟨A, c, e, q1, q2, ?_⟩
    rcases q3 with q3 | ⟨g', o, cur, rfl, hb, hc⟩
    · exact .inl q3
    · by_cases hl : (N.L p).getD i [] = []
      · exact .inl hl
      · refine .inr ⟨g', o, cur, rfl, hC.blk hb (fun ht => ?_), hc⟩
        have hx := hT g' cur ht hb
        have hil : i < vs.length := by have := h2.1; omega
        rw [List.getD_eq_getElem?_getD, List.getElem?_eq_getElem hil] at e
        exact hxo p hp v h1 vs h2 vs[i] (List.getElem_mem hil) ⟨g', o, none⟩ _ c e (List.length_pos_iff.2 hl) hx
theorem NetX.chg (h : NetX X w S g nb N) (hC : Chg T w w') (hST : ∀ k, S k → ¬ T k) (hT : ∀ k cur, T k → Blk w k 5 cur → X k) : NetX X w' S g nb N := by
  obtain ⟨h0, hlo, gm, F, c, hb, hm, hl, hs1, hs2, hk, hxo⟩ := h
  have hgm := hm.lt
  refine ⟨h0, hlo, gm, F, c, hC.blk hb (hST g hs1), ?_, hl.chgX hxo hC hST hT, hs1, hs2, fun k hs => ?_, fun p hp v hF vs hr u hu A n c e hn => ?_⟩
  · obtain ⟨D, h1, h2⟩ := hm
    obtain ⟨es, cl, hbb, r⟩ := h1
    exact ⟨D, ⟨es, cl, (hC.block gm hgm (hST gm hs2)).trans hbb, r⟩, h2⟩
  · rcases hk k hs with h1 | h1 | ⟨cur, h1⟩
    · exact .inl h1
    · exact .inr (.inl h1)
    · exact .inr (.inr ⟨cur, hC.blk h1 (hST k hs)⟩)
  · rcases hl.here p hp with h1 | ⟨v', h1, ⟨vs', h2, h3⟩, h4⟩
    · rw [h1.1] at hF; cases hF
    · rw [h1] at hF
      cases hF
      have := row_det hr (row_chg h2 hC (fun k hk => hST k (h4 k hk)))
      subst this
      exact hxo p hp v h1 vs h2 u hu A n c e hn
theorem NetX.ext (h : NetX X w S g nb N) (hE : Ext w w') : NetX X w' S g nb N := h.chg (T := fun _ => False) (Chg.of_ext hE) (fun _ _ h => h) (fun _ _ h => h.elim)
theorem NetX.wk {X' : Nat → Prop} (h : NetX X w S g nb N) (hX : ∀ k, X' k → X k) : NetX X' w S g nb N := by
  obtain ⟨h0, hlo, gm, F, c, hb, hm, hl, hs1, hs2, hk, hxo⟩ := h
  exact ⟨h0, hlo, gm, F, c, hb, hm, hl, hs1, hs2, hk, fun p hp v hF vs hr u hu A n c e hn hx => hxo p hp v hF vs hr u hu A n c e hn (hX _ hx)⟩
theorem NetX.mono (h : NetX X w S g nb N) {nb' : Nat} (hn : nb ≤ nb') : NetX X w S g nb' N := by
  obtain ⟨h0, hlo, gm, F, c, hb, hm, r⟩ := h
  exact ⟨h0, by omega, gm, F, c, hb, hm.mono hn, r⟩
/-- a cell of the net's own block is written -/
theorem NetX.lost1 (h : NetX X w S g nb N) :
    NetX X (w.setCell ⟨g, 2, none⟩ (.int .i64 ((N.lost : Int) + 1))) S g (nb + 1) { N with lost := N.lost + 1 } ∧ Chg S w (w.setCell ⟨g, 2, none⟩ (.int .i64 ((N.lost : Int) + 1))) := by
  have hsb := h.at_.bytes
  obtain ⟨h0, hlo, gm, F, cc, hb, hm, hln, hs1, hs2, hk, hxo⟩ := h
  have hg := grown_set w ⟨g, 2, none⟩ (.int .i64 ((N.lost : Int) + 1))
  have hC : Chg (fun k => k = g) w (w.setCell ⟨g, 2, none⟩ (.int .i64 ((N.lost : Int) + 1))) := Chg.of_grown hg (fun k e => by cases e; rfl)
  have hgne : gm ≠ g := fun e => by
    obtain ⟨es, cl, he⟩ := hm.map
    rw [e] at he
    unfold Blk at hb
    rw [hb] at he
    cases he
  have hrt : ∀ k cur, Blk w k 36 cur → ¬ k = g := fun k cur hx e => by rw [e] at hx; exact absurd (hx.type hb).1 (by decide)
  have hl2 := hln.chg2 hC (fun k cur e => by rw [e]; exact hsb g cur hs1) hrt
  refine ⟨⟨⟨h0.e1, h0.e5, h0.out, h0.self_, h0.full, h0.big⟩, Nat.succ_le_succ hlo, gm, F, cc, ?_, (hm.kept hg (by simpa using hgne)).mono (Nat.le_succ _), ⟨hl2.here, hl2.apart, hl2.none_⟩, hs1, hs2, fun k hs => ?_, fun p hp v hF vs hr u hu A n c e hn => ?_⟩, hC.mono (fun k e => by rw [e]; exact hs1)⟩
  · have := hb.set 2 (.int .i64 ((N.lost : Int) + 1))
    rw [show ((({ N with lost := N.lost + 1 } : Nt).lost : Nat) : Int) = (N.lost : Int) + 1 from Int.natCast_succ _]
    exact this
  · rcases hk k hs with h1 | h1 | ⟨cur, h1⟩
    · exact .inl h1
    · exact .inr (.inl h1)
    · exact .inr (.inr ⟨cur, hC.blk h1 (hrt k cur h1)⟩)
  · rcases hln.here p hp with h1 | ⟨v', h1, h2, h4⟩
    · rw [h1.1] at hF; cases hF
    · rw [h1] at hF
      cases hF
      have hkr : ∀ k, v.ownBlock = some k → ¬ k = g := fun k hk' => by
        obtain ⟨_, cur, hbk⟩ := h2.block hk'
        exact hrt k cur hbk
      obtain ⟨vs', h2, _⟩ := h2
      have := row_det hr (row_chg h2 hC hkr)
      subst this
      exact hxo p hp v h1 vs h2 u hu A n c e hn
end

set_option maxHeartbeats 4000000 in
set_option maxRecDepth 100000 in
theorem push_netX {X : Nat → Prop} {w : World} {S : Nat → Prop} {g nb : Nat} {N : Nt} (h : NetX X w S g nb N) (hXl : ∀ k, X k → k < w.heap.size) {a b : Nat} (hp : (a, b) ∈ linesOf N.ends) (hne : a ≠ b) (hf : (N.L (a, b)).length < 32) (hnb : nb < 1000000) {A : Option Addr} {c : Nat} {l : List UInt8} (hby : By w A l) (hll : l.length ≤ 1048576) :
    Calls Try.prog 44 #[.pointer (some ⟨g, 0, none⟩), .agg #[.int .i64 (a : Int), .int .i64 (b : Int)], .slice A l.length c] w fun e w' => (∃ v, e = .returned v) ∧ ∃ S', NetX X w' S' g (nb + 1) (pushN N (a, b) l) ∧ (∀ k, S' k → S k ∨ w.heap.size ≤ k) ∧ Chg S w w' := by
  have hsb := h.at_.bytes
  have hslt := h.at_.lt
  obtain ⟨h0, hlo, gm, F, cc, hb, hm, hln, hs1, hs2, hk, hxo⟩ := h
  have HXO := Lib.hid hxo
  have HXL := Lib.hid hXl
  clear hxo hXl
  obtain ⟨i1, i2, _, _, _⟩ := lines_small h0 hp
  have hkey := key_pair i1 i2
  have hgm := hm.lt
  have hgne : ¬ g = gm := fun e => by
    obtain ⟨es, cl, he⟩ := hm.map
    rw [← e] at he
    unfold Blk at hb
    rw [hb] at he
    cases he
  obtain ⟨v0, hv0⟩ : ∃ v0, v0 = (F (kl (a, b))).getD (.slice none 0 0) := ⟨_, rfl⟩
  have hold : Lin 36 5 w 0 v0 (N.L (a, b)) ∧ (∀ k, v0.ownBlock = some k → S k ∧ ∃ u, F (kl (a, b)) = some u ∧ u.ownBlock = some k) := by
    rcases hln.here _ hp with h1 | ⟨u, h1, h2, h3⟩
    · rw [hv0, h1.1, h1.2]; exact ⟨Lin.nil _ _ _ _, fun k hk => by cases hk⟩
    · rw [hv0, h1]; exact ⟨h2, fun k hk => ⟨h3 k hk, u, rfl, hk⟩⟩
  have hvm : ∀ k, v0.ownBlock = some k → ¬ k = gm ∧ ¬ k = g ∧ k < w.heap.size := fun k hk => by
    obtain ⟨_, cur, hbk⟩ := hold.1.block hk
    refine ⟨fun e => ?_, fun e => ?_, hbk.lt⟩
    · obtain ⟨es, cl, he⟩ := hm.map
      rw [← e] at he
      unfold Blk at hbk
      rw [hbk] at he
      cases he
    · rw [e] at hbk
      exact absurd (hbk.type hb).1 (by decide)
  have HT : Hid (¬ (g = gm ∨ v0.ownBlock = some g)) := Lib.hid (fun h => h.elim hgne (fun e => (hvm g e).2.1 rfl))
  have HTn : Hid (∀ k, w.heap.size ≤ k → ¬ (k = gm ∨ v0.ownBlock = some k)) := Lib.hid (fun k hk h => h.elim (fun e => by omega) (fun e => by have := (hvm k e).2.2; omega))
  have hc1 : w.cell? ⟨g, 1, none⟩ = some (.map (some gm)) := by rw [hb.cell]; rfl
  have hc1' := (ext_new w (.cells #[.int .i64 (a : Int), .int .i64 (b : Int)] 79)).cell hc1
  have HBx := Lib.hid (Blk.new w 79 #[.int .i64 (a : Int), .int .i64 (b : Int)])
  have KC := Lib.hid (fun W (hW : Ext w W) => clone8 W A l c (hby.ext hW) (by omega))
  have HX := Lib.hid (ext_new w (.cells #[.int .i64 (a : Int), .int .i64 (b : Int)] 79))
  have HM := Lib.hid hm
  have HV := Lib.hid hvm
  have HL := Lib.hid hln
  have HB := Lib.hid hb
  have HK := Lib.hid hk
  obtain ⟨i0, hi, hz0, hz1, hz2⟩ := info_parts Try.infoRow
  have HV0 : Hid ((F (klz (a : Int) (b : Int))).getD (.slice none 0 0) = v0) := Lib.hid hv0.symm
  obtain ⟨⟨vs, ho1, ho2⟩, ho3⟩ := hold
  have hvg : v0.ownBlock = none ∨ v0.ownBlock ≠ some gm := .inr (fun e => (hvm gm e).1 rfl)
  clear hb hm hln hk hvm hc1 hby hv0
  go_enter Try.func44, Try.ntmps44
  go_upto_region 1 with fail
  generalize w.alloc (.cells #[.int .i64 (a : Int), .int .i64 (b : Int)] 79) = w1 at *
  refine wp_eager (chg_pre (fun k => k = gm ∨ v0.ownBlock = some k)) (n := 13) (by kernel_rfl) (by kernel_rfl) ?_
  refine Eg.batchK (chg_pre (fun k => k = gm ∨ v0.ownBlock = some k)) (by intro c a d v w h; cases d <;> exact h) (by kernel_rfl) (n := 9) [0, 1, 2, 5] [] _ (by kernel_rfl) (fun K hK => ?_); (simp only [pickOps, List.getElem?_toArray, List.getElem?_cons_zero, List.getElem?_cons_succ, Option.toList_some, List.cons_append, List.nil_append]); (repeat (first | go_big_quiet_step (fail) | quiet_step (fail))); refine wpQuiet_nil (hK _ ?_); clear hK K
  (refine Eg.read (chg_pre (fun k => k = gm ∨ v0.ownBlock = some k)) (by intro c a d v w h; cases d <;> exact h) (by kernel_rfl) (i := 3) (n := 8) (l := [0, 1, 2, 5]) rfl (by kernel_rfl) (by kernel_rfl) rfl ⟨_, fun w' hR => load_run rfl (load_mapp (hR.cell (w := w1.drew) hc1' HT.out)), ?_⟩); (simp only [Act.put, List.setIfInBounds_toArray, List.getElem_toArray, List.getElem_cons_succ, List.getElem_cons_zero, List.set_cons_succ, List.set_cons_zero])
  (refine Eg.read (chg_pre (fun k => k = gm ∨ v0.ownBlock = some k)) (by intro c a d v w h; cases d <;> exact h) (by kernel_rfl) (i := 4) (n := 7) (l := [0, 1, 2, 5, 3]) rfl (by kernel_rfl) (by kernel_rfl) rfl ⟨_, fun w' hR => load_run rfl (load_pair (hR.blk (w := w1.drew) HBx.out (HTn.out _ (Nat.le_refl _)))), ?_⟩); (simp only [Act.put, List.setIfInBounds_toArray, List.getElem_toArray, List.getElem_cons_succ, List.getElem_cons_zero, List.set_cons_succ, List.set_cons_zero])
  refine Eg.act (chg_pre (fun k => k = gm ∨ v0.ownBlock = some k)) (i := 6) (n := 6) (l := [0, 1, 2, 5, 3, 4]) rfl (by kernel_rfl) ?_
  go_wp2_with fail
  refine (KC.out _ HX.out.drew).mono ?_
  rintro e w6 ⟨v, rfl, hO, hE6⟩
  obtain ⟨Av, cv, rfl, _, _, _⟩ := hO.form
  go_wp2_with fail
  refine ⟨Chg.of_ext hE6, ?_⟩
  refine Eg.act (chg_pre (fun k => k = gm ∨ v0.ownBlock = some k)) (i := 7) (n := 5) (l := [0, 1, 2, 5, 3, 4, 6]) rfl (by kernel_rfl) ?_
  go_wp2_with fail
  refine ⟨Chg.of_ext (ext_new _ _), ?_⟩
  have HOA := Lib.hid hO.addr
  have HX7 := Lib.hid ((HX.out.drew.trans hE6).trans (ext_new w6 (.cells #[.slice Av l.length cv] 36)))
  have HB7 := Lib.hid (Blk.new w6 36 #[.slice Av l.length cv])
  have HBs := Lib.hid ((Bs.of_own hO).ext (ext_new w6 (.cells #[.slice Av l.length cv] 36)))
  have hs67 : w.heap.size ≤ w6.heap.size := Nat.le_trans HX.out.size hE6.size
  clear hO hE6 KC
  generalize w6.alloc (.cells #[.slice Av l.length cv] 36) = w7 at *
  generalize w6.heap.size = g7 at *
  obtain ⟨st, es1, cl1, r1, r2, r3, r4⟩ := (HM.out.ext HX7.out).entry Try.pairLaw Try.underlying73 Try.lineZero (by unfold maxLen; omega) hkey
  rw [HV0.out] at r1
  have HR4 := Lib.hid r4
  clear r4
  refine Eg.act (chg_pre (fun k => k = gm ∨ v0.ownBlock = some k)) (i := 8) (n := 4) (l := [0, 1, 2, 5, 3, 4, 6, 7]) rfl (by kernel_rfl) ?_
  go_wp2_with fail
  refine ⟨Chg.of_grown r3 (fun k e => by cases e; exact .inl rfl), ?_⟩
  clear r1
  generalize Go.ChangeMaps.setBlock w7 gm (.map es1 cl1) = w8 at *
  have HOW := Lib.hid (World.ownsRow.kept (World.ownsRow.kept ho1 (row := none) ⟨Below.os HX7.out, Below.tape HX7.out, Below.output HX7.out, HX7.out.size, fun k hk _ => HX7.out.block hk⟩ (by cases v0.ownBlock <;> simp)) r3 hvg)
  have HB8 := Lib.hid (HB7.out.grown r3 (by simp; omega))
  have HNW : Hid (∀ j u, [Value.slice Av l.length cv][j]? = some u → w8.cell? ((⟨g7, 0, none⟩ : Addr).add j) = some u) := Lib.hid (blk_news HB8.out)
  have HR3 := Lib.hid r3
  have HR2 := Lib.hid r2
  clear r2 r3
  refine Eg.batchK (chg_pre (fun k => k = gm ∨ v0.ownBlock = some k)) (by intro c a d v w h; cases d <;> exact h) (by kernel_rfl) (n := 2) [9, 11] [0, 1, 2, 5, 3, 4, 6, 7, 8] _ (by kernel_rfl) (fun K hK => ?_); (simp only [pickOps, List.getElem?_toArray, List.getElem?_cons_zero, List.getElem?_cons_succ, Option.toList_some, List.cons_append, List.nil_append]); (repeat (first | go_big_quiet_step (fail) | quiet_step (fail))); refine wpQuiet_nil (hK _ ?_); clear hK K
  refine Eg.act (chg_pre (fun k => k = gm ∨ v0.ownBlock = some k)) (i := 10) (n := 1) (l := [0, 1, 2, 5, 3, 4, 6, 7, 8, 9, 11]) rfl (by kernel_rfl) ?_
  (refine wpList_append_own_at w8 rfl _ _ _ rfl 0 36 i0 (.slice none 0 0) 1 24 Try.underlying30 hi hz0 hz1 hz2 rfl (by omega) v0 (N.L (a, b)).length vs rfl HOW.out ⟨g7, 0, none⟩ 1 1 [.slice Av l.length cv] rfl rfl HNW.out one_slice (by unfold maxLen; omega) (by omega) (Nat.zero_le _) ?_; intro v1 w10 hown hG hnil hat)
  refine ⟨Chg.of_grown hG (fun k e => .inr e), ?_⟩
  obtain ⟨w12, s1, s2, s3⟩ := HR4.out w10 v1 ((hG.block gm (by have := HX7.out.size; have := HR3.out.size; omega) (fun e => (HV.out gm e.symm).1 rfl)).trans HR2.out)
  simp only [goInt] at s1
  refine Eg.act (chg_pre (fun k => k = gm ∨ v0.ownBlock = some k)) (i := 12) (n := 0) (l := [0, 1, 2, 5, 3, 4, 6, 7, 8, 9, 11, 10]) rfl (by kernel_rfl) ?_
  go_wp2_with fail
  refine ⟨Chg.of_grown s3 (fun k e => by cases e; exact .inl rfl), ?_⟩
  refine Eg.finish (by kernel_rfl) ?_
  go_wp2_with fail
  go_end0
  have hX := HX7.out
  have hgm8 : ∀ k, (some gm : Option Nat) = some k → (k = gm ∨ v0.ownBlock = some k) := fun k e => by cases e; exact .inl rfl
  have hC78 : Chg (fun k => k = gm ∨ v0.ownBlock = some k) w7 w8 := Chg.of_grown HR3.out hgm8
  have hC7 : Chg (fun k => k = gm ∨ v0.ownBlock = some k) w7 w12 := (hC78.trans (Chg.of_grown hG (fun k e => .inr e)) (fun k h => .inl h)).trans (Chg.of_grown s3 hgm8) (fun k h => .inl h)
  have hC : Chg (fun k => k = gm ∨ v0.ownBlock = some k) w w12 := (Chg.of_ext hX).trans hC7 (fun k h => .inl h)
  have hTb : ∀ k, (k = gm ∨ v0.ownBlock = some k) → ∀ cur, ¬ Blk w k 5 cur := fun k hk cur => hk.elim (fun e => hsb k cur (by rw [e]; exact hs2)) (fun e => hsb k cur (ho3 k e).1)
  have hTlt : ∀ k, (k = gm ∨ v0.ownBlock = some k) → k < w.heap.size := fun k hk => hk.elim (fun e => by omega) (fun e => (HV.out k e).2.2)
  have hTb7 : ∀ k cur, (k = gm ∨ v0.ownBlock = some k) → ¬ Blk w7 k 5 cur := fun k cur hk hb => hTb k hk cur ((hX.block (hTlt k hk)).symm.trans hb)
  have hvl : vs.length = (N.L (a, b)).length := by have := ho1.1; omega
  have hv1 : ∀ k, v1.ownBlock = some k → (v0.ownBlock = some k ∨ w.heap.size ≤ k) ∧ k ≠ gm := fun k e => by
    rcases hat with h1 | h1
    · rw [h1] at e; exact ⟨.inl e, (HV.out k e).1⟩
    · rw [h1] at e
      cases e
      have h7 := hX.size
      have h8 := hC78.size
      exact ⟨.inr (by omega), by omega⟩
  have hrow : w12.ownsRow 0 36 1 v1 (N.L (a, b) ++ [l]).length (vs ++ [.slice Av l.length cv]) := by
    rw [List.length_append]
    exact World.ownsRow.kept hown s3 (.inr (fun e => (hv1 gm e).2 rfl))
  have hlin : Lin 36 5 w12 0 v1 (N.L (a, b) ++ [l]) := by
    refine ⟨_, hrow, fun i hi => ?_⟩
    rw [List.length_append] at hi
    simp only [List.length_cons, List.length_nil] at hi
    by_cases hin : i < (N.L (a, b)).length
    · rw [getD_app_l _ _ _ _ (by omega), getD_app_l _ _ _ _ hin]
      exact (ho2 i hin).chg hC (fun k cur hk => hTb k hk cur)
    · obtain rfl : i = (N.L (a, b)).length := by omega
      rw [getD_app_at _ _ _ hvl.symm, getD_app_at _ _ _ rfl]
      exact HBs.out.chg hC7 hTb7
  have hrb : ∀ q u k, q ∈ linesOf N.ends → F (kl q) = some u → u.ownBlock = some k → k ≠ gm ∧ S k := fun q u k hq hF hk => by
    rcases HL.out.here q hq with h1 | ⟨u', h1, h2, h3⟩
    · rw [h1.1] at hF; cases hF
    · rw [h1] at hF
      cases hF
      obtain ⟨_, cur, hb⟩ := h2.block hk
      refine ⟨fun e => ?_, h3 k hk⟩
      obtain ⟨es, cl, he⟩ := HM.out.map
      rw [← e] at he
      unfold Blk at hb
      rw [hb] at he
      cases he
  have hTS : ∀ q u k, q ∈ linesOf N.ends → q ≠ (a, b) → F (kl q) = some u → u.ownBlock = some k → ¬ (k = gm ∨ v0.ownBlock = some k) := fun q u k hq hne' hF hk h => by
    rcases h with h | h
    · exact (hrb q u k hq hF hk).1 h
    · obtain ⟨u', hu', hk'⟩ := (ho3 k h).2
      exact HL.out.apart q (a, b) u u' k hq hp hne' hF hu' hk hk'
  refine ⟨⟨_, rfl⟩, fun k => (S k ∧ v0.ownBlock ≠ some k) ∨ v1.ownBlock = some k, ⟨okN_push h0 hp hne hf hll, Nat.le_succ_of_le hlo, gm, _, _, hC.blk HB.out HT.out, s2, ?_, ?_, ?_, ?_, ?_⟩, ?_, ?_⟩
  · refine HL.out.pushed h0 hp hC hTb hTS hlin (fun k hk => ?_) _ (fun q u k hq hne' hF hk => .inl ⟨(hrb q u k hq hF hk).2, fun e => hTS q u k hq hne' hF hk (.inr e)⟩) (fun k hk => .inr hk)
    rcases (hv1 k hk).1 with h1 | h1
    · exact .inl (ho3 k h1).2
    · exact .inr h1
  · exact .inl ⟨hs1, fun e => HT.out (.inr e)⟩
  · exact .inl ⟨hs2, fun e => (HV.out gm e).1 rfl⟩
  · rintro k (⟨h1, h2⟩ | h1)
    · rcases HK.out k h1 with h3 | h3 | ⟨cur, h3⟩
      · exact .inl h3
      · exact .inr (.inl h3)
      · by_cases e : k = gm
        · exact .inr (.inl e)
        · exact .inr (.inr ⟨cur, hC.blk h3 (fun h => h.elim e h2)⟩)
    · exact .inr (.inr (hlin.block h1).2)
  · intro q hq u hu xs hxs y hy A' n' c' e hn
    have hu : updF F (kl (a, b)) (some v1) (kl q) = some u := hu
    by_cases eq' : q = (a, b)
    · subst eq'
      rw [updF_same] at hu
      cases hu
      have hl' : (setL N.L (a, b) (N.L (a, b) ++ [l]) (a, b)) = N.L (a, b) ++ [l] := setL_same _ _ _
      have hxs' : w12.ownsRow 0 36 1 v1 (N.L (a, b) ++ [l]).length xs := by
        rw [← hl']; exact hxs
      have := row_det hxs' hrow
      subst this
      rcases List.mem_append.1 hy with hy | hy
      · rcases HL.out.here _ hp with g1 | ⟨u, g1, g2, _⟩
        · have hv0n := HV0.out
          rw [show F (klz (a : Int) (b : Int)) = none from g1.1] at hv0n
          subst hv0n
          rw [g1.2] at ho1
          have : vs = [] := List.eq_nil_of_length_eq_zero (by have := ho1.1; simpa using this)
          rw [this] at hy; cases hy
        · have hv0n := HV0.out
          rw [show F (klz (a : Int) (b : Int)) = some u from g1] at hv0n
          have : u = v0 := hv0n
          subst this
          exact HXO.out _ hp _ g1 _ ho1 y hy A' n' c' e hn
      · simp only [List.mem_singleton] at hy
        subst hy
        cases e
        intro hx
        have h1 : w1.heap.size ≤ A'.block := HOA.out A' rfl
        have h2 := HXL.out _ hx
        have h3 := HX.out.size
        omega
    · have hk' : kl q ≠ kl (a, b) := fun e' => eq' (kl_inj h0 hq hp e')
      rw [updF_other _ _ hk'] at hu
      have hl' : (setL N.L (a, b) (N.L (a, b) ++ [l]) q) = N.L q := setL_other _ _ eq'
      have hxs' : w12.ownsRow 0 36 1 u (N.L q).length xs := by
        rw [← hl']; exact hxs
      rcases HL.out.here q hq with g1 | ⟨u', g1, ⟨vs', g2, _⟩, _⟩
      · rw [g1.1] at hu; cases hu
      · rw [g1] at hu
        cases hu
        have hk12 : w12.ownsRow 0 36 1 u (N.L q).length vs' := row_chg g2 hC (fun k hk => hTS q u k hq eq' g1 hk)
        have := row_det hxs' hk12
        subst this
        exact HXO.out _ hq _ g1 _ g2 y hy A' n' c' e hn
  · rintro k (⟨h1, h2⟩ | h1)
    · exact .inl h1
    · rcases (hv1 k h1).1 with h3 | h3
      · exact .inl (ho3 k h3).1
      · exact .inr h3
  · exact hC.mono (fun k hk => hk.elim (fun e => by rw [e]; exact hs2) (fun e => (ho3 k e).1))

set_option maxHeartbeats 4000000 in
set_option maxRecDepth 100000 in
theorem Send_netX {X : Nat → Prop} {w : World} {S : Nat → Prop} {g nb : Nat} {N : Nt} (h : NetX X w S g nb N) (hXl : ∀ k, X k → k < w.heap.size) {a b : Int} (ha : I64 a) (hb' : I64 b) (hnb : nb < 1000000) {A : Option Addr} {c : Nat} {l : List UInt8} (hby : By w A l) (hc : l.length ≤ 9223372036854775807) :
    Calls Try.prog 21 #[.pointer (some ⟨g, 0, none⟩), .int .i64 a, .int .i64 b, .slice A l.length c] w fun e w' => e = .returned (.int .i64 (sendE N a b l.length : Int)) ∧ ∃ S', NetX X w' S' g (nb + 1) (sendN N a b l) ∧ (∀ k, S' k → S k ∨ w.heap.size ≤ k) ∧ Chg S w w' := by
  have KN := Lib.hid (none_net h.at_)
  have K1 := Lib.hid (isEnd_net h.at_ a)
  have K2 := Lib.hid (isEnd_net h.at_ b)
  have KL := Lib.hid (Line_net h.at_ ha hb')
  have H := Lib.hid h
  have HBY := Lib.hid hby
  have HS : Hid (sendE N a b l.length = if twoB N a b && decide (l.length ≤ 1048576) then (if 32 ≤ lineN N a b then 5 else 0) else 2) := Lib.hid rfl
  have HN : Hid (sendN N a b l = if sendE N a b l.length = 0 then pushN N (pr a b) l else if sendE N a b l.length = 5 then { N with lost := N.lost + 1 } else N) := Lib.hid rfl
  have HT : Hid (twoB N a b = (endB N a && endB N b && decide (a ≠ b))) := Lib.hid rfl
  have same : sendE N a b l.length = 2 → ∃ S', NetX X w S' g (nb + 1) (sendN N a b l) ∧ (∀ k, S' k → S k ∨ w.heap.size ≤ k) ∧ Chg S w w := fun e => by
    rw [HN.out, e]
    exact ⟨S, H.out.mono (Nat.le_succ _), fun k hk => .inl hk, Chg.refl S w⟩
  have SAME := Lib.hid same
  clear h hby same
  cases h1 : endB N a with
  | false =>
    have e2 : sendE N a b l.length = 2 := by rw [HS.out, HT.out, h1]; rfl
    rw [h1] at K1
    have S2 := Lib.hid (SAME.out e2)
    rw [e2]
    clear e2
    go_enter Try.func21, Try.ntmps21
    go_wp2_with fail
    refine KN.out.mono ?_
    rintro e w' ⟨rfl, rfl⟩
    go_wp2_with fail
    refine K1.out.mono ?_
    rintro e w' ⟨rfl, rfl⟩
    go_wp2_with fail
    go_ret
    exact ⟨rfl, S2.out⟩
  | true =>
  rw [h1] at K1
  cases h2 : endB N b with
  | false =>
    have e2 : sendE N a b l.length = 2 := by rw [HS.out, HT.out, h1, h2]; rfl
    rw [h2] at K2
    have S2 := Lib.hid (SAME.out e2)
    rw [e2]
    clear e2
    go_enter Try.func21, Try.ntmps21
    go_wp2_with fail
    refine KN.out.mono ?_
    rintro e w' ⟨rfl, rfl⟩
    go_wp2_with fail
    refine K1.out.mono ?_
    rintro e w' ⟨rfl, rfl⟩
    go_wp2_with fail
    refine K2.out.mono ?_
    rintro e w' ⟨rfl, rfl⟩
    go_wp2_with fail
    go_ret
    exact ⟨rfl, S2.out⟩
  | true =>
  rw [h2] at K2
  by_cases hab : a = b
  · have e2 : sendE N a b l.length = 2 := by rw [HS.out, HT.out, h1, h2, decide_eq_false (by simpa using hab)]; rfl
    have S2 := Lib.hid (SAME.out e2)
    rw [e2]
    have hd : (a == b) = true := by rw [beq_iff_eq]; exact hab
    clear e2 hab
    go_enter Try.func21, Try.ntmps21
    go_wp2_with fail
    refine KN.out.mono ?_
    rintro e w' ⟨rfl, rfl⟩
    go_wp2_with fail
    refine K1.out.mono ?_
    rintro e w' ⟨rfl, rfl⟩
    go_wp2_with fail
    refine K2.out.mono ?_
    rintro e w' ⟨rfl, rfl⟩
    go_wp2_with fail
    go_ret
    exact ⟨rfl, S2.out⟩
  · have hd : (a == b) = false := by rw [beq_eq_false_iff_ne]; exact hab
    have hdd : decide (a ≠ b) = true := decide_eq_true hab
    by_cases hlen : l.length ≤ 1048576
    · have hl : decide ((1048576 : Int) < (l.length : Int)) = false := decide_eq_false (by omega)
      have e3 : sendE N a b l.length = if 32 ≤ lineN N a b then 5 else 0 := by rw [HS.out, HT.out, h1, h2, hdd, decide_eq_true hlen]; rfl
      by_cases hfull : 32 ≤ lineN N a b
      · rw [if_pos hfull] at e3
        have hN := HN.out
        rw [e3] at hN
        simp only [Nat.reduceEqDiff, if_true, if_false] at hN
        rw [e3, hN]
        have hf : decide ((32 : Int) ≤ (lineN N a b : Int)) = true := decide_eq_true (by omega)
        obtain ⟨h0, hlo, gm, F, cc, hb, hm, hln, hs1, hs2, hk, hxo⟩ := H.out
        have hcl : w.cell? ⟨g, 2, none⟩ = some (.int .i64 (N.lost : Int)) := by rw [hb.cell]; rfl
        have hfr := hb.frozen 2
        have HL1 := Lib.hid H.out.lost1
        clear hN e3 hfull hlen hab HN HS HT SAME hb hm hln hk h0 hxo
        generalize lineN N a b = ln at *
        go_enter Try.func21, Try.ntmps21
        go_wp2_with fail
        refine KN.out.mono ?_
        rintro e w' ⟨rfl, rfl⟩
        go_wp2_with fail
        refine K1.out.mono ?_
        rintro e w' ⟨rfl, rfl⟩
        go_wp2_with fail
        refine K2.out.mono ?_
        rintro e w' ⟨rfl, rfl⟩
        go_wp2_with fail
        refine KL.out.mono ?_
        rintro e w' ⟨rfl, rfl⟩
        go_wp2_with fail
        go_ret
        exact ⟨rfl, S, HL1.out.1, fun k hk => .inl hk, HL1.out.2⟩
      · rw [if_neg hfull] at e3
        have hN := HN.out
        rw [e3] at hN
        simp only [if_true] at hN
        rw [e3, hN]
        have hf : decide ((32 : Int) ≤ (lineN N a b : Int)) = false := decide_eq_false (by omega)
        have i1 := (endB_iff N a).1 h1
        have i2 := (endB_iff N b).1 h2
        have hm := pr_mem h1 h2
        have hlf : (N.L (pr a b)).length < 32 := by
          have : lineN N a b = (N.L (pr a b)).length := by unfold lineN; rw [h1, h2]; rfl
          omega
        obtain ⟨m1, rfl⟩ : ∃ m : Nat, a = (m : Int) := ⟨a.toNat, by omega⟩
        obtain ⟨m2, rfl⟩ : ∃ m : Nat, b = (m : Int) := ⟨b.toNat, by omega⟩
        have KP := Lib.hid (push_netX (c := c) H.out hXl hm (by omega) hlf hnb HBY.out hlen)
        simp only [pr, Int.toNat_natCast] at KP ⊢
        clear hN e3 hfull hlen hab HN HS HT SAME hlf hm
        generalize lineN N m1 m2 = ln at *
        go_enter Try.func21, Try.ntmps21
        go_wp2_with fail
        refine KN.out.mono ?_
        rintro e w' ⟨rfl, rfl⟩
        go_wp2_with fail
        refine K1.out.mono ?_
        rintro e w' ⟨rfl, rfl⟩
        go_wp2_with fail
        refine K2.out.mono ?_
        rintro e w' ⟨rfl, rfl⟩
        go_wp2_with fail
        refine KL.out.mono ?_
        rintro e w' ⟨rfl, rfl⟩
        go_wp2_with fail
        refine KP.out.mono ?_
        rintro e w' ⟨⟨v, rfl⟩, hR⟩
        have HR := Lib.hid hR
        clear hR
        go_wp2_with fail
        go_ret
        exact ⟨rfl, HR.out⟩
    · have e2 : sendE N a b l.length = 2 := by rw [HS.out, HT.out, decide_eq_false hlen, Bool.and_false]; rfl
      have hl : decide ((1048576 : Int) < (l.length : Int)) = true := decide_eq_true (by omega)
      have S2 := Lib.hid (SAME.out e2)
      rw [e2]
      clear e2 hab hlen hdd
      go_enter Try.func21, Try.ntmps21
      go_wp2_with fail
      refine KN.out.mono ?_
      rintro e w' ⟨rfl, rfl⟩
      go_wp2_with fail
      refine K1.out.mono ?_
      rintro e w' ⟨rfl, rfl⟩
      go_wp2_with fail
      refine K2.out.mono ?_
      rintro e w' ⟨rfl, rfl⟩
      go_wp2_with fail
      go_ret
      exact ⟨rfl, S2.out⟩

end Go.Proofs.Ytahooohokdbnpaa
