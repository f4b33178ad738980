
/-
  Contracts of net.Take, Drop.
-/
import Derived.Test.YtahooohokdbnpaaNetG
set_option linter.unusedVariables false
set_option linter.unusedSimpArgs false
namespace Go.Proofs.Ytahooohokdbnpaa
open Go.RowKit Go.Shelf Go.Maps Pl

attribute [local go_sem] Oper.semAt_some

theorem erase_get {α : Type} (l : List α) (k i : Nat) (d : α) : (l.eraseIdx k).getD i d = if i < k then l.getD i d else l.getD (i + 1) d := by
  rw [List.getD_eq_getElem?_getD, List.getElem?_eraseIdx]
  split <;> rw [List.getD_eq_getElem?_getD]

/-- what stands in the map for a line that has a flight -/
theorem LnsAt.row {w : World} {S : Nat → Prop} {F : Lit → Option Value} {N : Nt} (hl : LnsAt w S F N) {p : Nat × Nat} (hp : p ∈ linesOf N.ends) (h0 : 0 < (N.L p).length) :
    ∃ gr cap cur vs, F (kl p) = some (.slice (some ⟨gr, 0, none⟩) (N.L p).length cap) ∧ Blk w gr 36 cur ∧ S gr ∧ (N.L p).length ≤ cap ∧ cap ≤ maxLen ∧ cur.size = cap ∧ cur.toList.take (N.L p).length = vs ∧ vs.length = (N.L p).length ∧ ∀ i, i < (N.L p).length → Bs 5 w (vs.getD i undef) ((N.L p).getD i []) := by
  rcases hl.here p hp with ⟨_, h2⟩ | ⟨v, h1, ⟨vs, ⟨hvl, h2⟩, hb⟩, hS⟩
  · rw [h2] at h0; simp at h0
  · rcases h2 with ⟨rfl, hn⟩ | ⟨gr, cap, cur, rfl, _, hh, hnc, hcm, hcs, ht⟩
    · omega
    · exact ⟨gr, cap, cur, vs, h1, hh, hS gr rfl, hnc, hcm, by omega, by rw [Nat.mul_one] at ht; exact ht, by omega, hb⟩
/-- a line without one of its flights -/
theorem lin_erased {w : World} {gr cap k : Nat} {cur : Array Value} {vs : List Value} {l : List (List UInt8)} (hb : Blk w gr 36 cur) (hnc : l.length ≤ cap) (hcm : cap ≤ maxLen) (hcs : cur.size = cap) (ht : cur.toList.take (l.length - 1) = vs.eraseIdx k) (hvl : vs.length = l.length) (hk : k < l.length)
    (hel : ∀ i, i < l.length → Bs 5 w (vs.getD i undef) (l.getD i [])) : Lin 36 5 w 0 (.slice (some ⟨gr, 0, none⟩) (l.length - 1) cap) (l.eraseIdx k) := by
  have h1 : (l.eraseIdx k).length = l.length - 1 := List.length_eraseIdx_of_lt hk
  refine ⟨vs.eraseIdx k, ⟨by rw [List.length_eraseIdx_of_lt (by omega), h1]; omega, .inr ⟨gr, cap, cur, by rw [h1], Nat.zero_le _, hb, by omega, hcm, by omega, by rw [h1, Nat.mul_one]; exact ht⟩⟩, fun i hi => ?_⟩
  rw [erase_get, erase_get]
  split
  · exact hel i (by omega)
  · exact hel (i + 1) (by omega)

theorem NetAt.far {w w' : World} {S : Nat → Prop} {g nb k : Nat} {N : Nt} (h : NetAt w S g nb N) (hg : w.grownBy w' (some k)) {t : TypeId} {cs : Array Value} (hb : Blk w k t cs) (h1 : t ≠ 75) (h2 : t ≠ 36) (h3 : t ≠ 5) : NetAt w' S g nb N :=
  h.chg (T := fun i => i = k) (Chg.of_grown hg (fun r e => by cases e; rfl)) (fun i hi e => h.typ h1 h2 i cs hi (by rw [e]; exact hb)) (fun i cur e hx => by rw [e] at hx; exact h3 (hb.type hx).1)

set_option maxHeartbeats 4000000 in
set_option maxRecDepth 100000 in
theorem Take_net {w : World} {S : Nat → Prop} {g nb : Nat} {N : Nt} (h : NetAt w S g nb N) (z : Int) (hz : I64 z) (hnb : nb < 1000000) :
    Calls Try.prog 17 #[.pointer (some ⟨g, 0, none⟩), .int .i64 z] w fun e w' => ∃ vb, e = .returned (.tuple #[.agg #[.int .i64 ((atF N z).from_ : Int), .int .i64 ((atF N z).to_ : Int), vb], .int .i64 (atE N z : Int)]) ∧ Bs 5 w' vb (atF N z).b ∧
      ∃ S', NetAt w' S' g (nb + 1) (takeN N z) ∧ (∀ k, S' k → S k ∨ w.heap.size ≤ k) ∧ Chg S w w' := by
  have KF := Lib.hid (fun W (hW : Ext w W) => find_net (h.ext hW) z hz)
  have H := Lib.hid h
  have HAF : Hid (atE N z ≠ 0 → atF N z = fl0) := Lib.hid (fun h => by unfold atF; rw [if_neg h])
  have HTK : Hid (takeN N z = if atE N z = 0 then delN N (atF N z).line (atK N z) else N) := Lib.hid rfl
  have HOK : Hid (atE N z = 0 → (atF N z).line ∈ linesOf N.ends ∧ (atF N z).from_ ≠ (atF N z).to_ ∧ (atF N z).b.length ≤ 1048576 ∧ atK N z < (N.L (atF N z).line).length) := Lib.hid (fun h0 => at_ok h.1 h0)
  have hzr : (zeroValue 45).run Try.prog w = .ok (.agg #[.int .i64 0, .int .i64 0, .slice none 0 0]) w := by kernel_rfl
  have HE1 := Lib.hid (ext_new w (.cells #[.int .i64 0, .int .i64 0, .slice none 0 0] 45))
  have HBr := Lib.hid (Blk.new w 45 #[.int .i64 0, .int .i64 0, .slice none 0 0])
  clear h
  go_enter Try.func17, Try.ntmps17
  go_wp2_with fail
  generalize w.alloc (.cells #[.int .i64 0, .int .i64 0, .slice none 0 0] 45) = w1 at *
  refine (KF.out w1 HE1.out).mono ?_
  rintro e w2 ⟨vb, rfl, hb, hE2⟩
  obtain ⟨Ab, cb, rfl, _⟩ := id hb
  have HBr2 := Lib.hid (HBr.out.ext hE2)
  have HE2 := Lib.hid (HE1.out.trans hE2)
  have HX := ext_new w2 (.cells #[.int .i64 ((atF N z).from_ : Int), .int .i64 ((atF N z).to_ : Int), .slice Ab (atF N z).b.length cb] 45)
  have HB3 := Lib.hid (Blk.new w2 45 #[.int .i64 ((atF N z).from_ : Int), .int .i64 ((atF N z).to_ : Int), .slice Ab (atF N z).b.length cb])
  have HBr3 := Lib.hid (HBr2.out.ext HX)
  have HE3 := Lib.hid (HE2.out.trans HX)
  have HBS := Lib.hid (hb.ext HX)
  have hlt := HBr2.out.lt
  clear HBr HE1 hb hE2 HX KF HBr2 HE2
  by_cases h0 : atE N z = 0
  · obtain ⟨o1, o2, o3, o4⟩ := HOK.out h0
    have htk := HTK.out
    rw [if_pos h0] at htk
    rw [h0]
    have hln : (atF N z).line = ((atF N z).from_, (atF N z).to_) := rfl
    rw [hln] at o1 o4 htk
    clear hln
    generalize hffb : (atF N z).b = ffb at *
    generalize hffa : (atF N z).from_ = ffa at *
    generalize hfft : (atF N z).to_ = fft at *
    generalize hak : atK N z = k at *
    have HRES := Lib.hid (And.intro h0 (And.intro hffa (And.intro hfft (And.intro hffb htk))))
    clear h0 HAF HTK HOK hffa hfft hffb htk hak
    obtain ⟨c50, c51, c52⟩ := cell3 HB3.out
    go_upto_region 5 with fail
    have hsz3 : (w2.alloc (.cells #[.int .i64 (ffa : Int), .int .i64 (fft : Int), .slice Ab ffb.length cb] 45)).heap.size = w2.heap.size + 1 := World.size_alloc _ _
    clear c50 c51 c52
    generalize w2.alloc (.cells #[.int .i64 (ffa : Int), .int .i64 (fft : Int), .slice Ab ffb.length cb] 45) = w3 at *
    have hX4 := ext_new w3 (.cells #[.int .i64 (ffa : Int), .int .i64 (fft : Int)] 79)
    have HBp := Lib.hid (Blk.new w3 79 #[.int .i64 (ffa : Int), .int .i64 (fft : Int)])
    rw [hsz3] at HBp
    have HB4 := Lib.hid (HB3.out.ext hX4)
    have HBr4 := Lib.hid (HBr3.out.ext hX4)
    have HE4 := Lib.hid (HE3.out.trans hX4)
    have HBS4 := Lib.hid (HBS.out.ext hX4)
    clear HB3 HBr3 HE3 HBS hX4 hsz3
    generalize w2.heap.size = bx at *
    generalize w3.alloc (.cells #[.int .i64 (ffa : Int), .int .i64 (fft : Int)] 79) = w4 at *
    have hN4 := H.out.ext HE4.out
    have hsb := hN4.bytes
    have htyF : ∀ k cur, S k → ¬ Blk w4 k 45 cur := hN4.typ (by decide) (by decide)
    have htyP : ∀ k cur, S k → ¬ Blk w4 k 79 cur := hN4.typ (by decide) (by decide)
    obtain ⟨h0, hlo, gm, F, cc, hb, hm, hln, hs1, hs2, hkk⟩ := hN4
    obtain ⟨gr, cap, cur, vs, hF, hrow, hSr, hnc, hcm, hcs, htk, hvl, hel⟩ := hln.row (p := (ffa, fft)) o1 (by omega)
    obtain ⟨i1, i2, i3, i4, i5⟩ := lines_small h0 o1
    have hkey := key_pair i1 i2
    have hnn32 := h0.full (ffa, fft)
    have hlk := hm.drew.look1 Try.pairKeys Try.underlying73 (Try.lineZero _) hkey
    rw [show F (klz (ffa : Int) (fft : Int)) = some (.slice (some ⟨gr, 0, none⟩) (N.L (ffa, fft)).length cap) from hF, Option.getD_some] at hlk
    have hrm : gr ≠ gm := fun e => by
      obtain ⟨es, cl, he⟩ := hm.map
      rw [← e] at he
      unfold Blk at hrow
      rw [hrow] at he
      cases he
    have hgm : g ≠ gm := fun e => by
      obtain ⟨es, cl, he⟩ := hm.map
      rw [← e] at he
      unfold Blk at hb
      rw [hb] at he
      cases he
    have hgr : g ≠ gr := fun e => by rw [e] at hb; exact absurd (hb.type hrow).1 (by decide)
    have HTg : Hid (¬ (g = gm ∨ g = gr)) := Lib.hid (fun h => h.elim hgm hgr)
    have HTS : Hid (∀ j, (j = gm ∨ j = gr) → S j) := Lib.hid (fun j hj => hj.elim (fun e => by rw [e]; exact hs2) (fun e => by rw [e]; exact hSr))
    have HTp : Hid (¬ (bx + 1 = gm ∨ bx + 1 = gr)) := Lib.hid (fun h => htyP _ _ (HTS.out _ h) HBp.out)
    have HTx : Hid (¬ (bx = gm ∨ bx = gr)) := Lib.hid (fun h => htyF _ _ (HTS.out _ h) HB4.out)
    have HTr : Hid (¬ (w.heap.size = gm ∨ w.heap.size = gr)) := Lib.hid (fun h => htyF _ _ (HTS.out _ h) HBr4.out)
    have hc1 : w4.drew.cell? ⟨g, 1, none⟩ = some (.map (some gm)) := by show w4.cell? _ = _; rw [hb.cell]; rfl
    subst hcs
    have hsl : ∀ v ∈ cur.toList.take (N.L (ffa, fft)).length, ∃ A m k, v = .slice A m k := fun v hv => by
      rw [htk] at hv
      obtain ⟨i, hi, rfl⟩ := List.mem_iff_getElem.1 hv
      obtain ⟨A, c, e, _⟩ := hel i (by omega)
      rw [List.getD_eq_getElem?_getD, List.getElem?_eq_getElem hi] at e
      exact ⟨_, _, _, e⟩
    have KD := Lib.hid (delete_row w4.drew gr cur (N.L (ffa, fft)).length k hrow hnc (by unfold maxLen at hcm; omega) o4 hsl)
    have HM := Lib.hid hm
    have HLN := Lib.hid hln
    have HB := Lib.hid hb
    have HROW := Lib.hid hrow
    have HKK := Lib.hid hkk
    have HEL := Lib.hid hel
    have HF := Lib.hid hF
    have HTK2 := Lib.hid htk
    generalize hnn : (N.L (ffa, fft)).length = nn at *
    clear hm hln hb hrow hkk hel hsl hF htk
    refine wp_eager (chg_pre (fun j => j = gm ∨ j = gr)) (n := 16) (by kernel_rfl) (by kernel_rfl) ?_
    refine Eg.batchK (chg_pre (fun j => j = gm ∨ j = gr)) (by intro c a d v w h; cases d <;> exact h) (by kernel_rfl) (n := 7) [0, 1, 2, 5, 6, 7, 11, 12, 13] [] _ (by kernel_rfl) (fun K hK => ?_); (simp only [pickOps, List.getElem?_toArray, List.getElem?_cons_zero, List.getElem?_cons_succ, Option.toList_some, List.cons_append, List.nil_append]); (repeat (first | go_big_quiet_step (fail) | quiet_step (fail))); refine wpQuiet_nil (hK _ ?_); clear hK K
    (refine Eg.read (chg_pre (fun j => j = gm ∨ j = gr)) (by intro c a d v w h; cases d <;> exact h) (by kernel_rfl) (i := 3) (n := 6) (l := [0, 1, 2, 5, 6, 7, 11, 12, 13]) rfl (by kernel_rfl) (by kernel_rfl) rfl ⟨_, fun w' hR => load_run rfl (load_mapp (hR.cell (w := w4.drew) hc1 HTg.out)), ?_⟩); (simp only [Act.put, List.setIfInBounds_toArray, List.getElem_toArray, List.getElem_cons_succ, List.getElem_cons_zero, List.set_cons_succ, List.set_cons_zero])
    (refine Eg.read (chg_pre (fun j => j = gm ∨ j = gr)) (by intro c a d v w h; cases d <;> exact h) (by kernel_rfl) (i := 4) (n := 5) (l := [0, 1, 2, 5, 6, 7, 11, 12, 13, 3]) rfl (by kernel_rfl) (by kernel_rfl) rfl ⟨_, fun w' hR => load_run rfl (load_pair (hR.blk (w := w4.drew) HBp.out HTp.out)), ?_⟩); (simp only [Act.put, List.setIfInBounds_toArray, List.getElem_toArray, List.getElem_cons_succ, List.getElem_cons_zero, List.set_cons_succ, List.set_cons_zero])
    (refine Eg.read (chg_pre (fun j => j = gm ∨ j = gr)) (by intro c a d v w h; cases d <;> exact h) (by kernel_rfl) (i := 8) (n := 4) (l := [0, 1, 2, 5, 6, 7, 11, 12, 13, 3, 4]) rfl (by kernel_rfl) (by kernel_rfl) rfl ⟨_, fun w' hR => load_run rfl (load_mapp (hR.cell (w := w4.drew) hc1 HTg.out)), ?_⟩); (simp only [Act.put, List.setIfInBounds_toArray, List.getElem_toArray, List.getElem_cons_succ, List.getElem_cons_zero, List.set_cons_succ, List.set_cons_zero])
    (refine Eg.read (chg_pre (fun j => j = gm ∨ j = gr)) (by intro c a d v w h; cases d <;> exact h) (by kernel_rfl) (i := 9) (n := 3) (l := [0, 1, 2, 5, 6, 7, 11, 12, 13, 3, 4, 8]) rfl (by kernel_rfl) (by kernel_rfl) rfl ⟨_, fun w' hR => load_run rfl (load_pair (hR.blk (w := w4.drew) HBp.out HTp.out)), ?_⟩); (simp only [Act.put, List.setIfInBounds_toArray, List.getElem_toArray, List.getElem_cons_succ, List.getElem_cons_zero, List.set_cons_succ, List.set_cons_zero])
    refine Eg.act (chg_pre (fun j => j = gm ∨ j = gr)) (i := 10) (n := 2) (l := [0, 1, 2, 5, 6, 7, 11, 12, 13, 3, 4, 8, 9]) rfl (by kernel_rfl) ?_
    go_wp2_with fail
    refine ⟨Chg.refl _ _, ?_⟩
    refine Eg.act (chg_pre (fun j => j = gm ∨ j = gr)) (i := 14) (n := 1) (l := [0, 1, 2, 5, 6, 7, 11, 12, 13, 3, 4, 8, 9, 10]) rfl (by kernel_rfl) ?_
    go_wp2_with fail
    refine KD.out.mono ?_
    rintro e w5 ⟨rfl, cur', hb5, hs5, ht5, hg5⟩
    have HM5 := Lib.hid (HM.out.drew.kept hg5 (by simpa using hrm.symm))
    go_wp2_with fail
    refine ⟨Chg.of_grown hg5 (fun j e => by cases e; exact .inr rfl), ?_⟩
    refine Eg.act (chg_pre (fun j => j = gm ∨ j = gr)) (i := 15) (n := 0) (l := [0, 1, 2, 5, 6, 7, 11, 12, 13, 3, 4, 8, 9, 10, 14]) rfl (by kernel_rfl) ?_
    go_wp2_with (refine wpList_store_mp HM5.out Try.pairKeys Try.underlying73 (by unfold maxLen; omega) rfl _ _ _ rfl rfl rfl hkey (.slice (some ⟨gr, 0, none⟩) (nn - 1) cur.size) rfl ?_; intro w6 hM6 hG6)
    refine ⟨Chg.of_grown hG6 (fun j e => by cases e; exact .inl rfl), ?_⟩
    refine Eg.finish (by kernel_rfl) ?_
    have hC5 : Chg (fun j => j = gm ∨ j = gr) w4 w5 := (Chg.of_ext (Ext.refl w4).drew).trans (Chg.of_grown (S := fun j => j = gm ∨ j = gr) hg5 (fun j e => by cases e; exact .inr rfl)) (fun j h => .inl h)
    have hC6 : Chg (fun j => j = gm ∨ j = gr) w4 w6 := hC5.trans (Chg.of_grown hG6 (fun j e => by cases e; exact .inl rfl)) (fun j h => .inl h)
    have hTb : ∀ j, (j = gm ∨ j = gr) → ∀ c, ¬ Blk w4 j 5 c := fun j hj c => hsb j c (HTS.out j hj)
    have hb6 : Blk w6 gr 36 cur' := hb5.grown hG6 (by simpa using hrm)
    have hlin : Lin 36 5 w6 0 (.slice (some ⟨gr, 0, none⟩) (nn - 1) cur.size) ((N.L (ffa, fft)).eraseIdx k) := by
      rw [← hnn]
      exact lin_erased (vs := vs) hb6 (by omega) hcm hs5 (by rw [hnn, ht5, HTK2.out]) (by omega) (by omega) (fun i hi => (HEL.out i (by omega)).chg hC6 (fun j c hj => hTb j hj c))
    have hrb : ∀ q u j, q ∈ linesOf N.ends → F (kl q) = some u → u.ownBlock = some j → j ≠ gm ∧ S j := fun q u j hq hFq hj => by
      rcases HLN.out.here q hq with h1 | ⟨u', h1, h2, h3⟩
      · rw [h1.1] at hFq; cases hFq
      · rw [h1] at hFq
        cases hFq
        obtain ⟨_, c, hbj⟩ := h2.block hj
        refine ⟨fun e => ?_, h3 j hj⟩
        obtain ⟨es, cl, he⟩ := HM.out.map
        rw [← e] at he
        unfold Blk at hbj
        rw [hbj] at he
        cases he
    have hN6 : NetAt w6 S g (nb + 1) (delN N (ffa, fft) k) := by
      refine ⟨okN_del h0 _ _, Nat.le_succ_of_le hlo, gm, _, _, hC6.blk HB.out HTg.out, hM6, ?_, hs1, hs2, fun j hj => ?_⟩
      · refine HLN.out.pushed h0 o1 hC6 hTb (fun q u j hq hne hFq hj h => ?_) hlin (fun j hj => .inl ⟨_, HF.out, hj⟩) S (fun q u j hq hne hFq hj => (hrb q u j hq hFq hj).2) (fun j hj => by cases hj; exact hSr)
        rcases h with h | h
        · exact (hrb q u j hq hFq hj).1 h
        · exact HLN.out.apart q (ffa, fft) u _ j hq o1 hne hFq HF.out hj (by rw [h]; rfl)
      · by_cases e1 : j = gm
        · exact .inr (.inl e1)
        · by_cases e2 : j = gr
          · rw [e2]; exact .inr (.inr ⟨_, hb6⟩)
          · rcases HKK.out j hj with h3 | h3 | ⟨c, h3⟩
            · exact .inl h3
            · exact .inr (.inl h3)
            · exact .inr (.inr ⟨c, hC6.blk h3 (fun h => h.elim e1 e2)⟩)
    have HN6 := Lib.hid hN6
    have HC6 := Lib.hid ((Chg.of_ext HE4.out).trans (hC6.mono HTS.out) (fun j h => .inl h))
    have HB6 := Lib.hid (hC6.blk HB4.out HTx.out)
    have HBr6 := Lib.hid (hC6.blk HBr4.out HTr.out)
    have HBS6 := HBS4.out.chg hC6 (fun j c hj => hTb j hj c)
    obtain ⟨A', c', e', hby, _, _⟩ := HBS6.by_
    cases e'
    have KC := Lib.hid (clone8 w6 Ab ffb cb hby (by omega))
    have c62 := (cell3 HB6.out).2.2
    have hgx := HB4.out.lt
    clear hN6 hlin hrb hTb hC6 hC5 hb6 hb5 hM6 hG6 hg5 ht5 hs5 HBS6 hby KD HM HLN HB HROW HKK HEL HF HTK2 HM5 HB4 HBr4 HE4 HBS4 HBp hlk hc1 hkey
    go_wp2_with fail
    refine KC.out.mono ?_
    rintro e w7 ⟨v, rfl, hO, hE7⟩
    obtain ⟨Av, cv, rfl, _⟩ := hO.form
    have hB7 := HB6.out.ext hE7
    have c2 := (cell3 hB7).2.2
    have f2 := hB7.frozen 2
    have hg8 := grown_set w7 ⟨bx, 2, none⟩ (.slice Av ffb.length cv)
    have hB8 := store_fl (A' := Av) (n' := ffb.length) (c' := cv) hB7
    have HBr8 := Lib.hid ((HBr6.out.ext hE7).far (p := ⟨bx, 2, none⟩) (by show w.heap.size ≠ bx; omega) (.slice Av ffb.length cv))
    have HN8 := Lib.hid ((HN6.out.ext hE7).far hg8 hB7 (by decide) (by decide) (by decide))
    have HC8 := Lib.hid ((HC6.out.trans (Chg.of_ext (S := fun j => j = bx) hE7) (fun j h => .inr (by omega))).trans (Chg.of_grown hg8 (fun j e => by cases e; rfl)) (T := fun j => j = bx) (fun j h => .inr (by omega)))
    have HBS8 := Lib.hid (Ext.bs (Bs.of_own hO) hg8 hB7 (by decide))
    obtain ⟨c80, c81, c82⟩ := cell3 hB8
    clear c62 KC HB6 HBr6 HC6 HN6 hO hE7 hg8
    go_wp2_with (refine wpList_store_row rfl 45 _ _ rfl _ _ rfl rfl _ _ HBr8.out (Try.flSize _ _ _) rfl (fl_one _ _ _ _ _) ?_)
    refine bodyPost_ret (v := .tuple #[.agg #[.int .i64 (ffa : Int), .int .i64 (fft : Int), .slice Av ffb.length cv], .int .i64 0]) (results_row2 Try.results17 _ _ w.heap.size _ #[.int .i64 (ffa : Int), .int .i64 (fft : Int), .slice Av ffb.length cv] (0, 0) _ rfl (Blk.row HBr8.out _) Try.underlying45 rfl (Try.flSize _ _ _)) rfl ?_
    rw [HRES.out.1, HRES.out.2.1, HRES.out.2.2.1, HRES.out.2.2.2.1, HRES.out.2.2.2.2]
    exact ⟨_, rfl, Ext.bs HBS8.out (grown_row _ _ _) HBr8.out (by decide), S, HN8.out.far (grown_row _ _ _) HBr8.out (by decide) (by decide) (by decide), fun j hj => .inl hj, HC8.out.trans (Chg.of_grown (grown_row _ _ _) (fun j e => by cases e; rfl)) (T := fun j => j = w.heap.size) (fun j h => .inr (by omega))⟩
  · have hf := HAF.out h0
    have hne : ((atE N z : Int) != 0) = true := by rw [bne_iff_ne]; omega
    have htk := HTK.out
    rw [if_neg h0] at htk
    rw [hf] at HBr3 HE3 HB3 HBS ⊢
    generalize hez : atE N z = ez at *
    have HRES := Lib.hid (And.intro hf (And.intro hez htk))
    have hzr2 : ∀ W, (zeroValue 45).run Try.prog W = .ok (.agg #[.int .i64 0, .int .i64 0, .slice none 0 0]) W := fun W => by kernel_rfl
    clear h0 HAF HTK HOK hf hez htk
    have H3 := Lib.hid (H.out.ext HE3.out)
    go_wp2_with (refine wpList_store_row rfl 45 _ _ rfl _ _ rfl rfl _ _ HBr3.out (Try.flSize _ _ _) rfl (fl_one _ _ _ _ _) ?_)
    refine bodyPost_ret (v := .tuple #[.agg #[.int .i64 0, .int .i64 0, .slice none 0 0], .int .i64 ez]) (results_row2 Try.results17 _ _ w.heap.size _ #[.int .i64 0, .int .i64 0, .slice none 0 0] (0, 0) _ rfl (Blk.row HBr3.out _) Try.underlying45 rfl (Try.flSize _ _ _)) rfl ?_
    rw [HRES.out.1, HRES.out.2.1, HRES.out.2.2]
    exact ⟨_, rfl, Bs.nil _ _ _ _ (Nat.zero_le _), S, H.out.ext (HE3.out.setRow (Nat.le_refl _) _) |>.mono (Nat.le_succ _), fun k hk => .inl hk, Chg.of_ext (HE3.out.setRow (Nat.le_refl _) _)⟩

set_option maxHeartbeats 2000000 in
set_option maxRecDepth 100000 in
theorem Drop_net {w : World} {S : Nat → Prop} {g nb : Nat} {N : Nt} (h : NetAt w S g nb N) (z : Int) (hz : I64 z) (hnb : nb < 1000000) :
    Calls Try.prog 26 #[.pointer (some ⟨g, 0, none⟩), .int .i64 z] w fun e w' => e = .returned (.int .i64 (atE N z : Int)) ∧ ∃ S', NetAt w' S' g (nb + 1) (takeN N z) ∧ (∀ k, S' k → S k ∨ w.heap.size ≤ k) ∧ Chg S w w' := by
  have K := Lib.hid (Take_net h z hz hnb)
  clear h
  go_enter Try.func26, Try.ntmps26
  go_wp2_with fail
  refine K.out.mono ?_
  rintro e w2 ⟨vb, rfl, hb, S', hN, hS, hC⟩
  obtain ⟨Ab, cb, rfl, _⟩ := hb
  have hX := ext_new w2 (.cells #[.int .i64 ((atF N z).from_ : Int), .int .i64 ((atF N z).to_ : Int), .slice Ab (atF N z).b.length cb] 45)
  have HN := Lib.hid (hN.ext hX)
  have HC := Lib.hid (hC.trans (Chg.of_ext hX) (fun k h => .inl h))
  have HS := Lib.hid hS
  clear hN hC hX hS
  go_wp2_with fail
  go_ret
  exact ⟨rfl, S', HN.out, HS.out, HC.out⟩

end Go.Proofs.Ytahooohokdbnpaa
