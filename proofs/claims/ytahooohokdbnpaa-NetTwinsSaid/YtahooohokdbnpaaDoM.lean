
/-
  Contract of law04.do: drop, double, clear; any act.
-/
import Derived.Test.YtahooohokdbnpaaDoN
set_option linter.unusedVariables false
set_option linter.unusedSimpArgs false
namespace Go.Proofs.Ytahooohokdbnpaa
open Go.RowKit Go.Shelf Go.Maps Pl

attribute [local go_sem] Oper.semAt_some

set_option maxHeartbeats 4000000 in
set_option maxRecDepth 100000 in
theorem do_drop {w : World} {S T : Nat → Prop} {g r nb : Nat} {N : Nt} (h : Pr2 w S T g r nb N) (za zb : Int) (l : List UInt8) (A : Option Addr) (c : Nat) (ha : I64 za) (hnb : nb + 70 < 1000000) :
    Calls Try.prog 30 #[.pointer (some ⟨g, 0, none⟩), .pointer (some ⟨r, 0, none⟩), .agg #[.int .i64 3, .int .i64 za, .int .i64 zb, .slice A l.length c]] w (DoPost w S T g r (nb + 70) (takeN N za)) := by
  have HX1 := Lib.hid (ext_new w (.cells #[.int .i64 3, .int .i64 za, .int .i64 zb, .slice A l.length c] 38))
  have HB1 := Lib.hid (Blk.new w 38 #[.int .i64 3, .int .i64 za, .int .i64 zb, .slice A l.length c])
  have HLT := Lib.hid h.lts
  have H := Lib.hid (h.ext HX1.out)
  have HIA := Lib.hid ha
  have KT := Lib.hid (Take_ref H.out.2.1 za ha)
  obtain ⟨c0, c1, c2, c3⟩ := cell4 HB1.out
  clear h ha
  generalize hll : l.length = ll at *
  clear hll
  generalize hF : atF N za = F at *
  generalize hE : atE N za = E at *
  have HF := Lib.hid hF
  have HE := Lib.hid hE
  clear hF hE
  go_enter Try.func30, Try.ntmps30
  go_wp2_with fail
  refine KT.out.mono ?_
  rintro e w2 ⟨vb, rfl, hbs, T2, hR2, hG2, hC2⟩
  obtain ⟨Ab, cb, rfl, _⟩ := id hbs
  obtain ⟨n1, n2, n3⟩ := ref_then H.out.1 H.out.2.1 H.out.2.2 hR2 hG2 hC2
  have HX2 := Lib.hid (ext_new w2 (.cells #[.int .i64 (F.from_ : Int), .int .i64 (F.to_ : Int), .slice Ab F.b.length cb] 45))
  have HN := Lib.hid (n1.ext HX2.out)
  have HR := Lib.hid (hR2.ext HX2.out)
  have HD := Lib.hid n2
  have HG := Lib.hid (show Gr w T T2 from Gr.base hG2 HX1.out.size)
  have HC := Lib.hid (((Chg.of_ext HX1.out).trans n3 (fun k h => .inl h)).trans (Chg.of_ext (S := fun k => S k ∨ k = r) HX2.out) (fun k h => .inl h))
  have HBA := Lib.hid ((hC2.blk HB1.out (fun e => by have := HLT.out r (.inr rfl); omega)).ext HX2.out)
  obtain ⟨d0, d1, d2, d3⟩ := cell4 HBA.out
  have KN := Lib.hid (Drop_net HN.out za HIA.out (by omega))
  rw [HE.out] at KN
  clear hbs n1 n2 n3 hR2 hG2 hC2 c0 c1 c2 c3 KT
  go_wp2_with fail
  generalize w2.alloc (.cells #[.int .i64 (F.from_ : Int), .int .i64 (F.to_ : Int), .slice Ab F.b.length cb] 45) = w3 at *
  refine KN.out.mono ?_
  rintro e w4 ⟨rfl, S4, hN4, hG4, hC4⟩
  obtain ⟨n1, n2, n3⟩ := net_then HN.out HR.out HD.out hN4 hG4 hC4
  have HP : Hid (∃ S' T', Pr2 w4 S' T' g r (nb + 70) (takeN N za) ∧ Gr w S S' ∧ Gr w T T' ∧ Chg (fun k => S k ∨ k = r) w w4) := Lib.hid ⟨S4, T2, ⟨hN4.mono (by omega), n1, n2⟩, Gr.base hG4 HC.out.size, HG.out, HC.out.trans n3 (fun k h => .inl h)⟩
  have hee : ((E : Int) == (E : Int)) = true := by simp
  clear hN4 hG4 hC4 n1 n2 n3 d0 d1 d2 d3
  go_wp2_with fail
  refine (num4_any _ _).mono ?_
  rintro e w' ⟨rfl, rfl⟩
  go_wp2_with fail
  go_ret
  exact ⟨rfl, HP.out⟩

set_option maxHeartbeats 4000000 in
set_option maxRecDepth 100000 in
theorem do_double {w : World} {S T : Nat → Prop} {g r nb : Nat} {N : Nt} (h : Pr2 w S T g r nb N) (za zb : Int) (l : List UInt8) (A : Option Addr) (c : Nat) (ha : I64 za) (hnb : nb + 70 < 1000000) :
    Calls Try.prog 30 #[.pointer (some ⟨g, 0, none⟩), .pointer (some ⟨r, 0, none⟩), .agg #[.int .i64 4, .int .i64 za, .int .i64 zb, .slice A l.length c]] w (DoPost w S T g r (nb + 70) (doubleN N za)) := by
  have HX1 := Lib.hid (ext_new w (.cells #[.int .i64 4, .int .i64 za, .int .i64 zb, .slice A l.length c] 38))
  have HB1 := Lib.hid (Blk.new w 38 #[.int .i64 4, .int .i64 za, .int .i64 zb, .slice A l.length c])
  have HLT := Lib.hid h.lts
  have H := Lib.hid (h.ext HX1.out)
  have HIA := Lib.hid ha
  have hlo : N.lost < 1000000 := by have := h.1.2.1; omega
  obtain ⟨c0, c1, c2, c3⟩ := cell4 HB1.out
  have HNS : Hid (¬ (S w.heap.size ∨ w.heap.size = r)) := Lib.hid (fun h => by have := HLT.out _ h; omega)
  clear h ha
  generalize hll : l.length = ll at *
  clear hll
  generalize hE : doubleE N za = E at *
  have HE := Lib.hid hE
  clear hE
  go_enter Try.func30, Try.ntmps30
  go_upto_region 12 with fail
  generalize w.alloc (.cells #[.int .i64 4, .int .i64 za, .int .i64 zb, .slice A ll c] 38) = w1 at *
  have KN := Lib.hid (Double_net (H.out.1.ext (Ext.refl w1).drew) za HIA.out (by omega))
  rw [HE.out] at KN
  refine wp_eager (chg_pre (fun q => S q ∨ q = r)) (n := 11) (by kernel_rfl) (by kernel_rfl) ?_
  refine Eg.batchK (chg_pre (fun q => S q ∨ q = r)) (by intro c a d v w h; cases d <;> exact h) (by kernel_rfl) (n := 7) [0, 1, 5, 6] [] _ (by kernel_rfl) (fun K hK => ?_); (simp only [pickOps, List.getElem?_toArray, List.getElem?_cons_zero, List.getElem?_cons_succ, Option.toList_some, List.cons_append, List.nil_append]); (repeat (first | go_big_quiet_step (fail) | quiet_step (fail))); refine wpQuiet_nil (hK _ ?_); clear hK K
  (refine Eg.read (chg_pre (fun q => S q ∨ q = r)) (by intro c a d v w h; cases d <;> exact h) (by kernel_rfl) (i := 2) (n := 6) (l := [0, 1, 5, 6]) rfl (by kernel_rfl) (by kernel_rfl) rfl ⟨_, fun w' hR => load_run rfl (load_int (hR.cell (w := w1.drew) c1 HNS.out)), ?_⟩); (simp only [Act.put, List.setIfInBounds_toArray, List.getElem_toArray, List.getElem_cons_succ, List.getElem_cons_zero, List.set_cons_succ, List.set_cons_zero])
  (refine Eg.read (chg_pre (fun q => S q ∨ q = r)) (by intro c a d v w h; cases d <;> exact h) (by kernel_rfl) (i := 7) (n := 5) (l := [0, 1, 5, 6, 2]) rfl (by kernel_rfl) (by kernel_rfl) rfl ⟨_, fun w' hR => load_run rfl (load_int (hR.cell (w := w1.drew) c1 HNS.out)), ?_⟩); (simp only [Act.put, List.setIfInBounds_toArray, List.getElem_toArray, List.getElem_cons_succ, List.getElem_cons_zero, List.set_cons_succ, List.set_cons_zero])
  refine Eg.act (chg_pre (fun q => S q ∨ q = r)) (i := 3) (n := 4) (l := [0, 1, 5, 6, 2, 7]) rfl (by kernel_rfl) ?_
  go_wp2_with fail
  refine KN.out.mono ?_
  rintro e w4 ⟨rfl, S4, hN4, hG4, hC4⟩
  obtain ⟨n1, n2, n3⟩ := net_then (H.out.1.ext (Ext.refl w1).drew) (H.out.2.1.ext (Ext.refl w1).drew) H.out.2.2 hN4 hG4 hC4
  have KR := Lib.hid (Double_ref n1 za HIA.out hlo)
  rw [HE.out] at KR
  have HN4 := Lib.hid hN4
  have HG4 := Lib.hid hG4
  have HR4 := Lib.hid n1
  have HD4 := Lib.hid n2
  have HC4 := Lib.hid n3
  clear hN4 hG4 hC4 n1 n2 n3
  go_wp2_with fail
  refine ⟨HC4.out, ?_⟩
  refine Eg.act (chg_pre (fun q => S q ∨ q = r)) (i := 4) (n := 3) (l := [0, 1, 5, 6, 2, 7, 3]) rfl (by kernel_rfl) ?_
  go_wp2_with fail
  refine (num4_any _ _).mono ?_
  rintro e w' ⟨rfl, rfl⟩
  go_wp2_with fail
  refine ⟨Chg.refl _ _, ?_⟩
  refine Eg.act (chg_pre (fun q => S q ∨ q = r)) (i := 8) (n := 2) (l := [0, 1, 5, 6, 2, 7, 3, 4]) rfl (by kernel_rfl) ?_
  go_wp2_with fail
  refine KR.out.mono ?_
  rintro e w5 ⟨rfl, T5, hR5, hG5, hC5⟩
  obtain ⟨n1, n2, n3⟩ := ref_then HN4.out HR4.out HD4.out hR5 hG5 hC5
  have HN5 := Lib.hid n1
  have HD5 := Lib.hid n2
  have HC5 := Lib.hid n3
  have HR5 := Lib.hid hR5
  have HG5 := Lib.hid hG5
  have HC5' := Lib.hid (hC5.mono (T := fun q => S q ∨ q = r) (fun k h => .inr h))
  clear n1 n2 n3 hR5 hG5 hC5
  go_wp2_with fail
  refine ⟨HC5'.out, ?_⟩
  refine Eg.batchK (chg_pre (fun q => S q ∨ q = r)) (by intro c a d v w h; cases d <;> exact h) (by kernel_rfl) (n := 0) [9, 10] [0, 1, 5, 6, 2, 7, 3, 4, 8] _ (by kernel_rfl) (fun K hK => ?_); (simp only [pickOps, List.getElem?_toArray, List.getElem?_cons_zero, List.getElem?_cons_succ, Option.toList_some, List.cons_append, List.nil_append]); (repeat (first | go_big_quiet_step (fail) | quiet_step (fail))); refine wpQuiet_nil (hK _ ?_); clear hK K
  refine Eg.finish (by kernel_rfl) ?_
  have HP : Hid (∃ S' T', Pr2 w5 S' T' g r (nb + 70) (doubleN N za) ∧ Gr w S S' ∧ Gr w T T' ∧ Chg (fun k => S k ∨ k = r) w w5) := Lib.hid ⟨S4, T5, ⟨HN5.out.mono (by omega), HR5.out, HD5.out⟩, Gr.base HG4.out HX1.out.size, (show Gr w T T5 from Gr.base HG5.out (Nat.le_trans HX1.out.size HC4.out.size)), ((Chg.of_ext HX1.out).trans (Chg.of_ext (S := fun k => S k ∨ k = r) (Ext.refl w1).drew) (fun k h => .inl h)).trans (HC4.out.trans HC5'.out (fun k h => .inl h)) (fun k h => .inl h)⟩
  have hee : ((E : Int) == (E : Int)) = true := by simp
  clear c0 c1 c2 c3
  go_wp2_with fail
  go_ret
  exact ⟨rfl, HP.out⟩

set_option maxHeartbeats 4000000 in
set_option maxRecDepth 100000 in
theorem do_clear {w : World} {S T : Nat → Prop} {g r nb : Nat} {N : Nt} (h : Pr2 w S T g r nb N) (za zb : Int) (l : List UInt8) (A : Option Addr) (c : Nat) (ha : I64 za) (hnb : nb + 70 < 1000000) :
    Calls Try.prog 30 #[.pointer (some ⟨g, 0, none⟩), .pointer (some ⟨r, 0, none⟩), .agg #[.int .i64 5, .int .i64 za, .int .i64 zb, .slice A l.length c]] w (DoPost w S T g r (nb + 70) (clearN N za)) := by
  have HX1 := Lib.hid (ext_new w (.cells #[.int .i64 5, .int .i64 za, .int .i64 zb, .slice A l.length c] 38))
  have HB1 := Lib.hid (Blk.new w 38 #[.int .i64 5, .int .i64 za, .int .i64 zb, .slice A l.length c])
  have HLT := Lib.hid h.lts
  have H := Lib.hid (h.ext HX1.out)
  have HIA := Lib.hid ha
  obtain ⟨c0, c1, c2, c3⟩ := cell4 HB1.out
  have HNS : Hid (¬ (S w.heap.size ∨ w.heap.size = r)) := Lib.hid (fun h => by have := HLT.out _ h; omega)
  clear h ha
  generalize hll : l.length = ll at *
  clear hll
  generalize hE : clearC N za = E at *
  have HE := Lib.hid hE
  clear hE
  go_enter Try.func30, Try.ntmps30
  go_upto_region 14 with fail
  generalize w.alloc (.cells #[.int .i64 5, .int .i64 za, .int .i64 zb, .slice A ll c] 38) = w1 at *
  have KN := Lib.hid (Clear_net (H.out.1.ext (Ext.refl w1).drew) za HIA.out)
  rw [HE.out] at KN
  refine wp_eager (chg_pre (fun q => S q ∨ q = r)) (n := 10) (by kernel_rfl) (by kernel_rfl) ?_
  refine Eg.batchK (chg_pre (fun q => S q ∨ q = r)) (by intro c a d v w h; cases d <;> exact h) (by kernel_rfl) (n := 6) [0, 1, 4, 5] [] _ (by kernel_rfl) (fun K hK => ?_); (simp only [pickOps, List.getElem?_toArray, List.getElem?_cons_zero, List.getElem?_cons_succ, Option.toList_some, List.cons_append, List.nil_append]); (repeat (first | go_big_quiet_step (fail) | quiet_step (fail))); refine wpQuiet_nil (hK _ ?_); clear hK K
  (refine Eg.read (chg_pre (fun q => S q ∨ q = r)) (by intro c a d v w h; cases d <;> exact h) (by kernel_rfl) (i := 2) (n := 5) (l := [0, 1, 4, 5]) rfl (by kernel_rfl) (by kernel_rfl) rfl ⟨_, fun w' hR => load_run rfl (load_int (hR.cell (w := w1.drew) c1 HNS.out)), ?_⟩); (simp only [Act.put, List.setIfInBounds_toArray, List.getElem_toArray, List.getElem_cons_succ, List.getElem_cons_zero, List.set_cons_succ, List.set_cons_zero])
  (refine Eg.read (chg_pre (fun q => S q ∨ q = r)) (by intro c a d v w h; cases d <;> exact h) (by kernel_rfl) (i := 6) (n := 4) (l := [0, 1, 4, 5, 2]) rfl (by kernel_rfl) (by kernel_rfl) rfl ⟨_, fun w' hR => load_run rfl (load_int (hR.cell (w := w1.drew) c1 HNS.out)), ?_⟩); (simp only [Act.put, List.setIfInBounds_toArray, List.getElem_toArray, List.getElem_cons_succ, List.getElem_cons_zero, List.set_cons_succ, List.set_cons_zero])
  refine Eg.act (chg_pre (fun q => S q ∨ q = r)) (i := 3) (n := 3) (l := [0, 1, 4, 5, 2, 6]) rfl (by kernel_rfl) ?_
  go_wp2_with fail
  refine KN.out.mono ?_
  rintro e w4 ⟨rfl, hN4, hC4⟩
  obtain ⟨n1, n2, n3⟩ := net_then (H.out.1.ext (Ext.refl w1).drew) (H.out.2.1.ext (Ext.refl w1).drew) H.out.2.2 hN4 (Gr.refl _ _) hC4
  have KR := Lib.hid (Clear_ref n1 za)
  rw [HE.out] at KR
  have HN4 := Lib.hid hN4
  have HR4 := Lib.hid n1
  have HD4 := Lib.hid n2
  have HC4 := Lib.hid n3
  clear hN4 hC4 n1 n2 n3
  go_wp2_with fail
  refine ⟨HC4.out, ?_⟩
  refine Eg.act (chg_pre (fun q => S q ∨ q = r)) (i := 7) (n := 2) (l := [0, 1, 4, 5, 2, 6, 3]) rfl (by kernel_rfl) ?_
  go_wp2_with fail
  refine KR.out.mono ?_
  rintro e w5 ⟨rfl, hR5, hC5⟩
  obtain ⟨n1, n2, n3⟩ := ref_then HN4.out HR4.out HD4.out hR5 (Gr.refl _ _) hC5
  have HN5 := Lib.hid n1
  have HD5 := Lib.hid n2
  have HC5 := Lib.hid n3
  have HR5 := Lib.hid hR5
  have HC5' := Lib.hid (hC5.mono (T := fun q => S q ∨ q = r) (fun k h => .inr h))
  clear n1 n2 n3 hR5 hC5
  go_wp2_with fail
  refine ⟨HC5'.out, ?_⟩
  refine Eg.batchK (chg_pre (fun q => S q ∨ q = r)) (by intro c a d v w h; cases d <;> exact h) (by kernel_rfl) (n := 0) [8, 9] [0, 1, 4, 5, 2, 6, 3, 7] _ (by kernel_rfl) (fun K hK => ?_); (simp only [pickOps, List.getElem?_toArray, List.getElem?_cons_zero, List.getElem?_cons_succ, Option.toList_some, List.cons_append, List.nil_append]); (repeat (first | go_big_quiet_step (fail) | quiet_step (fail))); refine wpQuiet_nil (hK _ ?_); clear hK K
  refine Eg.finish (by kernel_rfl) ?_
  have HP : Hid (∃ S' T', Pr2 w5 S' T' g r (nb + 70) (clearN N za) ∧ Gr w S S' ∧ Gr w T T' ∧ Chg (fun k => S k ∨ k = r) w w5) := Lib.hid ⟨S, T, ⟨HN5.out.mono (by omega), HR5.out, HD5.out⟩, Gr.refl _ _, Gr.refl _ _, ((Chg.of_ext HX1.out).trans (Chg.of_ext (S := fun k => S k ∨ k = r) (Ext.refl w1).drew) (fun k h => .inl h)).trans (HC4.out.trans HC5'.out (fun k h => .inl h)) (fun k h => .inl h)⟩
  have hee : ((E : Int) == (E : Int)) = true := by simp
  clear c0 c1 c2 c3
  go_wp2_with fail
  go_ret
  exact ⟨rfl, HP.out⟩

theorem do_law {w : World} {S T : Nat → Prop} {g r nb : Nat} {N : Nt} (h : Pr2 w S T g r nb N) (s : Ac) (A : Option Addr) (c : Nat) (hby : ∀ W, Chg (fun k => S k ∨ k = r) w W → By W A s.bytes) (hl : s.bytes.length ≤ 20000) (ha : I64 s.a) (hb : I64 s.b) (hnb : nb + 70 < 1000000) :
    Calls Try.prog 30 #[.pointer (some ⟨g, 0, none⟩), .pointer (some ⟨r, 0, none⟩), .agg (acC s A c)] w (DoPost w S T g r (nb + 70) (doN N s)) := by
  obtain ⟨kd, za, zb, l⟩ := s
  simp only at *
  unfold acC doN
  simp only
  by_cases h1 : kd = 1
  · rw [if_pos h1]; exact do_send h kd za zb l 1 (.inl ⟨h1, rfl⟩) A c hby hl ha hb hnb
  rw [if_neg h1]
  by_cases h2 : kd = 2
  · rw [if_pos (.inl h2)]; subst h2; exact do_take h za zb l A c ha hnb
  by_cases h3 : kd = 3
  · rw [if_pos (.inr h3)]; subst h3; exact do_drop h za zb l A c ha hnb
  rw [if_neg (fun h => h.elim h2 h3)]
  by_cases h4 : kd = 4
  · rw [if_pos h4]; subst h4; exact do_double h za zb l A c ha hnb
  rw [if_neg h4]
  by_cases h5 : kd = 5
  · rw [if_pos h5]; subst h5; exact do_clear h za zb l A c ha hnb
  rw [if_neg h5]
  by_cases h6 : kd = 6
  · rw [if_pos h6]; exact do_send h kd za zb l 70 (.inr ⟨h6, rfl⟩) A c hby hl ha hb hnb
  rw [if_neg h6]
  exact do_none h kd za zb l h1 h2 h3 h4 h5 h6 A c

end Go.Proofs.Ytahooohokdbnpaa
