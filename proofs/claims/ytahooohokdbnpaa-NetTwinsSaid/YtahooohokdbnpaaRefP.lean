
/-
  Contract of ref04.Net.Send.
-/
import Derived.Test.YtahooohokdbnpaaRefO
set_option linter.unusedVariables false
set_option linter.unusedSimpArgs false
namespace Go.Proofs.Ytahooohokdbnpaa
open Go.RowKit Go.Shelf Go.Maps Pl

attribute [local go_sem] Oper.semAt_some

theorem LinR.chg2 {S T : Nat → Prop} {w w' : World} {v : Value} {l : List (List UInt8)} (h : LinR T w v l) (hC : Chg S w w') (hrow : ∀ k cur, S k → ¬ Blk w k 36 cur) (hS : ∀ k cur, S k → ¬ Blk w k 5 cur) : LinR T w' v l := by
  obtain ⟨A, c, rfl, h1, h2, h3⟩ := h
  refine ⟨A, c, rfl, h1, h2, ?_⟩
  rcases h3 with h3 | ⟨gr, o, cur, rfl, hb, ht, hi⟩
  · exact .inl h3
  · refine .inr ⟨gr, o, cur, rfl, hC.blk hb (fun h => hrow gr cur h hb), ht, fun i hl => ?_⟩
    obtain ⟨vb, e, hbs⟩ := hi i hl
    exact ⟨vb, e, hbs.chg hC hS⟩
theorem LinX.one {w : World} {g c : Nat} {A : Option Addr} {l : List UInt8} (hb : Blk w g 36 #[.slice A l.length c]) (hs : Bs 5 w (.slice A l.length c) l) : LinX w (some ⟨g, 0, none⟩) [l] :=
  .inr ⟨g, 0, rfl, fun i hi => by
    obtain rfl : i = 0 := by simp at hi; exact hi
    exact ⟨A, c, by rw [hb.cell]; rfl, hs⟩⟩
theorem RefAt.cellAt {w : World} {T : Nat → Prop} {g : Nat} {N : Nt} (h : RefAt w T g N) : ∃ cs : Array Value, Blk w g 34 cs ∧ cs.size = 38 := by
  obtain ⟨_, _, _, _, cs, hb, hsz, _⟩ := h
  exact ⟨cs, hb, hsz⟩
theorem RefAt.lost1 {w : World} {T : Nat → Prop} {g : Nat} {N : Nt} (h : RefAt w T g N) (hl1 : N.lost < 1000000) :
    RefAt (w.setCell ⟨g, 37, none⟩ (.int .i64 ((N.lost : Int) + 1))) T g { N with lost := N.lost + 1 } := by
  obtain ⟨h0, hlo, hg, hk, cs, hb, hsz, h36, h37, hl⟩ := h
  have hC : Chg (fun k => k = g) w (w.setCell ⟨g, 37, none⟩ (.int .i64 ((N.lost : Int) + 1))) := Chg.of_grown (grown_set w ⟨g, 37, none⟩ _) (fun r e => by cases e; rfl)
  have hbyt : ∀ k cur, k = g → ¬ Blk w k 5 cur := fun k cur e hx => by subst e; exact absurd (hb.type hx).1 (by decide)
  have hrow : ∀ k cur, k = g → ¬ Blk w k 36 cur := fun k cur e hx => by subst e; exact absurd (hb.type hx).1 (by decide)
  refine ⟨⟨h0.e1, h0.e5, h0.out, h0.self_, h0.full, h0.big⟩, hl1, hg, fun k hk' => ?_, cs.setIfInBounds 37 _, hb.set _ _, by simp [hsz], ?_, ?_, fun a b ha hb' => ?_⟩
  · rcases hk k hk' with h1 | ⟨cur, h1⟩
    · exact .inl h1
    · exact .inr ⟨cur, hC.blk h1 (fun e => hrow k cur e h1)⟩
  · rw [Array.getElem?_setIfInBounds_ne (by omega)]; exact h36
  · rw [Array.getElem?_setIfInBounds_self_of_lt (by omega)]; rfl
  · obtain ⟨v, e, hv⟩ := hl a b ha hb'
    exact ⟨v, by rw [Array.getElem?_setIfInBounds_ne (by omega)]; exact e, hv.chg2 hC hrow hbyt⟩
theorem RefAt.lost_cell {w : World} {T : Nat → Prop} {g : Nat} {N : Nt} (h : RefAt w T g N) : w.cell? ⟨g, 37, none⟩ = some (.int .i64 (N.lost : Int)) ∧ w.frozen? ⟨g, 37, none⟩ = false := by
  obtain ⟨h0, hlo, hg, hk, cs, hb, hsz, h36, h37, hl⟩ := h
  exact ⟨by rw [hb.cell]; exact h37, hb.frozen _⟩

set_option maxHeartbeats 4000000 in
set_option maxRecDepth 100000 in
theorem Send_ref {w : World} {T : Nat → Prop} {g : Nat} {N : Nt} (h : RefAt w T g N) (a b : Int) (hlo : N.lost < 1000000) {A : Option Addr} {c : Nat} {l : List UInt8} (hby : By w A l) (hc : l.length ≤ 9223372036854775807) :
    Calls Try.prog 33 #[.pointer (some ⟨g, 0, none⟩), .int .i64 a, .int .i64 b, .slice A l.length c] w fun e w' => e = .returned (.int .i64 (sendE N a b l.length : Int)) ∧ ∃ T', RefAt w' T' g (sendN N a b l) ∧ (∀ k, T' k → T k ∨ w.heap.size ≤ k) ∧ Chg (fun k => k = g) w w' := by
  have H := Lib.hid h
  have K2 := Lib.hid (two_ref h a b)
  have HS : Hid (sendE N a b l.length = if twoB N a b && decide (l.length ≤ 1048576) then (if 32 ≤ lineN N a b then 5 else 0) else 2) := Lib.hid rfl
  have HN : Hid (sendN N a b l = if sendE N a b l.length = 0 then pushN N (pr a b) l else if sendE N a b l.length = 5 then { N with lost := N.lost + 1 } else N) := Lib.hid rfl
  have same : sendE N a b l.length = 2 → ∃ T', RefAt w T' g (sendN N a b l) ∧ (∀ k, T' k → T k ∨ w.heap.size ≤ k) ∧ Chg (fun k => k = g) w w := fun e => by
    rw [HN.out, e]
    exact ⟨T, H.out, fun k hk => .inl hk, Chg.refl _ w⟩
  have SAME := Lib.hid same
  have HBY := Lib.hid hby
  clear h same hby
  cases ht : twoB N a b with
  | false =>
    have e2 : sendE N a b l.length = 2 := by rw [HS.out, ht]; rfl
    rw [ht] at K2
    have S2 := Lib.hid (SAME.out e2)
    rw [e2]
    clear e2
    go_enter Try.func33, Try.ntmps33
    go_wp2_with fail
    refine K2.out.mono ?_
    rintro e w' ⟨rfl, rfl⟩
    go_wp2_with fail
    go_ret
    exact ⟨rfl, S2.out⟩
  | true =>
  rw [ht] at K2
  by_cases hlen : l.length ≤ 1048576
  · have hl : decide ((1048576 : Int) < (l.length : Int)) = false := decide_eq_false (by omega)
    have e3 : sendE N a b l.length = if 32 ≤ lineN N a b then 5 else 0 := by rw [HS.out, ht, decide_eq_true hlen]; rfl
    rw [lineN_two H.out.1, ht, if_pos rfl] at e3
    obtain ⟨m, n, rfl, rfl, m1, m5, n1, n5, hne, h5, v, hv, hlr⟩ := H.out.cell ht
    have e : N.L (pr (m : Int) (n : Int)) = N.L (m, n) := by simp [pr]
    rw [e] at e3
    by_cases hfull : 32 ≤ (N.L (m, n)).length
    · rw [if_pos hfull] at e3
      have hN := HN.out
      rw [e3] at hN
      simp only [Nat.reduceEqDiff, if_true, if_false] at hN
      rw [e3, hN]
      have hf : decide ((32 : Int) ≤ ((N.L (m, n)).length : Int)) = true := decide_eq_true (by omega)
      obtain ⟨hcl, hfr⟩ := H.out.lost_cell
      have HL1 := Lib.hid (H.out.lost1 hlo)
      have HC1 : Hid (Chg (fun k => k = g) w (w.setCell ⟨g, 37, none⟩ (.int .i64 ((N.lost : Int) + 1)))) := Lib.hid (Chg.of_grown (grown_set w ⟨g, 37, none⟩ _) (fun r e => by cases e; rfl))
      obtain ⟨Av, cv, rfl, _⟩ := id hlr
      clear hN e3 hfull hlen HN HS SAME ht hlr e
      generalize (N.L (m, n)).length = ln at *
      go_enter Try.func33, Try.ntmps33
      go_wp2_with fail
      refine K2.out.mono ?_
      rintro e w' ⟨rfl, rfl⟩
      go_wp2_with fail
      go_ret
      exact ⟨rfl, T, HL1.out, fun k hk => .inl hk, HC1.out⟩
    · rw [if_neg hfull] at e3
      have hN := HN.out
      rw [e3] at hN
      simp only [if_true] at hN
      rw [e3, hN, show pushN N (pr (m : Int) (n : Int)) l = { N with L := setL N.L (m, n) (N.L (m, n) ++ [l]) } by unfold pushN; rw [e]; simp [pr]]
      have hf : decide ((32 : Int) ≤ ((N.L (m, n)).length : Int)) = false := decide_eq_false (by omega)
      have HOK : Hid (OkN { N with L := setL N.L (m, n) (N.L (m, n) ++ [l]) }) := Lib.hid (okN_push H.out.1 ((mem_linesOf _ _).2 ⟨⟨m1, m5⟩, n1, n5⟩) hne (by omega) hlen)
      obtain ⟨Av, cv, rfl, _⟩ := id hlr
      obtain ⟨cs, hblk, hcs⟩ := H.out.cellAt
      have HBK := Lib.hid hblk
      have HLX := Lib.hid hlr.x
      have HC0 := Lib.hid hv
      have hl32 : (N.L (m, n)).length < 32 := by omega
      clear hN e3 hfull HN HS SAME ht hlr e
      have hv' := hv
      generalize hL0 : N.L (m, n) = L0 at *
      clear hL0
      go_enter Try.func33, Try.ntmps33
      go_wp2_with fail
      refine K2.out.mono ?_
      rintro e w' ⟨rfl, rfl⟩
      go_upto_region 6 with fail
      clear hv hf hl hv'
      have HX := (Ext.refl w).drew
      have HL1 : Hid True := Lib.hid trivial
      have HB1 : Hid True := Lib.hid trivial
      have HW1 : Hid True := Lib.hid trivial
      have HW2 : Hid True := Lib.hid trivial
      have HH1 : Hid True := Lib.hid trivial
      refine wp_eager (chg_pre (fun k => k = g ∨ w.heap.size ≤ k)) (n := 21) (by kernel_rfl) (by kernel_rfl) ?_
      refine Eg.batchK (chg_pre (fun k => k = g ∨ w.heap.size ≤ k)) (by intro c a d v w h; cases d <;> exact h) (by kernel_rfl) (n := 7) [0, 1, 2, 3, 4, 5, 6, 7, 8, 9, 12, 16, 17, 18] [] _ (by kernel_rfl) (fun K hK => ?_); (simp only [pickOps, List.getElem?_toArray, List.getElem?_cons_zero, List.getElem?_cons_succ, Option.toList_some, List.cons_append, List.nil_append]); (repeat (first | go_big_quiet_step (fail) | quiet_step (fail))); refine wpQuiet_nil (hK _ ?_); clear hK K
      refine Eg.act (chg_pre (fun k => k = g ∨ w.heap.size ≤ k)) (i := 10) (n := 6) (l := [0, 1, 2, 3, 4, 5, 6, 7, 8, 9, 12, 16, 17, 18]) rfl (by kernel_rfl) ?_
      have hc10 := HX.cell HC0.out
      go_wp2_with fail
      clear hc10
      refine ⟨Chg.refl _ _, ?_⟩
      refine Eg.act (chg_pre (fun k => k = g ∨ w.heap.size ≤ k)) (i := 11) (n := 5) (l := [0, 1, 2, 3, 4, 5, 6, 7, 8, 9, 12, 16, 17, 18, 10]) rfl (by kernel_rfl) ?_
      (refine wpList_appendL rfl _ _ rfl rfl (Lin.nil _ _ _ w.heap.size) Av L0.length cv rfl L0 (HLX.out.ext HX) rfl (by simp; omega) HX.size ?_; intro v1 wn hL1 hG1 hR1)
      refine ⟨Chg.of_grown hG1 (fun k e => by cases e), ?_⟩
      replace HX := Ext.own hG1 HX
      replace HL1 := Lib.hid hL1
      (try (replace HB1 := Lib.hid (HB1.out.ext (Ext.own hG1 (Ext.refl _)))))
      (try (replace HW1 := Lib.hid (HW1.out.ext (Ext.own hG1 (Ext.refl _)))))
      (try (replace HW2 := Lib.hid (HW2.out.ext (Ext.own hG1 (Ext.refl _)))))
      clear hL1 hG1 hR1
      refine Eg.act (chg_pre (fun k => k = g ∨ w.heap.size ≤ k)) (i := 13) (n := 4) (l := [0, 1, 2, 3, 4, 5, 6, 7, 8, 9, 12, 16, 17, 18, 10, 11]) rfl (by kernel_rfl) ?_
      (refine wpList_append8 Try.byt rfl _ _ rfl rfl (Own.nil _ _ w.heap.size) A _ c rfl l (HBY.out.ext HX) rfl (by simp; omega) HX.size ?_; intro v2 wn hO2 hG2 hR2)
      refine ⟨Chg.of_grown hG2 (fun k e => by cases e), ?_⟩
      replace HX := Ext.own hG2 HX
      rw [List.nil_append] at hO2
      obtain ⟨A2, c2, rfl, _⟩ := id hO2.form
      replace HB1 := Lib.hid hO2
      (try (replace HL1 := Lib.hid (HL1.out.ext (Ext.own hG2 (Ext.refl _)))))
      clear hO2 hG2 hR2
      refine Eg.act (chg_pre (fun k => k = g ∨ w.heap.size ≤ k)) (i := 14) (n := 3) (l := [0, 1, 2, 3, 4, 5, 6, 7, 8, 9, 12, 16, 17, 18, 10, 11, 13]) rfl (by kernel_rfl) ?_
      go_wp2_with fail
      refine ⟨Chg.of_ext (ext_new _ _), ?_⟩
      replace HX := HX.alloc (.cells #[.slice A2 l.length c2] 36)
      replace HW1 := Lib.hid (Blk.new wn 36 #[.slice A2 l.length c2])
      replace HW2 := Lib.hid ((Bs.of_own HB1.out).ext (ext_new wn (.cells #[.slice A2 l.length c2] 36)))
      (try (replace HL1 := Lib.hid (HL1.out.ext (ext_new wn (.cells #[.slice A2 l.length c2] 36)))))
      clear HB1
      have HB1 : Hid True := Lib.hid trivial
      generalize wn.alloc (.cells #[.slice A2 l.length c2] 36) = wm at *
      generalize wn.heap.size = g7 at *
      refine Eg.act (chg_pre (fun k => k = g ∨ w.heap.size ≤ k)) (i := 15) (n := 2) (l := [0, 1, 2, 3, 4, 5, 6, 7, 8, 9, 12, 16, 17, 18, 10, 11, 13, 14]) rfl (by kernel_rfl) ?_
      have HNX := Lib.hid (LinX.one HW1.out HW2.out)
      (refine wpList_appendL rfl _ _ rfl rfl HL1.out (some ⟨g7, 0, none⟩) 1 1 rfl [l] HNX.out rfl (by simp; omega) HX.size ?_; intro v3 wn2 hL3 hG3 hR3)
      refine ⟨Chg.of_grown hG3 (fun k e => .inr (HL1.out.block e).1), ?_⟩
      simp only [Act.put, List.setIfInBounds_toArray, List.getElem_toArray, List.getElem_cons_succ, List.getElem_cons_zero, List.set_cons_succ, List.set_cons_zero]
      have hE3 := HX.grown hG3 (fun k e => (HL1.out.block e).1)
      rw [List.nil_append] at hL3
      obtain ⟨A3, c3, rfl, _⟩ := id hL3.form
      have HL3 := Lib.hid hL3
      have HE3 := Lib.hid hE3
      clear hL3 hG3 hR3 HL1 HW1 HW2 HX HNX
      have hb3 := HBK.out.ext hE3
      have hcell3 := hE3.cell HC0.out
      have hfrz3 := hb3.frozen (m * 6 + n)
      clear hE3 hb3
      refine Eg.batchK (chg_pre (fun k => k = g ∨ w.heap.size ≤ k)) (by intro c a d v w h; cases d <;> exact h) (by kernel_rfl) (n := 1) [19] [0, 1, 2, 3, 4, 5, 6, 7, 8, 9, 12, 16, 17, 18, 10, 11, 13, 14, 15] _ (by kernel_rfl) (fun K hK => ?_); (simp only [pickOps, List.getElem?_toArray, List.getElem?_cons_zero, List.getElem?_cons_succ, Option.toList_some, List.cons_append, List.nil_append]); (repeat (first | go_big_quiet_step (fail) | quiet_step (fail))); refine wpQuiet_nil (hK _ ?_); clear hK K
      refine Eg.act (chg_pre (fun k => k = g ∨ w.heap.size ≤ k)) (i := 20) (n := 0) (l := [0, 1, 2, 3, 4, 5, 6, 7, 8, 9, 12, 16, 17, 18, 10, 11, 13, 14, 15, 19]) rfl (by kernel_rfl) ?_
      go_wp2_with fail
      refine ⟨Chg.of_grown (grown_set _ _ _) (fun k e => by cases e; exact .inl rfl), ?_⟩
      refine Eg.finish (by kernel_rfl) ?_
      go_wp2_with fail
      go_ret
      have hfin := H.out.stored HE3.out (m := m) (n := n) (by omega) (by omega) (T' := fun k => T k ∨ Value.ownBlock (.slice A3 (L0 ++ [l]).length c3) = some k) (HL3.out.r (T := fun k => T k ∨ Value.ownBlock (.slice A3 (L0 ++ [l]).length c3) = some k) (fun k hk => Or.inr hk)) (fun k hk => Or.inl hk) (fun k hk => hk.elim Or.inl (fun e => Or.inr (HL3.out.block e).2)) HOK.out
      simp only [List.length_append, List.length_cons, List.length_nil, Nat.zero_add] at hfin
      refine ⟨rfl, fun k => T k ∨ Value.ownBlock (.slice A3 (L0.length + 1) c3) = some k, hfin, fun k hk => hk.elim Or.inl (fun e => Or.inr (HL3.out.block (k := k) (by rw [List.length_append]; exact e)).1), (Chg.of_ext HE3.out).trans (T := fun k => k = g) (Chg.of_grown (grown_set _ _ _) (fun k e => by cases e; rfl)) (fun k h => .inl h)⟩
  · have e2 : sendE N a b l.length = 2 := by rw [HS.out, decide_eq_false hlen, Bool.and_false]; rfl
    have hl : decide ((1048576 : Int) < (l.length : Int)) = true := decide_eq_true (by omega)
    have S2 := Lib.hid (SAME.out e2)
    rw [e2]
    clear e2 hlen
    go_enter Try.func33, Try.ntmps33
    go_wp2_with fail
    refine K2.out.mono ?_
    rintro e w' ⟨rfl, rfl⟩
    go_wp2_with fail
    go_ret
    exact ⟨rfl, S2.out⟩

end Go.Proofs.Ytahooohokdbnpaa
