
/-
  The document's net in memory; contracts of ref04.Net.two, Line.
-/
import Derived.Test.YtahooohokdbnpaaNetQ
set_option linter.unusedVariables false
set_option linter.unusedSimpArgs false
namespace Go.Proofs.Ytahooohokdbnpaa
open Go.RowKit Go.Shelf Go.Maps Pl

attribute [local go_sem] Oper.semAt_some

/-- v is a slice of bytes' slices that reads as l; its block is one of T -/
def LinR (T : Nat → Prop) (w : World) (v : Value) (l : List (List UInt8)) : Prop :=
  ∃ A c, v = .slice A l.length c ∧ l.length ≤ c ∧ c ≤ maxLen ∧ (l = [] ∨ ∃ gr o cur, A = some ⟨gr, o, none⟩ ∧ Blk w gr 36 cur ∧ T gr ∧ ∀ i, i < l.length → ∃ vb, cur[o + i]? = some vb ∧ Bs 5 w vb (l.getD i []))
/-- the document's net stands in block g; T: its blocks -/
def RefAt (w : World) (T : Nat → Prop) (g : Nat) (N : Nt) : Prop :=
  OkN N ∧ N.lost ≤ 1000000 ∧ T g ∧ (∀ k, T k → k = g ∨ ∃ cur, Blk w k 36 cur) ∧ ∃ cs : Array Value, Blk w g 34 cs ∧ cs.size = 38 ∧ cs[36]? = some (.int .i64 (N.ends : Int)) ∧ cs[37]? = some (.int .i64 (N.lost : Int)) ∧
    ∀ a b, a < 6 → b < 6 → ∃ v, cs[a * 6 + b]? = some v ∧ LinR T w v (N.L (a, b))
section
variable {S T : Nat → Prop} {w w' : World} {g : Nat} {N : Nt}
theorem LinR.chg {v : Value} {l : List (List UInt8)} (h : LinR T w v l) (hC : Chg S w w') (hST : ∀ k, S k → ¬ T k) (hS : ∀ k cur, S k → ¬ Blk w k 5 cur) : LinR T w' v l := by
  obtain ⟨A, c, rfl, h1, h2, h3⟩ := h
  refine ⟨A, c, rfl, h1, h2, ?_⟩
  rcases h3 with h3 | ⟨gr, o, cur, rfl, hb, ht, hi⟩
  · exact .inl h3
  · refine .inr ⟨gr, o, cur, rfl, hC.blk hb (fun h => hST gr h ht), ht, fun i hl => ?_⟩
    obtain ⟨vb, e, hbs⟩ := hi i hl
    exact ⟨vb, e, hbs.chg hC hS⟩
theorem LinR.mono {T' : Nat → Prop} {v : Value} {l : List (List UInt8)} (h : LinR T w v l) (hT : ∀ k, T k → T' k) : LinR T' w v l := by
  obtain ⟨A, c, rfl, h1, h2, h3⟩ := h
  refine ⟨A, c, rfl, h1, h2, ?_⟩
  rcases h3 with h3 | ⟨gr, o, cur, rfl, hb, ht, hi⟩
  · exact .inl h3
  · exact .inr ⟨gr, o, cur, rfl, hb, hT gr ht, hi⟩
theorem RefAt.ok (h : RefAt w T g N) : OkN N := h.1
theorem RefAt.lt (h : RefAt w T g N) : ∀ k, T k → k < w.heap.size := by
  obtain ⟨_, _, _, hk, cs, hb, _⟩ := h
  intro k ht
  rcases hk k ht with rfl | ⟨cur, h1⟩
  · exact hb.lt
  · exact h1.lt
theorem RefAt.typ (h : RefAt w T g N) {t : TypeId} (h1 : t ≠ 34) (h2 : t ≠ 36) : ∀ k cur, T k → ¬ Blk w k t cur := by
  obtain ⟨_, _, _, hk, cs, hb, _⟩ := h
  intro k cur ht hx
  rcases hk k ht with rfl | ⟨cur', h3⟩
  · exact h1 (hx.type hb).1
  · exact h2 (hx.type h3).1
theorem RefAt.bytes (h : RefAt w T g N) : ∀ k cur, T k → ¬ Blk w k 5 cur := h.typ (by decide) (by decide)
theorem RefAt.chg (h : RefAt w T g N) (hC : Chg S w w') (hST : ∀ k, S k → ¬ T k) (hS : ∀ k cur, S k → ¬ Blk w k 5 cur) : RefAt w' T g N := by
  obtain ⟨h0, hlo, hg, hk, cs, hb, hsz, h36, h37, hl⟩ := h
  refine ⟨h0, hlo, hg, fun k ht => ?_, cs, hC.blk hb (fun h => hST g h hg), hsz, h36, h37, fun a b ha hb' => ?_⟩
  · rcases hk k ht with h1 | ⟨cur, h1⟩
    · exact .inl h1
    · exact .inr ⟨cur, hC.blk h1 (fun h => hST k h ht)⟩
  · obtain ⟨v, e, hv⟩ := hl a b ha hb'
    exact ⟨v, e, hv.chg hC hST hS⟩
theorem RefAt.ext (h : RefAt w T g N) (hE : Ext w w') : RefAt w' T g N := h.chg (S := fun _ => False) (Chg.of_ext hE) (fun _ h => h.elim) (fun _ _ h => h.elim)
end

set_option maxRecDepth 100000 in
theorem two_ref {w : World} {T : Nat → Prop} {g : Nat} {N : Nt} (h : RefAt w T g N) (a b : Int) : Calls Try.prog 49 #[.pointer (some ⟨g, 0, none⟩), .int .i64 a, .int .i64 b] w fun e w' => e = .returned (.bool (twoB N a b)) ∧ w = w' := by
  obtain ⟨h0, hlo, hg, hk, cs, hb, hsz, h36, h37, hl⟩ := h
  have hc : w.cell? ⟨g, 36, none⟩ = some (.int .i64 (N.ends : Int)) := by rw [hb.cell]; exact h36
  clear hb hsz h36 h37 hl hk hg h0 hlo
  go_enter Try.func49, Try.ntmps49
  go_wp2_with fail
  all_goals go_ret
  all_goals refine ⟨?_, rfl⟩
  all_goals first
    | (rw [show twoB N a b = false from by unfold twoB endB; simp; omega]; rfl)
    | (rw [show twoB N a b = (a != b) from by
        unfold twoB endB
        rw [decide_eq_true (show 1 ≤ a by omega), decide_eq_true (show 1 ≤ b by omega), decide_eq_true (show a ≤ (N.ends : Int) by omega), decide_eq_true (show b ≤ (N.ends : Int) by omega), Bool.eq_iff_iff, bne_iff_ne]
        simp]; rfl)

/-- the cell of a line -/
theorem RefAt.cell {w : World} {T : Nat → Prop} {g : Nat} {N : Nt} (h : RefAt w T g N) {a b : Int} (ht : twoB N a b = true) :
    ∃ m n : Nat, a = (m : Int) ∧ b = (n : Int) ∧ 1 ≤ m ∧ m ≤ N.ends ∧ 1 ≤ n ∧ n ≤ N.ends ∧ m ≠ n ∧ N.ends ≤ 5 ∧ ∃ v, w.cell? ⟨g, m * 6 + n, none⟩ = some v ∧ LinR T w v (N.L (m, n)) := by
  obtain ⟨h0, hlo, hg, hk, cs, hb, hsz, h36, h37, hl⟩ := h
  unfold twoB at ht
  simp only [Bool.and_eq_true] at ht
  have e1 := (endB_iff N a).1 ht.1.1
  have e2 := (endB_iff N b).1 ht.1.2
  have e3 : a ≠ b := of_decide_eq_true ht.2
  have h5 := h0.e5
  obtain ⟨v, hv, hr⟩ := hl a.toNat b.toNat (by omega) (by omega)
  exact ⟨a.toNat, b.toNat, by omega, by omega, by omega, by omega, by omega, by omega, by omega, h5, v, by rw [hb.cell]; exact hv, hr⟩
theorem lineN_two {N : Nt} (h : OkN N) (a b : Int) : lineN N a b = if twoB N a b then (N.L (pr a b)).length else 0 := by
  unfold lineN twoB
  by_cases e : a = b
  · subst e
    rw [if_neg (show ¬ (endB N a && endB N a && decide (a ≠ a)) = true by simp)]
    split
    · show (N.L (a.toNat, a.toNat)).length = 0
      rw [h.self_]; rfl
    · rfl
  · rw [decide_eq_true e, Bool.and_true]

set_option maxRecDepth 100000 in
theorem Line_ref {w : World} {T : Nat → Prop} {g : Nat} {N : Nt} (h : RefAt w T g N) (a b : Int) : Calls Try.prog 45 #[.pointer (some ⟨g, 0, none⟩), .int .i64 a, .int .i64 b] w fun e w' => e = .returned (.int .i64 (lineN N a b : Int)) ∧ w = w' := by
  have K2 := Lib.hid (two_ref h a b)
  rw [lineN_two h.1]
  have HC := Lib.hid (fun ht => h.cell (a := a) (b := b) ht)
  clear h
  cases ht : twoB N a b with
  | false =>
    rw [ht] at K2
    rw [if_neg (by decide)]
    go_enter Try.func45, Try.ntmps45
    go_wp2_with fail
    refine K2.out.mono ?_
    rintro e w' ⟨rfl, rfl⟩
    go_wp2_with fail
    go_ret
    exact ⟨rfl, rfl⟩
  | true =>
    rw [ht] at K2
    rw [if_pos rfl]
    obtain ⟨m, n, rfl, rfl, m1, m5, n1, n5, hne, h5, v, hv, ⟨A, c, rfl, hc1, hc2, _⟩⟩ := HC.out ht
    have e : N.L (pr (m : Int) (n : Int)) = N.L (m, n) := by simp [pr]
    rw [e]
    clear e ht HC
    go_enter Try.func45, Try.ntmps45
    go_wp2_with fail
    refine K2.out.mono ?_
    rintro e w' ⟨rfl, rfl⟩
    go_wp2_with fail
    go_ret
    exact ⟨rfl, rfl⟩

/-- flights in a row of the call's own; their bytes as in w0 -/
def FlRow (w0 w : World) (B : Nat) (v : Value) (fs : List Fl) : Prop := ∃ cs, w.ownsRow B 45 3 v fs.length cs ∧ FlCells w0 cs fs
/-- what stands in a line's cell -/
theorem RefAt.line {w : World} {T : Nat → Prop} {g : Nat} {N : Nt} (h : RefAt w T g N) {m n : Nat} (hm : m < 6) (hn : n < 6) :
    ∃ A c, w.cell? ⟨g, m * 6 + n, none⟩ = some (.slice A (N.L (m, n)).length c) ∧ LinR T w (.slice A (N.L (m, n)).length c) (N.L (m, n)) := by
  obtain ⟨h0, hlo, hg, hk, cs, hb, hsz, h36, h37, hl⟩ := h
  obtain ⟨v, hv, hr⟩ := hl m n hm hn
  obtain ⟨A, c, rfl, _⟩ := id hr
  exact ⟨A, c, by rw [hb.cell]; exact hv, hr⟩
/-- its elements -/
theorem LinR.elem {w : World} {T : Nat → Prop} {A : Option Addr} {n c : Nat} {l : List (List UInt8)} (h : LinR T w (.slice A n c) l) {q : Nat} (hq : q < l.length) :
    ∃ gr o Ab cb, A = some ⟨gr, o, none⟩ ∧ w.cell? ⟨gr, o + q, none⟩ = some (.slice Ab (l.getD q []).length cb) ∧ Bs 5 w (.slice Ab (l.getD q []).length cb) (l.getD q []) := by
  obtain ⟨A', c', e, h1, h2, h3⟩ := h
  cases e
  rcases h3 with rfl | ⟨gr, o, cur, rfl, hb, ht, hi⟩
  · simp at hq
  · obtain ⟨vb, e, hbs⟩ := hi q hq
    obtain ⟨Ab, cb, rfl, _⟩ := id hbs
    exact ⟨gr, o, Ab, cb, rfl, by rw [hb.cell]; exact e, hbs⟩
theorem RefAt.ends {w : World} {T : Nat → Prop} {g : Nat} {N : Nt} (h : RefAt w T g N) : w.cell? ⟨g, 36, none⟩ = some (.int .i64 (N.ends : Int)) := by
  obtain ⟨h0, hlo, hg, hk, cs, hb, hsz, h36, h37, hl⟩ := h
  rw [hb.cell]; exact h36

set_option maxHeartbeats 4000000 in
set_option maxRecDepth 100000 in
theorem Flights_ref {w : World} {T : Nat → Prop} {g : Nat} {N : Nt} (h : RefAt w T g N) :
    Calls Try.prog 19 #[.pointer (some ⟨g, 0, none⟩)] w fun e w' => ∃ v, e = .returned v ∧ FlRow w w' w.heap.size v (flN N) ∧ Ext w w' := by
  have H := Lib.hid h
  have h5 := h.1.e5
  have h1 := h.1.e1
  have hce0 := h.ends
  have HFL : Hid (flN N = flightsO (linesTo N.ends N.ends) N.L) := Lib.hid rfl
  have HPL : Hid (∀ k j, k ≤ N.ends → j ≤ N.ends → (flightsO (linesTo N.ends k ++ rowTo k j) N.L).length ≤ 960) := Lib.hid (fun k j hk hj => prefix_le h.1 hk hj)
  have HFULL := Lib.hid h.1.full
  clear h
  obtain ⟨i0, hi, hz0, hz1, hz2⟩ := info_parts Try.infoFl
  have HCE := Lib.hid hce0
  clear hce0
  go_enter Try.func19, Try.ntmps19
  generalize hen : N.ends = en at *
  go_wp2_with fail
  go_loopw [3, 4] (fun l i wr => ∃ k : Nat, k ≤ en ∧ i = .int .i64 ((k + 1 : Nat) : Int) ∧ FlRow w wr w.heap.size l (flightsO (linesTo en k) N.L) ∧ Ext w wr) (fun _ i _ => en + 1 - (intOf i).toNat)
  case atStart => exact ⟨0, Nat.zero_le _, rfl, ⟨[], World.ownsRow_nil _ _ _ _, FlCells.nil w⟩, Ext.refl w⟩
  case round =>
    obtain ⟨k, hk, rfl, hF, hE⟩ := hrel
    have HF := Lib.hid hF
    have HE := Lib.hid hE
    clear hF hE
    have hce : wr.cell? ⟨g, 36, none⟩ = some (.int .i64 (en : Int)) := HE.out.cell HCE.out
    by_cases hlt : k < en
    · have hd : decide (((k + 1 : Nat) : Int) ≤ (en : Int)) = true := decide_eq_true (by omega)
      go_wp2_with fail
      clear hce hd
      go_loopw [3, 5] (fun l i wr => ∃ j : Nat, j ≤ en ∧ i = .int .i64 ((j + 1 : Nat) : Int) ∧ FlRow w wr w.heap.size l (flightsO (linesTo en k ++ rowTo k j) N.L) ∧ Ext w wr) (fun _ i _ => en + 1 - (intOf i).toNat)
      case atStart => exact ⟨0, Nat.zero_le _, rfl, by rw [show rowTo k 0 = [] from rfl, List.append_nil]; exact HF.out, HE.out⟩
      case round =>
        obtain ⟨j, hj, rfl, hF, hE⟩ := hrel
        have HF := Lib.hid hF
        have HE := Lib.hid hE
        clear hF hE
        have hce : wr.cell? ⟨g, 36, none⟩ = some (.int .i64 (en : Int)) := HE.out.cell HCE.out
        by_cases hjl : j < en
        · have hd : decide (((j + 1 : Nat) : Int) ≤ (en : Int)) = true := decide_eq_true (by omega)
          have HRB : Hid (flightsO (linesTo en k ++ rowTo k (j + 1)) N.L = flightsO (linesTo en k ++ rowTo k j) N.L ++ lineF N.L (k + 1, j + 1)) := Lib.hid (by rw [rowTo_succ, ← List.append_assoc, flightsO_snoc])
          have HGT : Hid (∀ q, q < (N.L (k + 1, j + 1)).length → (lineF N.L (k + 1, j + 1)).take (q + 1) = (lineF N.L (k + 1, j + 1)).take q ++ [⟨k + 1, j + 1, (N.L (k + 1, j + 1)).getD q []⟩]) := Lib.hid (fun q hq => lineF_get N.L (k + 1, j + 1) hq)
          have HLL := Lib.hid (lineF_length N.L (k + 1, j + 1))
          have hn32 := HFULL.out (k + 1, j + 1)
          have HXL := Lib.hid (HPL.out k j (by omega) (by omega))
          obtain ⟨A, c, hlc, hlr⟩ := H.out.line (m := k + 1) (n := j + 1) (by omega) (by omega)
          have HLC := Lib.hid hlc
          have HEL := Lib.hid (fun q hq => hlr.elem (q := q) hq)
          clear hlc hlr
          generalize (N.L (k + 1, j + 1)).length = n at *
          generalize flightsO (linesTo en k ++ rowTo k j) N.L = X at *
          generalize lineF N.L (k + 1, j + 1) = Y at *
          go_wp2_with fail
          clear hce hd
          go_loopw [3, 6] (fun l i wr => ∃ q : Nat, q ≤ n ∧ i = .int .i64 (q : Int) ∧ FlRow w wr w.heap.size l (X ++ Y.take q) ∧ Ext w wr) (fun _ i _ => n - (intOf i).toNat)
          case atStart => exact ⟨0, Nat.zero_le _, rfl, by rw [List.take_zero, List.append_nil]; exact HF.out, HE.out⟩
          case round =>
            obtain ⟨q, hq, rfl, hF, hE⟩ := hrel
            have HE := Lib.hid hE
            have HF := Lib.hid hF
            clear hE hF
            have hlc : wr.cell? ⟨g, (k + 1) * 6 + (j + 1), none⟩ = some (.slice A n c) := HE.out.cell HLC.out
            by_cases hql : q < n
            · have hd : decide ((q : Int) < (n : Int)) = true := decide_eq_true (by omega)
              obtain ⟨gr, o, Ab, cb, rfl, hcq, hbs⟩ := HEL.out q hql
              have hcq' := HE.out.cell hcq
              obtain ⟨cs, hrow, hcells⟩ := HF.out
              have HSN := Lib.hid (hcells.snoc ⟨k + 1, j + 1, (N.L (k + 1, j + 1)).getD q []⟩ hbs)
              have HGq := Lib.hid (HGT.out q hql)
              have hfl : (X ++ Y.take q).length ≤ 992 := by rw [List.length_append, List.length_take, HLL.out]; have := HXL.out; omega
              obtain ⟨xl, hxl⟩ : ∃ xl, (X ++ Y.take q).length = xl := ⟨_, rfl⟩
              have HQL := Lib.hid hxl
              rw [hxl] at hrow hfl
              clear hxl
              generalize (N.L (k + 1, j + 1)).getD q [] = lq at *
              have hE3 := ext_new wr (.cells #[.int .i64 ((k : Int) + 1), .int .i64 ((j : Int) + 1), .slice Ab lq.length cb] 45)
              have HE3 := Lib.hid (HE.out.trans hE3)
              have HOW := Lib.hid (World.ownsRow.alloc hrow (.cells #[.int .i64 ((k : Int) + 1), .int .i64 ((j : Int) + 1), .slice Ab lq.length cb] 45))
              have HNW := Lib.hid (blk_news3 (Blk.new wr 45 #[.int .i64 ((k : Int) + 1), .int .i64 ((j : Int) + 1), .slice Ab lq.length cb]))
              have HLT := Lib.hid (World.ownsRow.lt hrow)
              clear hcq hbs hrow hcells hE3
              go_wp2_with (at_builtin; refine wpList_append_own_at _ rfl _ _ _ rfl w.heap.size 45 i0 (.agg #[.int .i64 0, .int .i64 0, .slice none 0 0]) 3 40 Try.underlying41 hi hz0 hz1 hz2 rfl (by omega) _ xl cs rfl HOW.out ⟨wr.heap.size, 0, none⟩ 1 1 [.int .i64 ((k : Int) + 1), .int .i64 ((j : Int) + 1), .slice Ab lq.length cb] rfl rfl HNW.out (by intro u hu; simp at hu; rcases hu with rfl | rfl | rfl <;> rfl) (by unfold maxLen; omega) (by omega) (by have := HE3.out.size; omega) ?_; intro v4 w4 hown4 hG4 hnil4 hat4; have HOW4 := Lib.hid hown4; have HG4 := Lib.hid hG4; clear hown4 hG4 hnil4 hat4)
              refine ⟨⟨q + 1, by omega, by go_num, ?_, HE3.out.grown HG4.out (fun k e => (HLT.out k e).1)⟩, by simp [intOf]; omega⟩
              rw [HGq.out, ← List.append_assoc]
              exact ⟨_, by rw [List.length_append (bs := [_]), HQL.out]; exact HOW4.out, HSN.out⟩
            · obtain rfl : q = n := by omega
              have hd : decide ((q : Int) < (q : Int)) = false := decide_eq_false (by omega)
              have hY : Y.take q = Y := List.take_of_length_le (by rw [HLL.out]; exact Nat.le_refl _)
              rw [hY] at HF
              clear hY
              go_wp2_with fail
              exact ⟨⟨j + 1, by omega, by go_num, by rw [HRB.out]; exact HF.out, HE.out⟩, by simp [intOf]; omega⟩
        · obtain rfl : j = en := by omega
          have hd : decide (((j + 1 : Nat) : Int) ≤ (j : Int)) = false := decide_eq_false (by omega)
          go_wp2_with fail
          exact ⟨⟨k + 1, by omega, by go_num, by rw [linesTo_succ]; exact HF.out, HE.out⟩, by simp [intOf]; omega⟩
    · obtain rfl : k = en := by omega
      have hd : decide (((k + 1 : Nat) : Int) ≤ (k : Int)) = false := decide_eq_false (by omega)
      go_wp2_with fail
      go_ret
      exact ⟨_, rfl, by rw [HFL.out]; exact HF.out, HE.out⟩

end Go.Proofs.Ytahooohokdbnpaa
