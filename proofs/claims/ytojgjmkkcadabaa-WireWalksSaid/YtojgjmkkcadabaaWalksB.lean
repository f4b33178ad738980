/-
  The walk of WireWalks, second part.
-/
import Derived.Test.YtojgjmkkcadabaaWalks
set_option linter.unusedVariables false
set_option linter.unusedSimpArgs false
namespace Go.Proofs.Ytojgjmkkcadabaa
open Go.RowKit Pl

/-- an own slice: where it lies -/
theorem Own.lies {e : TypeId} {w : World} {B : Nat} {v : Value} {l : List UInt8} (h : Own e w B v l) :
    ∃ A c, v = .slice A l.length c ∧ By w A l ∧ l.length ≤ c ∧ c ≤ 9223372036854775807 ∧ (l.length = 0 ∨ ∃ g cur, A = some ⟨g, 0, none⟩ ∧ B ≤ g ∧ g < w.heap.size ∧ Blk w g e cur ∧ l.length ≤ cur.size) := by
  obtain ⟨A, c, hv, hb, hc, hc'⟩ := h.form
  refine ⟨A, c, hv, hb, hc, by unfold maxLen at hc'; omega, ?_⟩
  obtain ⟨_, h2⟩ := h
  rcases h2 with ⟨rfl, hn⟩ | ⟨g, cap, cur, rfl, hB, hh, hnc, hcm, hcs, ht⟩
  · exact .inl hn
  · right
    cases hv
    exact ⟨g, cur, rfl, hB, Blk.lt hh, hh, by omega⟩

theorem zero_other {w w' : World} {g B : Nat} {v : Value} {l : List UInt8} (h : Own 5 w B v l) (hg : w.grownBy w' (some g)) (hlt : g < B) : Own 5 w' B v l := by
  refine h.kept hg ?_
  cases hv : v.ownBlock with
  | none => exact .inl rfl
  | some k => right; have := (h.lt k hv).1; simp; omega

/-- what the readers know after the bytes they were made of have been wiped -/
def Wiped (w w4 : World) (top r q : Nat) (bl : List UInt8) : Prop := ∀ W, (W = w4 ∨ ∃ g, w.heap.size ≤ g ∧ g < top ∧ w4.grownBy W (some g)) → Rd W r (some bl) ∧ RdR W q (some bl) ∧ Ext w W

set_option maxHeartbeats 8000000 in
set_option maxRecDepth 100000 in
theorem walks_in (A : Option Addr) (bl : List UInt8) (c : Nat) (L : Option Addr) (ls : List Stp) (d : Nat) (hb9 : bl.length ≤ 9000) (hl3 : ls.length ≤ 300) (hc : bl.length ≤ c) (hc' : c ≤ 9223372036854775807) (hd : ls.length ≤ d) (hd' : d ≤ 9223372036854775807) (w : World) (hb : By w A bl) (hS : Stps w L ls) :
    Calls Try.prog 7 #[.slice A bl.length c, .slice L ls.length d] w fun e w' => e = .returned (.bool true) ∧ Ext w w' := by
  generalize hn : bl.length = n at *
  generalize hm : ls.length = m at *
  have HN := Lib.hid hn
  have HM := Lib.hid hm
  have HB := Lib.hid hb
  have HS := Lib.hid hS
  clear hn hm hb hS
  have hd9 : decide ((9000 : Int) < (n : Int)) = false := by simp; omega
  have hd3 : decide ((300 : Int) < (m : Int)) = false := by simp; omega
  go_enter Try.func7, Try.ntmps7
  go_wp2_with (at_builtin; refine wpList_append8 Try.byt rfl _ _ rfl rfl (Own.nil _ _ w.heap.size) _ _ _ rfl bl HB.out HN.out.symm ?c1 ?c2 ?_)
  case c1 => rw [HN.out]; simp; omega
  case c2 => exact Nat.le_refl _
  intro v1 w1 hO1 hg1 hl1
  have hE1 : Ext w w1 := (Ext.refl w).append hg1 (Own.nil 5 _ _)
  obtain ⟨A1, c1, rfl, hb1, hc1, hc1', hlie⟩ := hO1.lies
  have hrd := read_own A1 bl c1 (by rw [HN.out]; omega) hc1 w1 hb1
  rw [HN.out] at hrd hc1 hlie ⊢
  have HRD := Lib.hid hrd
  have HLie := Lib.hid hlie
  clear hg1 hl1 hrd hb1 hO1 hlie
  go_wp2_with fail
  refine HRD.out.mono ?_
  rintro e w2 ⟨r, A2, c2, rfl, hB2, hO2, hc2, hc2', hr2, hE2⟩
  have HB2 := Lib.hid (HB.out.ext (hE1.trans hE2))
  have hsz1 := hE1.size
  have hsz2 := hE2.size
  have hrlt := hB2.lt
  go_wp2_with (at_builtin; refine wpList_append8 Try.byt rfl _ _ rfl rfl (Own.nil _ _ w2.heap.size) _ _ _ rfl bl HB2.out HN.out.symm ?c3 ?c4 ?_)
  case c3 => rw [HN.out]; simp; omega
  case c4 => exact Nat.le_refl _
  intro v3 w3 hO3 hg3 hl3'
  have hE3 : Ext w2 w3 := (Ext.refl w2).append hg3 (Own.nil 5 _ _)
  obtain ⟨A3, c3, rfl, hb3, hc3, hc3'⟩ := hO3.form
  have hc3'' : c3 ≤ 9223372036854775807 := by unfold maxLen at hc3'; omega
  have hsz3 := hE3.size
  have HWI : Hid (Wiped w (w3.alloc (.cells #[.slice A3 bl.length c3, .bool false] 49)) w1.heap.size r w3.heap.size bl) := by
    have e4 : Ext w3 (w3.alloc (.cells #[.slice A3 bl.length c3, .bool false] 49)) := (Ext.refl w3).alloc _
    have hB4 := Blk.new w3 49 #[.slice A3 bl.length c3, .bool false]
    have hE04 := ((hE1.trans hE2).trans hE3).trans e4
    have hBr := (hB2.ext hE3).ext e4
    have hOr := (hO2.ext hE3).ext e4
    have hOq := hO3.ext e4
    rw [← HN.out] at hBr hOr
    intro W hW
    rcases hW with rfl | ⟨g, hg1, hg2, hg⟩
    · refine ⟨⟨A2, c2, hBr, ?_, by rw [HN.out]; exact hc2, hc2'⟩, ⟨A3, c3, hB4, ?_, hc3, hc3''⟩, hE04⟩
      · obtain ⟨A', c', h1, h2, _⟩ := hOr.form; cases h1; exact h2
      · obtain ⟨A', c', h1, h2, _⟩ := hOq.form; cases h1; exact h2
    · have hOr2 := zero_other hOr hg (by omega)
      have hOq2 := zero_other hOq hg (by omega)
      refine ⟨⟨A2, c2, hBr.grown hg (by simp; omega), ?_, by rw [HN.out]; exact hc2, hc2'⟩, ⟨A3, c3, hB4.grown hg (by simp; omega), ?_, hc3, hc3''⟩, hE04.grown hg (fun k hk => by cases hk; exact hg1)⟩
      · obtain ⟨A', c', h1, h2, _⟩ := hOr2.form; cases h1; exact h2
      · obtain ⟨A', c', h1, h2, _⟩ := hOq2.form; cases h1; exact h2
  have HL4 : Hid (n = 0 ∨ ∃ g cur, A1 = some ⟨g, 0, none⟩ ∧ w.heap.size ≤ g ∧ g < w1.heap.size ∧ Blk (w3.alloc (.cells #[.slice A3 bl.length c3, .bool false] 49)) g 5 cur ∧ n ≤ cur.size) := by
    rcases HLie.out with h | ⟨g, cur, h1, h2, h3, h4, h5⟩
    · exact .inl h
    · exact .inr ⟨g, cur, h1, h2, h3, (h4.ext (hE2.trans hE3)).alloc _, h5⟩
  rw [HN.out] at HWI HL4 ⊢
  have hne : r ≠ w3.heap.size := by omega
  have hwr : w.heap.size ≤ r := by omega
  have hwq : w.heap.size ≤ w3.heap.size := by omega
  clear hg3 hl3' hO3 hb3 hB2 hO2 hE2 hE3 HLie HRD HB2
  go_wp2_with fail
  generalize w3.alloc (.cells #[.slice A3 n c3, .bool false] 49) = w4 at *
  generalize w3.heap.size = q at *
  go_loopw [8] (fun i wr => ∃ j : Nat, j ≤ n ∧ i = .int .i64 j ∧ (wr = w4 ∨ ∃ g, w.heap.size ≤ g ∧ g < w1.heap.size ∧ w4.grownBy wr (some g)) ∧ (n = 0 ∨ ∃ g cur, A1 = some ⟨g, 0, none⟩ ∧ w.heap.size ≤ g ∧ g < w1.heap.size ∧ Blk wr g 5 cur ∧ n ≤ cur.size ∧ w4.grownBy wr (some g))) (fun i _ => n - (intOf i).toNat)
  case atStart => exact ⟨0, Nat.zero_le _, rfl, .inl rfl, HL4.out.imp id (fun ⟨g, cur, h1, h2, h3, h4, h5⟩ => ⟨g, cur, h1, h2, h3, h4, h5, World.grownBy.refl _ _⟩)⟩
  case round =>
    obtain ⟨j, hj, rfl, hW, hO⟩ := hrel
    by_cases hlt : j < n
    · have hjd : decide ((j : Int) < (n : Int)) = true := by simp; omega
      rcases hO with h0 | ⟨g, cur, rfl, hg1, hg2, hB, hsz, hG⟩
      · omega
      have hv : wr.cell? ⟨g, j, none⟩ = some (cur[j]'(by omega)) := by rw [hB.cell]; exact Array.getElem?_eq_getElem (by omega)
      have hf := hB.frozen j
      have HB := Lib.hid hB
      have HG := Lib.hid hG
      clear hB hG hW
      generalize cur[j]'(by omega) = v0 at *
      go_wp2_with fail
      have hG2 := HG.out.trans (Upd.set wr g j (.int .u8 0)).grown
      exact ⟨⟨j + 1, by omega, by go_num, .inr ⟨g, hg1, hg2, hG2⟩, .inr ⟨g, _, rfl, hg1, hg2, HB.out.set j _, by simpa using hsz, hG2⟩⟩, by simp [intOf]; omega⟩
    · obtain rfl : j = n := by omega
      obtain ⟨hR0, hQ0, hE0⟩ := HWI.out wr hW
      have HR0 := Lib.hid hR0
      have HQ0 := Lib.hid hQ0
      have HE0 := Lib.hid hE0
      clear hW hO hR0 hQ0 hE0
      go_wp2_with fail
      obtain ⟨wo, rfl⟩ : ∃ wo : World, wo = wr := ⟨_, rfl⟩
      go_loopw [9] (fun i wr => ∃ (k : Nat) (s : Option (List UInt8)), k ≤ m ∧ i = .int .i64 k ∧ Rd wr r s ∧ RdR wr q s ∧ Ext w wr) (fun i _ => m - (intOf i).toNat)
      case atStart => exact ⟨0, some bl, Nat.zero_le _, rfl, HR0.out, HQ0.out, HE0.out⟩
      case round =>
        obtain ⟨k, s, hk, rfl, hR, hQ, hE⟩ := hrel
        have HE := Lib.hid hE
        by_cases hlt2 : k < m
        · have hkd : decide ((k : Int) < (m : Int)) = true := by simp; omega
          obtain ⟨b, o, rfl, hc0, hc1⟩ := HS.out.at_ (i := k) (by rw [HM.out]; exact hlt2)
          have hblt : b < w.heap.size := block_lt_of_cell hc0
          have hbr : b ≠ r := by omega
          have hbq : b ≠ q := by omega
          have c0 : wr.drew.cell? ⟨b, o + k * 2, none⟩ = _ := hE.cell hc0
          have c1 : wr.drew.cell? ⟨b, o + k * 2 + 1, none⟩ = _ := hE.cell hc1
          have L1 := Lib.hid (left_any wr r s hR)
          have F1 := Lib.hid (failed_any wr r s hR)
          have hKA := alike_any wr.drew r q hne s (ls.getD k stp0).kind (ls.getD k stp0).n (hR.ext (Ext.refl wr).drew) (hQ.ext (Ext.refl wr).drew)
          have hgo := goes_on s (ls.getD k stp0).kind (ls.getD k stp0).n
          generalize goes s (ls.getD k stp0).kind (ls.getD k stp0).n = s' at *
          generalize (ls.getD k stp0).kind = kd at *
          generalize (ls.getD k stp0).n = kn at *
          have KA := Lib.hid hKA
          clear hKA hc0 hc1 hR hQ
          obtain ⟨hle, hbk⟩ := hgo
          have hgt : decide (leftN s < leftN s') = false := by simp; omega
          have hgt2 : decide ((leftN s : Int) < (leftN s' : Int)) = false := by simp; omega
          generalize leftN s = ws at *
          clear hle
          cases hb : brokenB s with
          | true =>
            have hb' := hbk hb
            rw [hb] at F1
            clear hb hbk
            go_wp2_with fail
            refine L1.out.mono ?_
            rintro e w' ⟨rfl, rfl⟩
            go_wp2_with fail
            refine F1.out.mono ?_
            rintro e w' ⟨rfl, rfl⟩
            go_wp2_with fail
            refine wp_eager (wr_pre wr.heap.size r q) (n := 46) (by kernel_rfl) (by kernel_rfl) ?_
            refine Eg.batchK (wr_pre wr.heap.size r q) (by intro c a d v w h; cases d <;> exact h) (by kernel_rfl) (n := 41) [0, 1, 2, 3, 4] [] _ (by kernel_rfl) (fun K hK => ?_); (simp only [pickOps, List.getElem?_toArray, List.getElem?_cons_zero, List.getElem?_cons_succ, Option.toList_some, List.cons_append, List.nil_append]); (repeat (first | go_big_quiet_step (fail) | quiet_step (fail))); refine wpQuiet_nil (hK _ ?_); clear hK K
            (refine Eg.read (wr_pre wr.heap.size r q) (by intro c a d v w h; cases d <;> exact h) (by kernel_rfl) (i := 5) (n := 40) (l := [0, 1, 2, 3, 4]) rfl (by kernel_rfl) (by kernel_rfl) rfl ⟨_, fun w' hR => load_run rfl (load_step (hR.1.cell c0 hbr hbq) (hR.1.cell c1 hbr hbq)), ?_⟩); (simp only [Act.put, List.setIfInBounds_toArray])
            refine Eg.act (wr_pre wr.heap.size r q) (i := 6) (n := 39) (l := [0, 1, 2, 3, 4, 5]) rfl (by kernel_rfl) ?_
            go_wp2_with fail
            refine KA.out.mono ?_
            rintro e w2 ⟨rfl, hr2, hq2, hT2, hs2⟩
            go_wp2_with fail
            refine ⟨⟨hT2, fun h => absurd h (by simp)⟩, ?_⟩
            have L2 := Lib.hid (left_any w2 r s' hr2)
            have M2 := Lib.hid (rleft_any w2 q s' hq2)
            have F2 := Lib.hid (failed_any w2 r s' hr2)
            have E2 := Lib.hid (end_any w2 r s' hr2)
            have D2 := Lib.hid (rend_any w2 q s' hq2)
            rw [hb'] at F2
            (have hq2c : w2.cell? ⟨q, 1, none⟩ = some (.bool true) := by (obtain ⟨A9, m9, c9, h9, _⟩ := hq2.cells); rw [h9.cell, hb']; rfl)
            generalize hen : (if s' = some [] then (0 : Int) else 4) = en at *
            have en1 : (en != en) = false := by simp
            generalize hlf : leftN s' = lf at *
            have HR2 := Lib.hid hr2
            have HQ2 := Lib.hid hq2
            have hs2' : wr.heap.size < w2.heap.size := by simpa using hs2
            clear hr2 hq2 hen hlf
            refine Eg.batchK (wr_pre wr.heap.size r q) (by intro c a d v w h; cases d <;> exact h) (by kernel_rfl) (n := 35) [7, 8, 9, 11] [0, 1, 2, 3, 4, 5, 6] _ (by kernel_rfl) (fun K hK => ?_); (simp only [pickOps, List.getElem?_toArray, List.getElem?_cons_zero, List.getElem?_cons_succ, Option.toList_some, List.cons_append, List.nil_append]); (repeat (first | go_big_quiet_step (fail) | quiet_step (fail))); refine wpQuiet_nil (hK _ ?_); clear hK K
            refine Eg.act (wr_pre wr.heap.size r q) (i := 10) (n := 34) (l := [0, 1, 2, 3, 4, 5, 6, 7, 8, 9, 11]) rfl (by kernel_rfl) ?_
            go_wp2_with fail
            refine L2.out.mono ?_
            rintro e w' ⟨rfl, rfl⟩
            go_wp2_with fail
            refine ⟨(wr_pre _ r q).refl _, ?_⟩
            refine Eg.act (wr_pre wr.heap.size r q) (i := 12) (n := 33) (l := [0, 1, 2, 3, 4, 5, 6, 7, 8, 9, 11, 10]) rfl (by kernel_rfl) ?_
            go_wp2_with fail
            refine M2.out.mono ?_
            rintro e w' ⟨rfl, rfl⟩
            go_wp2_with fail
            refine ⟨(wr_pre _ r q).refl _, ?_⟩
            have lf1 : ((lf : Int) != (lf : Int)) = false := by simp
            refine Eg.batchK (wr_pre wr.heap.size r q) (by intro c a d v w h; cases d <;> exact h) (by kernel_rfl) (n := 26) [13, 14, 15, 16, 18, 19, 20] [0, 1, 2, 3, 4, 5, 6, 7, 8, 9, 11, 10, 12] _ (by kernel_rfl) (fun K hK => ?_); (simp only [pickOps, List.getElem?_toArray, List.getElem?_cons_zero, List.getElem?_cons_succ, Option.toList_some, List.cons_append, List.nil_append]); (repeat (first | go_big_quiet_step (fail) | quiet_step (fail))); refine wpQuiet_nil (hK _ ?_); clear hK K
            (refine Eg.read (wr_pre wr.heap.size r q) (by intro c a d v w h; cases d <;> exact h) (by kernel_rfl) (i := 21) (n := 25) (l := [0, 1, 2, 3, 4, 5, 6, 7, 8, 9, 11, 10, 12, 13, 14, 15, 16, 18, 19, 20]) rfl (by kernel_rfl) (by kernel_rfl) rfl ⟨_, fun w' hR => load_run rfl (load_bool ((hR.2 hs2').ext.cell hq2c)), ?_⟩); (simp only [Act.put, List.setIfInBounds_toArray])
            refine Eg.act (wr_pre wr.heap.size r q) (i := 17) (n := 24) (l := [0, 1, 2, 3, 4, 5, 6, 7, 8, 9, 11, 10, 12, 13, 14, 15, 16, 18, 19, 20, 21]) rfl (by kernel_rfl) ?_
            go_wp2_with fail
            refine F2.out.mono ?_
            rintro e w' ⟨rfl, rfl⟩
            go_wp2_with fail
            refine ⟨(wr_pre _ r q).refl _, ?_⟩
            refine Eg.batchK (wr_pre wr.heap.size r q) (by intro c a d v w h; cases d <;> exact h) (by kernel_rfl) (n := 19) [22, 23, 24, 25, 28] [0, 1, 2, 3, 4, 5, 6, 7, 8, 9, 11, 10, 12, 13, 14, 15, 16, 18, 19, 20, 21, 17] _ (by kernel_rfl) (fun K hK => ?_); (simp only [pickOps, List.getElem?_toArray, List.getElem?_cons_zero, List.getElem?_cons_succ, Option.toList_some, List.cons_append, List.nil_append]); (repeat (first | go_big_quiet_step (fail) | quiet_step (fail))); refine wpQuiet_nil (hK _ ?_); clear hK K
            refine Eg.act (wr_pre wr.heap.size r q) (i := 26) (n := 18) (l := [0, 1, 2, 3, 4, 5, 6, 7, 8, 9, 11, 10, 12, 13, 14, 15, 16, 18, 19, 20, 21, 17, 22, 23, 24, 25, 28]) rfl (by kernel_rfl) ?_
            go_wp2_with fail
            refine E2.out.mono ?_
            rintro e w' ⟨rfl, rfl⟩
            go_wp2_with fail
            refine ⟨(wr_pre _ r q).refl _, ?_⟩
            refine Eg.act (wr_pre wr.heap.size r q) (i := 27) (n := 17) (l := [0, 1, 2, 3, 4, 5, 6, 7, 8, 9, 11, 10, 12, 13, 14, 15, 16, 18, 19, 20, 21, 17, 22, 23, 24, 25, 28, 26]) rfl (by kernel_rfl) ?_
            go_wp2_with (go_at_call 17; refine (num_any _ _).mono ?_; rintro e w' ⟨rfl, rfl⟩)
            refine ⟨(wr_pre _ r q).refl _, ?_⟩
            refine Eg.act (wr_pre wr.heap.size r q) (i := 29) (n := 16) (l := [0, 1, 2, 3, 4, 5, 6, 7, 8, 9, 11, 10, 12, 13, 14, 15, 16, 18, 19, 20, 21, 17, 22, 23, 24, 25, 28, 26, 27]) rfl (by kernel_rfl) ?_
            go_wp2_with fail
            refine D2.out.mono ?_
            rintro e w' ⟨rfl, rfl⟩
            go_wp2_with fail
            refine ⟨(wr_pre _ r q).refl _, ?_⟩
            refine Eg.batchK (wr_pre wr.heap.size r q) (by intro c a d v w h; cases d <;> exact h) (by kernel_rfl) (n := 11) [30, 31, 32, 33, 35] [0, 1, 2, 3, 4, 5, 6, 7, 8, 9, 11, 10, 12, 13, 14, 15, 16, 18, 19, 20, 21, 17, 22, 23, 24, 25, 28, 26, 27, 29] _ (by kernel_rfl) (fun K hK => ?_); (simp only [pickOps, List.getElem?_toArray, List.getElem?_cons_zero, List.getElem?_cons_succ, Option.toList_some, List.cons_append, List.nil_append]); (repeat (first | go_big_quiet_step (fail) | quiet_step (fail))); refine wpQuiet_nil (hK _ ?_); clear hK K
            refine Eg.act (wr_pre wr.heap.size r q) (i := 34) (n := 10) (l := [0, 1, 2, 3, 4, 5, 6, 7, 8, 9, 11, 10, 12, 13, 14, 15, 16, 18, 19, 20, 21, 17, 22, 23, 24, 25, 28, 26, 27, 29, 30, 31, 32, 33, 35]) rfl (by kernel_rfl) ?_
            go_wp2_with fail
            refine L2.out.mono ?_
            rintro e w' ⟨rfl, rfl⟩
            go_wp2_with fail
            refine ⟨(wr_pre _ r q).refl _, ?_⟩
            refine Eg.batchK (wr_pre wr.heap.size r q) (by intro c a d v w h; cases d <;> exact h) (by kernel_rfl) (n := 4) [36, 37, 38, 39, 40, 41] [0, 1, 2, 3, 4, 5, 6, 7, 8, 9, 11, 10, 12, 13, 14, 15, 16, 18, 19, 20, 21, 17, 22, 23, 24, 25, 28, 26, 27, 29, 30, 31, 32, 33, 35, 34] _ (by kernel_rfl) (fun K hK => ?_); (simp only [pickOps, List.getElem?_toArray, List.getElem?_cons_zero, List.getElem?_cons_succ, Option.toList_some, List.cons_append, List.nil_append]); (repeat (first | go_big_quiet_step (fail) | quiet_step (fail))); refine wpQuiet_nil (hK _ ?_); clear hK K
            refine Eg.act (wr_pre wr.heap.size r q) (i := 42) (n := 3) (l := [0, 1, 2, 3, 4, 5, 6, 7, 8, 9, 11, 10, 12, 13, 14, 15, 16, 18, 19, 20, 21, 17, 22, 23, 24, 25, 28, 26, 27, 29, 30, 31, 32, 33, 35, 34, 36, 37, 38, 39, 40, 41]) rfl (by kernel_rfl) ?_
            go_wp2_with fail
            refine F2.out.mono ?_
            rintro e w' ⟨rfl, rfl⟩
            go_wp2_with fail
            refine ⟨(wr_pre _ r q).refl _, ?_⟩
            refine Eg.batchK (wr_pre wr.heap.size r q) (by intro c a d v w h; cases d <;> exact h) (by kernel_rfl) (n := 0) [43, 44, 45] [0, 1, 2, 3, 4, 5, 6, 7, 8, 9, 11, 10, 12, 13, 14, 15, 16, 18, 19, 20, 21, 17, 22, 23, 24, 25, 28, 26, 27, 29, 30, 31, 32, 33, 35, 34, 36, 37, 38, 39, 40, 41, 42] _ (by kernel_rfl) (fun K hK => ?_); (simp only [pickOps, List.getElem?_toArray, List.getElem?_cons_zero, List.getElem?_cons_succ, Option.toList_some, List.cons_append, List.nil_append]); (repeat (first | go_big_quiet_step (fail) | quiet_step (fail))); refine wpQuiet_nil (hK _ ?_); clear hK K
            refine Eg.finish (by kernel_rfl) ?_
            have hE2 : Ext w w2 := hT2.ext HE.out.drew hwr hwq
            have HX := Lib.hid hE2
            clear L2 M2 F2 E2 D2 hT2 hE2
            go_wp2_with fail
            exact ⟨⟨k + 1, s', by omega, by go_num, HR2.out, HQ2.out, HX.out⟩, by simp [intOf]; omega⟩
          | false =>
            rw [hb] at F1
            clear hb hbk
            cases hb' : brokenB s' with
            | true =>
              go_wp2_with fail
              refine L1.out.mono ?_
              rintro e w' ⟨rfl, rfl⟩
              go_wp2_with fail
              refine F1.out.mono ?_
              rintro e w' ⟨rfl, rfl⟩
              go_wp2_with fail
              refine wp_eager (wr_pre wr.heap.size r q) (n := 46) (by kernel_rfl) (by kernel_rfl) ?_
              refine Eg.batchK (wr_pre wr.heap.size r q) (by intro c a d v w h; cases d <;> exact h) (by kernel_rfl) (n := 41) [0, 1, 2, 3, 4] [] _ (by kernel_rfl) (fun K hK => ?_); (simp only [pickOps, List.getElem?_toArray, List.getElem?_cons_zero, List.getElem?_cons_succ, Option.toList_some, List.cons_append, List.nil_append]); (repeat (first | go_big_quiet_step (fail) | quiet_step (fail))); refine wpQuiet_nil (hK _ ?_); clear hK K
              (refine Eg.read (wr_pre wr.heap.size r q) (by intro c a d v w h; cases d <;> exact h) (by kernel_rfl) (i := 5) (n := 40) (l := [0, 1, 2, 3, 4]) rfl (by kernel_rfl) (by kernel_rfl) rfl ⟨_, fun w' hR => load_run rfl (load_step (hR.1.cell c0 hbr hbq) (hR.1.cell c1 hbr hbq)), ?_⟩); (simp only [Act.put, List.setIfInBounds_toArray])
              refine Eg.act (wr_pre wr.heap.size r q) (i := 6) (n := 39) (l := [0, 1, 2, 3, 4, 5]) rfl (by kernel_rfl) ?_
              go_wp2_with fail
              refine KA.out.mono ?_
              rintro e w2 ⟨rfl, hr2, hq2, hT2, hs2⟩
              go_wp2_with fail
              refine ⟨⟨hT2, fun h => absurd h (by simp)⟩, ?_⟩
              have L2 := Lib.hid (left_any w2 r s' hr2)
              have M2 := Lib.hid (rleft_any w2 q s' hq2)
              have F2 := Lib.hid (failed_any w2 r s' hr2)
              have E2 := Lib.hid (end_any w2 r s' hr2)
              have D2 := Lib.hid (rend_any w2 q s' hq2)
              rw [hb'] at F2
              (have hq2c : w2.cell? ⟨q, 1, none⟩ = some (.bool true) := by (obtain ⟨A9, m9, c9, h9, _⟩ := hq2.cells); rw [h9.cell, hb']; rfl)
              generalize hen : (if s' = some [] then (0 : Int) else 4) = en at *
              have en1 : (en != en) = false := by simp
              generalize hlf : leftN s' = lf at *
              have HR2 := Lib.hid hr2
              have HQ2 := Lib.hid hq2
              have hs2' : wr.heap.size < w2.heap.size := by simpa using hs2
              clear hr2 hq2 hen hlf
              refine Eg.batchK (wr_pre wr.heap.size r q) (by intro c a d v w h; cases d <;> exact h) (by kernel_rfl) (n := 35) [7, 8, 9, 11] [0, 1, 2, 3, 4, 5, 6] _ (by kernel_rfl) (fun K hK => ?_); (simp only [pickOps, List.getElem?_toArray, List.getElem?_cons_zero, List.getElem?_cons_succ, Option.toList_some, List.cons_append, List.nil_append]); (repeat (first | go_big_quiet_step (fail) | quiet_step (fail))); refine wpQuiet_nil (hK _ ?_); clear hK K
              refine Eg.act (wr_pre wr.heap.size r q) (i := 10) (n := 34) (l := [0, 1, 2, 3, 4, 5, 6, 7, 8, 9, 11]) rfl (by kernel_rfl) ?_
              go_wp2_with fail
              refine L2.out.mono ?_
              rintro e w' ⟨rfl, rfl⟩
              go_wp2_with fail
              refine ⟨(wr_pre _ r q).refl _, ?_⟩
              refine Eg.act (wr_pre wr.heap.size r q) (i := 12) (n := 33) (l := [0, 1, 2, 3, 4, 5, 6, 7, 8, 9, 11, 10]) rfl (by kernel_rfl) ?_
              go_wp2_with fail
              refine M2.out.mono ?_
              rintro e w' ⟨rfl, rfl⟩
              go_wp2_with fail
              refine ⟨(wr_pre _ r q).refl _, ?_⟩
              have lf1 : ((lf : Int) != (lf : Int)) = false := by simp
              refine Eg.batchK (wr_pre wr.heap.size r q) (by intro c a d v w h; cases d <;> exact h) (by kernel_rfl) (n := 26) [13, 14, 15, 16, 18, 19, 20] [0, 1, 2, 3, 4, 5, 6, 7, 8, 9, 11, 10, 12] _ (by kernel_rfl) (fun K hK => ?_); (simp only [pickOps, List.getElem?_toArray, List.getElem?_cons_zero, List.getElem?_cons_succ, Option.toList_some, List.cons_append, List.nil_append]); (repeat (first | go_big_quiet_step (fail) | quiet_step (fail))); refine wpQuiet_nil (hK _ ?_); clear hK K
              (refine Eg.read (wr_pre wr.heap.size r q) (by intro c a d v w h; cases d <;> exact h) (by kernel_rfl) (i := 21) (n := 25) (l := [0, 1, 2, 3, 4, 5, 6, 7, 8, 9, 11, 10, 12, 13, 14, 15, 16, 18, 19, 20]) rfl (by kernel_rfl) (by kernel_rfl) rfl ⟨_, fun w' hR => load_run rfl (load_bool ((hR.2 hs2').ext.cell hq2c)), ?_⟩); (simp only [Act.put, List.setIfInBounds_toArray])
              refine Eg.act (wr_pre wr.heap.size r q) (i := 17) (n := 24) (l := [0, 1, 2, 3, 4, 5, 6, 7, 8, 9, 11, 10, 12, 13, 14, 15, 16, 18, 19, 20, 21]) rfl (by kernel_rfl) ?_
              go_wp2_with fail
              refine F2.out.mono ?_
              rintro e w' ⟨rfl, rfl⟩
              go_wp2_with fail
              refine ⟨(wr_pre _ r q).refl _, ?_⟩
              refine Eg.batchK (wr_pre wr.heap.size r q) (by intro c a d v w h; cases d <;> exact h) (by kernel_rfl) (n := 19) [22, 23, 24, 25, 28] [0, 1, 2, 3, 4, 5, 6, 7, 8, 9, 11, 10, 12, 13, 14, 15, 16, 18, 19, 20, 21, 17] _ (by kernel_rfl) (fun K hK => ?_); (simp only [pickOps, List.getElem?_toArray, List.getElem?_cons_zero, List.getElem?_cons_succ, Option.toList_some, List.cons_append, List.nil_append]); (repeat (first | go_big_quiet_step (fail) | quiet_step (fail))); refine wpQuiet_nil (hK _ ?_); clear hK K
              refine Eg.act (wr_pre wr.heap.size r q) (i := 26) (n := 18) (l := [0, 1, 2, 3, 4, 5, 6, 7, 8, 9, 11, 10, 12, 13, 14, 15, 16, 18, 19, 20, 21, 17, 22, 23, 24, 25, 28]) rfl (by kernel_rfl) ?_
              go_wp2_with fail
              refine E2.out.mono ?_
              rintro e w' ⟨rfl, rfl⟩
              go_wp2_with fail
              refine ⟨(wr_pre _ r q).refl _, ?_⟩
              refine Eg.act (wr_pre wr.heap.size r q) (i := 27) (n := 17) (l := [0, 1, 2, 3, 4, 5, 6, 7, 8, 9, 11, 10, 12, 13, 14, 15, 16, 18, 19, 20, 21, 17, 22, 23, 24, 25, 28, 26]) rfl (by kernel_rfl) ?_
              go_wp2_with (go_at_call 17; refine (num_any _ _).mono ?_; rintro e w' ⟨rfl, rfl⟩)
              refine ⟨(wr_pre _ r q).refl _, ?_⟩
              refine Eg.act (wr_pre wr.heap.size r q) (i := 29) (n := 16) (l := [0, 1, 2, 3, 4, 5, 6, 7, 8, 9, 11, 10, 12, 13, 14, 15, 16, 18, 19, 20, 21, 17, 22, 23, 24, 25, 28, 26, 27]) rfl (by kernel_rfl) ?_
              go_wp2_with fail
              refine D2.out.mono ?_
              rintro e w' ⟨rfl, rfl⟩
              go_wp2_with fail
              refine ⟨(wr_pre _ r q).refl _, ?_⟩
              refine Eg.batchK (wr_pre wr.heap.size r q) (by intro c a d v w h; cases d <;> exact h) (by kernel_rfl) (n := 11) [30, 31, 32, 33, 35] [0, 1, 2, 3, 4, 5, 6, 7, 8, 9, 11, 10, 12, 13, 14, 15, 16, 18, 19, 20, 21, 17, 22, 23, 24, 25, 28, 26, 27, 29] _ (by kernel_rfl) (fun K hK => ?_); (simp only [pickOps, List.getElem?_toArray, List.getElem?_cons_zero, List.getElem?_cons_succ, Option.toList_some, List.cons_append, List.nil_append]); (repeat (first | go_big_quiet_step (fail) | quiet_step (fail))); refine wpQuiet_nil (hK _ ?_); clear hK K
              refine Eg.act (wr_pre wr.heap.size r q) (i := 34) (n := 10) (l := [0, 1, 2, 3, 4, 5, 6, 7, 8, 9, 11, 10, 12, 13, 14, 15, 16, 18, 19, 20, 21, 17, 22, 23, 24, 25, 28, 26, 27, 29, 30, 31, 32, 33, 35]) rfl (by kernel_rfl) ?_
              go_wp2_with fail
              refine L2.out.mono ?_
              rintro e w' ⟨rfl, rfl⟩
              go_wp2_with fail
              refine ⟨(wr_pre _ r q).refl _, ?_⟩
              refine Eg.batchK (wr_pre wr.heap.size r q) (by intro c a d v w h; cases d <;> exact h) (by kernel_rfl) (n := 4) [36, 37, 38, 39, 40, 41] [0, 1, 2, 3, 4, 5, 6, 7, 8, 9, 11, 10, 12, 13, 14, 15, 16, 18, 19, 20, 21, 17, 22, 23, 24, 25, 28, 26, 27, 29, 30, 31, 32, 33, 35, 34] _ (by kernel_rfl) (fun K hK => ?_); (simp only [pickOps, List.getElem?_toArray, List.getElem?_cons_zero, List.getElem?_cons_succ, Option.toList_some, List.cons_append, List.nil_append]); (repeat (first | go_big_quiet_step (fail) | quiet_step (fail))); refine wpQuiet_nil (hK _ ?_); clear hK K
              refine Eg.act (wr_pre wr.heap.size r q) (i := 42) (n := 3) (l := [0, 1, 2, 3, 4, 5, 6, 7, 8, 9, 11, 10, 12, 13, 14, 15, 16, 18, 19, 20, 21, 17, 22, 23, 24, 25, 28, 26, 27, 29, 30, 31, 32, 33, 35, 34, 36, 37, 38, 39, 40, 41]) rfl (by kernel_rfl) ?_
              refine wpList_step (fun K hK => ?_)
              go_simp
              refine hK _ _ ?_
              clear hK K
              refine wpList_nil ?_
              refine ⟨(wr_pre wr.heap.size r q).refl _, ?_⟩
              refine Eg.batchK (wr_pre wr.heap.size r q) (by intro c a d v w h; cases d <;> exact h) (by kernel_rfl) (n := 0) [43, 44, 45] [0, 1, 2, 3, 4, 5, 6, 7, 8, 9, 11, 10, 12, 13, 14, 15, 16, 18, 19, 20, 21, 17, 22, 23, 24, 25, 28, 26, 27, 29, 30, 31, 32, 33, 35, 34, 36, 37, 38, 39, 40, 41, 42] _ (by kernel_rfl) (fun K hK => ?_); (simp only [pickOps, List.getElem?_toArray, List.getElem?_cons_zero, List.getElem?_cons_succ, Option.toList_some, List.cons_append, List.nil_append]); (repeat (first | go_big_quiet_step (fail) | quiet_step (fail))); refine wpQuiet_nil (hK _ ?_); clear hK K
              refine Eg.finish (by kernel_rfl) ?_
              have hE2 : Ext w w2 := hT2.ext HE.out.drew hwr hwq
              have HX := Lib.hid hE2
              clear L2 M2 F2 E2 D2 hT2 hE2
              go_wp2_with fail
              exact ⟨⟨k + 1, s', by omega, by go_num, HR2.out, HQ2.out, HX.out⟩, by simp [intOf]; omega⟩
            | false =>
              go_wp2_with fail
              refine L1.out.mono ?_
              rintro e w' ⟨rfl, rfl⟩
              go_wp2_with fail
              refine F1.out.mono ?_
              rintro e w' ⟨rfl, rfl⟩
              go_wp2_with fail
              refine wp_eager (wr_pre wr.heap.size r q) (n := 46) (by kernel_rfl) (by kernel_rfl) ?_
              refine Eg.batchK (wr_pre wr.heap.size r q) (by intro c a d v w h; cases d <;> exact h) (by kernel_rfl) (n := 41) [0, 1, 2, 3, 4] [] _ (by kernel_rfl) (fun K hK => ?_); (simp only [pickOps, List.getElem?_toArray, List.getElem?_cons_zero, List.getElem?_cons_succ, Option.toList_some, List.cons_append, List.nil_append]); (repeat (first | go_big_quiet_step (fail) | quiet_step (fail))); refine wpQuiet_nil (hK _ ?_); clear hK K
              (refine Eg.read (wr_pre wr.heap.size r q) (by intro c a d v w h; cases d <;> exact h) (by kernel_rfl) (i := 5) (n := 40) (l := [0, 1, 2, 3, 4]) rfl (by kernel_rfl) (by kernel_rfl) rfl ⟨_, fun w' hR => load_run rfl (load_step (hR.1.cell c0 hbr hbq) (hR.1.cell c1 hbr hbq)), ?_⟩); (simp only [Act.put, List.setIfInBounds_toArray])
              refine Eg.act (wr_pre wr.heap.size r q) (i := 6) (n := 39) (l := [0, 1, 2, 3, 4, 5]) rfl (by kernel_rfl) ?_
              go_wp2_with fail
              refine KA.out.mono ?_
              rintro e w2 ⟨rfl, hr2, hq2, hT2, hs2⟩
              go_wp2_with fail
              refine ⟨⟨hT2, fun h => absurd h (by simp)⟩, ?_⟩
              have L2 := Lib.hid (left_any w2 r s' hr2)
              have M2 := Lib.hid (rleft_any w2 q s' hq2)
              have F2 := Lib.hid (failed_any w2 r s' hr2)
              have E2 := Lib.hid (end_any w2 r s' hr2)
              have D2 := Lib.hid (rend_any w2 q s' hq2)
              rw [hb'] at F2
              (have hq2c : w2.cell? ⟨q, 1, none⟩ = some (.bool false) := by (obtain ⟨A9, m9, c9, h9, _⟩ := hq2.cells); rw [h9.cell, hb']; rfl)
              generalize hen : (if s' = some [] then (0 : Int) else 4) = en at *
              have en1 : (en != en) = false := by simp
              generalize hlf : leftN s' = lf at *
              have HR2 := Lib.hid hr2
              have HQ2 := Lib.hid hq2
              have hs2' : wr.heap.size < w2.heap.size := by simpa using hs2
              clear hr2 hq2 hen hlf
              refine Eg.batchK (wr_pre wr.heap.size r q) (by intro c a d v w h; cases d <;> exact h) (by kernel_rfl) (n := 35) [7, 8, 9, 11] [0, 1, 2, 3, 4, 5, 6] _ (by kernel_rfl) (fun K hK => ?_); (simp only [pickOps, List.getElem?_toArray, List.getElem?_cons_zero, List.getElem?_cons_succ, Option.toList_some, List.cons_append, List.nil_append]); (repeat (first | go_big_quiet_step (fail) | quiet_step (fail))); refine wpQuiet_nil (hK _ ?_); clear hK K
              refine Eg.act (wr_pre wr.heap.size r q) (i := 10) (n := 34) (l := [0, 1, 2, 3, 4, 5, 6, 7, 8, 9, 11]) rfl (by kernel_rfl) ?_
              go_wp2_with fail
              refine L2.out.mono ?_
              rintro e w' ⟨rfl, rfl⟩
              go_wp2_with fail
              refine ⟨(wr_pre _ r q).refl _, ?_⟩
              refine Eg.act (wr_pre wr.heap.size r q) (i := 12) (n := 33) (l := [0, 1, 2, 3, 4, 5, 6, 7, 8, 9, 11, 10]) rfl (by kernel_rfl) ?_
              go_wp2_with fail
              refine M2.out.mono ?_
              rintro e w' ⟨rfl, rfl⟩
              go_wp2_with fail
              refine ⟨(wr_pre _ r q).refl _, ?_⟩
              have lf1 : ((lf : Int) != (lf : Int)) = false := by simp
              refine Eg.batchK (wr_pre wr.heap.size r q) (by intro c a d v w h; cases d <;> exact h) (by kernel_rfl) (n := 26) [13, 14, 15, 16, 18, 19, 20] [0, 1, 2, 3, 4, 5, 6, 7, 8, 9, 11, 10, 12] _ (by kernel_rfl) (fun K hK => ?_); (simp only [pickOps, List.getElem?_toArray, List.getElem?_cons_zero, List.getElem?_cons_succ, Option.toList_some, List.cons_append, List.nil_append]); (repeat (first | go_big_quiet_step (fail) | quiet_step (fail))); refine wpQuiet_nil (hK _ ?_); clear hK K
              (refine Eg.read (wr_pre wr.heap.size r q) (by intro c a d v w h; cases d <;> exact h) (by kernel_rfl) (i := 21) (n := 25) (l := [0, 1, 2, 3, 4, 5, 6, 7, 8, 9, 11, 10, 12, 13, 14, 15, 16, 18, 19, 20]) rfl (by kernel_rfl) (by kernel_rfl) rfl ⟨_, fun w' hR => load_run rfl (load_bool ((hR.2 hs2').ext.cell hq2c)), ?_⟩); (simp only [Act.put, List.setIfInBounds_toArray])
              refine Eg.act (wr_pre wr.heap.size r q) (i := 17) (n := 24) (l := [0, 1, 2, 3, 4, 5, 6, 7, 8, 9, 11, 10, 12, 13, 14, 15, 16, 18, 19, 20, 21]) rfl (by kernel_rfl) ?_
              go_wp2_with fail
              refine F2.out.mono ?_
              rintro e w' ⟨rfl, rfl⟩
              go_wp2_with fail
              refine ⟨(wr_pre _ r q).refl _, ?_⟩
              refine Eg.batchK (wr_pre wr.heap.size r q) (by intro c a d v w h; cases d <;> exact h) (by kernel_rfl) (n := 19) [22, 23, 24, 25, 28] [0, 1, 2, 3, 4, 5, 6, 7, 8, 9, 11, 10, 12, 13, 14, 15, 16, 18, 19, 20, 21, 17] _ (by kernel_rfl) (fun K hK => ?_); (simp only [pickOps, List.getElem?_toArray, List.getElem?_cons_zero, List.getElem?_cons_succ, Option.toList_some, List.cons_append, List.nil_append]); (repeat (first | go_big_quiet_step (fail) | quiet_step (fail))); refine wpQuiet_nil (hK _ ?_); clear hK K
              refine Eg.act (wr_pre wr.heap.size r q) (i := 26) (n := 18) (l := [0, 1, 2, 3, 4, 5, 6, 7, 8, 9, 11, 10, 12, 13, 14, 15, 16, 18, 19, 20, 21, 17, 22, 23, 24, 25, 28]) rfl (by kernel_rfl) ?_
              go_wp2_with fail
              refine E2.out.mono ?_
              rintro e w' ⟨rfl, rfl⟩
              go_wp2_with fail
              refine ⟨(wr_pre _ r q).refl _, ?_⟩
              refine Eg.act (wr_pre wr.heap.size r q) (i := 27) (n := 17) (l := [0, 1, 2, 3, 4, 5, 6, 7, 8, 9, 11, 10, 12, 13, 14, 15, 16, 18, 19, 20, 21, 17, 22, 23, 24, 25, 28, 26]) rfl (by kernel_rfl) ?_
              go_wp2_with (go_at_call 17; refine (num_any _ _).mono ?_; rintro e w' ⟨rfl, rfl⟩)
              refine ⟨(wr_pre _ r q).refl _, ?_⟩
              refine Eg.act (wr_pre wr.heap.size r q) (i := 29) (n := 16) (l := [0, 1, 2, 3, 4, 5, 6, 7, 8, 9, 11, 10, 12, 13, 14, 15, 16, 18, 19, 20, 21, 17, 22, 23, 24, 25, 28, 26, 27]) rfl (by kernel_rfl) ?_
              go_wp2_with fail
              refine D2.out.mono ?_
              rintro e w' ⟨rfl, rfl⟩
              go_wp2_with fail
              refine ⟨(wr_pre _ r q).refl _, ?_⟩
              refine Eg.batchK (wr_pre wr.heap.size r q) (by intro c a d v w h; cases d <;> exact h) (by kernel_rfl) (n := 11) [30, 31, 32, 33, 35] [0, 1, 2, 3, 4, 5, 6, 7, 8, 9, 11, 10, 12, 13, 14, 15, 16, 18, 19, 20, 21, 17, 22, 23, 24, 25, 28, 26, 27, 29] _ (by kernel_rfl) (fun K hK => ?_); (simp only [pickOps, List.getElem?_toArray, List.getElem?_cons_zero, List.getElem?_cons_succ, Option.toList_some, List.cons_append, List.nil_append]); (repeat (first | go_big_quiet_step (fail) | quiet_step (fail))); refine wpQuiet_nil (hK _ ?_); clear hK K
              refine Eg.act (wr_pre wr.heap.size r q) (i := 34) (n := 10) (l := [0, 1, 2, 3, 4, 5, 6, 7, 8, 9, 11, 10, 12, 13, 14, 15, 16, 18, 19, 20, 21, 17, 22, 23, 24, 25, 28, 26, 27, 29, 30, 31, 32, 33, 35]) rfl (by kernel_rfl) ?_
              go_wp2_with fail
              refine L2.out.mono ?_
              rintro e w' ⟨rfl, rfl⟩
              go_wp2_with fail
              refine ⟨(wr_pre _ r q).refl _, ?_⟩
              refine Eg.batchK (wr_pre wr.heap.size r q) (by intro c a d v w h; cases d <;> exact h) (by kernel_rfl) (n := 4) [36, 37, 38, 39, 40, 41] [0, 1, 2, 3, 4, 5, 6, 7, 8, 9, 11, 10, 12, 13, 14, 15, 16, 18, 19, 20, 21, 17, 22, 23, 24, 25, 28, 26, 27, 29, 30, 31, 32, 33, 35, 34] _ (by kernel_rfl) (fun K hK => ?_); (simp only [pickOps, List.getElem?_toArray, List.getElem?_cons_zero, List.getElem?_cons_succ, Option.toList_some, List.cons_append, List.nil_append]); (repeat (first | go_big_quiet_step (fail) | quiet_step (fail))); refine wpQuiet_nil (hK _ ?_); clear hK K
              refine Eg.act (wr_pre wr.heap.size r q) (i := 42) (n := 3) (l := [0, 1, 2, 3, 4, 5, 6, 7, 8, 9, 11, 10, 12, 13, 14, 15, 16, 18, 19, 20, 21, 17, 22, 23, 24, 25, 28, 26, 27, 29, 30, 31, 32, 33, 35, 34, 36, 37, 38, 39, 40, 41]) rfl (by kernel_rfl) ?_
              refine wpList_step (fun K hK => ?_)
              go_simp
              refine hK _ _ ?_
              clear hK K
              refine wpList_nil ?_
              refine ⟨(wr_pre wr.heap.size r q).refl _, ?_⟩
              refine Eg.batchK (wr_pre wr.heap.size r q) (by intro c a d v w h; cases d <;> exact h) (by kernel_rfl) (n := 0) [43, 44, 45] [0, 1, 2, 3, 4, 5, 6, 7, 8, 9, 11, 10, 12, 13, 14, 15, 16, 18, 19, 20, 21, 17, 22, 23, 24, 25, 28, 26, 27, 29, 30, 31, 32, 33, 35, 34, 36, 37, 38, 39, 40, 41, 42] _ (by kernel_rfl) (fun K hK => ?_); (simp only [pickOps, List.getElem?_toArray, List.getElem?_cons_zero, List.getElem?_cons_succ, Option.toList_some, List.cons_append, List.nil_append]); (repeat (first | go_big_quiet_step (fail) | quiet_step (fail))); refine wpQuiet_nil (hK _ ?_); clear hK K
              refine Eg.finish (by kernel_rfl) ?_
              have hE2 : Ext w w2 := hT2.ext HE.out.drew hwr hwq
              have HX := Lib.hid hE2
              clear L2 M2 F2 E2 D2 hT2 hE2
              go_wp2_with fail
              exact ⟨⟨k + 1, s', by omega, by go_num, HR2.out, HQ2.out, HX.out⟩, by simp [intOf]; omega⟩
        · obtain rfl : k = m := by omega
          clear hR hQ
          go_wp2_with (go_at_call 18; refine (known_any _).mono ?_; rintro e w5 ⟨rfl, hE5⟩)
          go_ret
          exact ⟨rfl, HE.out.trans hE5⟩

theorem walks_long (A L : Option Addr) (n m c d : Nat) (h : 9000 < n ∨ n ≤ 9000 ∧ 300 < m) (hn : n ≤ 9223372036854775807) (hm : m ≤ 9223372036854775807) (w : World) :
    Calls Try.prog 7 #[.slice A n c, .slice L m d] w fun e w' => e = .returned (.bool true) ∧ Ext w w' := by
  rcases h with h | ⟨h1, h⟩
  all_goals
    go_enter Try.func7, Try.ntmps7
    go_wp2_with (go_at_call 18; refine (known_any _).mono ?_; rintro e w5 ⟨rfl, hE5⟩)
    go_ret
    exact ⟨rfl, hE5⟩

theorem walks_any {w : World} (A : Option Addr) (bl : List UInt8) (c : Nat) (L : Option Addr) (ls : List Stp) (d : Nat) (hc : bl.length ≤ c) (hc' : c ≤ 9223372036854775807) (hd : ls.length ≤ d) (hd' : d ≤ 9223372036854775807) (hb : By w A bl) (hS : Stps w L ls) :
    Calls Try.prog 7 #[.slice A bl.length c, .slice L ls.length d] w fun e w' => e = .returned (.bool true) ∧ Ext w w' := by
  by_cases h1 : 9000 < bl.length
  · exact walks_long A L _ _ c d (.inl h1) (by omega) (by omega) w
  by_cases h2 : 300 < ls.length
  · exact walks_long A L _ _ c d (.inr ⟨by omega, h2⟩) (by omega) (by omega) w
  exact walks_in A bl c L ls d (by omega) (by omega) hc hc' hd hd' w hb hS

end Go.Proofs.Ytojgjmkkcadabaa
