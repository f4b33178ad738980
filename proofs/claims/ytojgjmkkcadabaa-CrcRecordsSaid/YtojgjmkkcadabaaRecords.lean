/-
  The walk of CrcRecords.
-/
import Derived.Test.YtojgjmkkcadabaaKnownB
import Derived.Test.YtojgjmkkcadabaaPar
set_option linter.unusedVariables false
set_option linter.unusedSimpArgs false
namespace Go.Proofs.Ytojgjmkkcadabaa
open Go.RowKit Pl

theorem load_sl {w : World} {p : Addr} {A : Option Addr} {n c : Nat} (h : w.cell? p = some (.slice A n c)) : (Instr.loadAt 23 (.pointer (some p))).run Try.prog w = .ok (.slice A n c) w := by
  simp [go_sem, h]
theorem more_next (s : BitVec 32) (L : List (List UInt8)) (j : Nat) (h : j < L.length) : crcMore s (L.take (j + 1)).flatten = crcMore (crcMore s (L.take j).flatten) (L.getD j []) := by
  rw [take_next L j h, crcMore_app]
theorem flat_all (L : List (List UInt8)) (n : Nat) (h : L.length = n) : (L.take n).flatten = L.flatten := by rw [List.take_of_length_le (by omega)]

set_option maxHeartbeats 4000000 in
set_option maxRecDepth 100000 in
theorem records_any (A : Option Addr) (L : List (List UInt8)) (c : Nat) (s : BitVec 32) (hL : L.length ≤ 9223372036854775807) (hC : ∀ i, i < L.length → (L.getD i []).length ≤ 9223372036854775807) (w : World) (hb : Bys w A L) :
    Calls Try.prog 12 #[.slice A L.length c, .int .u32 (s.toNat : Int)] w fun e w' => e = .returned (.bool true) ∧ Ext w w' := by
  generalize hn : L.length = n at *
  have HN := Lib.hid hn
  have HB := Lib.hid hb
  have HC := Lib.hid hC
  clear hb hn hC
  go_enter Try.func12, Try.ntmps12
  go_wp2_with fail
  go_loopw [5, 6] (fun v i wr => ∃ j : Nat, j ≤ n ∧ i = .int .i64 j ∧ Own 5 wr w.heap.size v (L.take j).flatten ∧ (L.take j).flatten.length ≤ 20000 ∧ Ext w wr) (fun _ i _ => n - (intOf i).toNat)
  case atStart => exact ⟨0, Nat.zero_le _, rfl, by simpa using Own.nil _ _ _, by simp, Ext.refl _⟩
  case round =>
    obtain ⟨j, hj, rfl, hO, hlen, hE⟩ := hrel
    have HO := Lib.hid hO
    have HE := Lib.hid hE
    clear hO hE
    by_cases hlt : j < n
    · have hjd : decide ((j : Int) < (n : Int)) = true := by simp; omega
      have HT := Lib.hid (take_next L j (by rw [HN.out]; exact hlt))
      obtain ⟨b, o, rfl, Ai, ci, hc, hby, hci⟩ := HB.out.at_ (i := j) (by rw [HN.out]; exact hlt)
      have hmx := HC.out j hlt
      generalize L.getD j [] = lj at *
      generalize hm : lj.length = m at *
      have HM := Lib.hid hm
      have HBY := Lib.hid hby
      have hblt : b < w.heap.size := block_lt_of_cell hc
      clear hm hby
      generalize hP : (L.take j).flatten = pre at *
      have HP := Lib.hid hP
      clear hP
      have hc2 : wr.drew.cell? ⟨b, o + j, none⟩ = some (.slice Ai m ci) := HE.out.cell hc
      clear hc
      obtain ⟨q, hq⟩ : ∃ q, q = min m 20001 := ⟨_, rfl⟩
      have hq1 : q ≤ m := by omega
      have hq2 : q ≤ 20001 := by omega
      have hqi : (q : Int) ≤ ci := by omega
      have HQ := Lib.hid hq
      have HBQ : Hid (By wr.drew Ai (lj.take q)) := Lib.hid ((HBY.out.take q).ext HE.out.drew)
      have HLQ : Hid (q = (lj.take q).length) := by rw [List.length_take, HM.out, Nat.min_eq_left hq1]; rfl
      clear hq
      by_cases hbig : 20000 < pre.length + m
      · have hbq : 20000 < pre.length + q := by have := HQ.out; omega
        have hbd : decide ((20000 : Int) < (pre.length : Int) + (q : Int)) = true := by simp; omega
        go_wp2_with fail
        refine wp_eager (below_pre w.heap.size) (n := 14) (by kernel_rfl) (by kernel_rfl) ?_
        refine Eg.batchK (below_pre w.heap.size) (by intro c a d v w h; cases d <;> exact h) (by kernel_rfl) (n := 7) [0, 1, 2, 3, 5, 6, 7] [] _ (by kernel_rfl) (fun K hK => ?_); (simp only [pickOps, List.getElem?_toArray, List.getElem?_cons_zero, List.getElem?_cons_succ, Option.toList_some, List.cons_append, List.nil_append]); (repeat (first | go_big_quiet_step (fail) | quiet_step (fail))); refine wpQuiet_nil (hK _ ?_); clear hK K
        (refine Eg.read (below_pre w.heap.size) (by intro c a d v w h; cases d <;> exact h) (by kernel_rfl) (i := 4) (n := 6) (l := [0, 1, 2, 3, 5, 6, 7]) rfl (by kernel_rfl) (by kernel_rfl) rfl ⟨_, fun w' hR => load_run rfl (load_sl ((Below.cell (B := w.heap.size) (w := wr.drew) hR (p := ⟨b, o + j, none⟩) hblt).trans hc2)), ?_⟩); (simp only [Act.put, List.setIfInBounds_toArray])
        (refine Eg.read (below_pre w.heap.size) (by intro c a d v w h; cases d <;> exact h) (by kernel_rfl) (i := 8) (n := 5) (l := [0, 1, 2, 3, 5, 6, 7, 4]) rfl (by kernel_rfl) (by kernel_rfl) rfl ⟨_, fun w' hR => load_run rfl (load_sl ((Below.cell (B := w.heap.size) (w := wr.drew) hR (p := ⟨b, o + j, none⟩) hblt).trans hc2)), ?_⟩); (simp only [Act.put, List.setIfInBounds_toArray])
        refine Eg.batchK (below_pre w.heap.size) (by intro c a d v w h; cases d <;> exact h) (by kernel_rfl) (n := 2) [9, 10, 11] [0, 1, 2, 3, 5, 6, 7, 4, 8] _ (by kernel_rfl) (fun K hK => ?_); (simp only [pickOps, List.getElem?_toArray, List.getElem?_cons_zero, List.getElem?_cons_succ, Option.toList_some, List.cons_append, List.nil_append]); (repeat (first | go_big_quiet_step (fail) | quiet_step (fail))); refine wpQuiet_nil (hK _ ?_); clear hK K
        rw [show (if (20001 : Int) < (m : Int) then (20001 : Int) else (m : Int)) = (q : Int) by have := HQ.out; split <;> omega, Int.toNat_natCast]
        refine Eg.act (below_pre w.heap.size) (i := 12) (n := 1) (l := [0, 1, 2, 3, 5, 6, 7, 4, 8, 9, 10, 11]) rfl (by kernel_rfl) ?_
        refine wpList_append8 Try.byt rfl _ _ rfl rfl HO.out.drew _ _ _ rfl (lj.take q) HBQ.out HLQ.out ?c1 ?c2 ?_
        case c1 => (have := HLQ.out; omega)
        case c2 => exact HE.out.size
        intro v2 w2 hO2 hg2 hl2
        have hE2 : Below w.heap.size wr.drew w2 := Below.grown (Below.refl _ _) hg2 HE.out.size (fun k hk => (HO.out.lt k hk).1)
        go_wp2_with fail
        refine ⟨hE2, ?_⟩
        refine Eg.batchK (below_pre w.heap.size) (by intro c a d v w h; cases d <;> exact h) (by kernel_rfl) (n := 0) [13] [0, 1, 2, 3, 5, 6, 7, 4, 8, 9, 10, 11, 12] _ (by kernel_rfl) (fun K hK => ?_); (simp only [pickOps, List.getElem?_toArray, List.getElem?_cons_zero, List.getElem?_cons_succ, Option.toList_some, List.cons_append, List.nil_append]); (repeat (first | go_big_quiet_step (fail) | quiet_step (fail))); refine wpQuiet_nil (hK _ ?_); clear hK K
        refine Eg.finish (by kernel_rfl) ?_
        obtain ⟨A2, c2, rfl, hb2, hcc2, hcc2'⟩ := hO2.form
        have hl2' : (pre ++ lj.take q).length = pre.length + q := by rw [List.length_append, ← HLQ.out]
        have HL2 := Lib.hid hl2'
        have HO2 := Lib.hid hO2
        have HE2 : Hid (Ext w w2) := Lib.hid (Below.trans (Ext.drew HE.out : Below w.heap.size w wr.drew) hE2)
        rw [hl2'] at HO2 ⊢
        clear hl2' hO2 hb2 hcc2 hcc2' hE2 hg2 hl2
        go_wp2_with (go_at_call 40; refine (known2_any _).mono ?_; rintro e w5 ⟨rfl, hE5⟩)
        go_ret
        exact ⟨rfl, HE2.out.trans hE5⟩
      · have hqm : q = m := by have := HQ.out; omega
        subst hqm
        have hbd : decide ((20000 : Int) < (pre.length : Int) + (q : Int)) = false := by simp; omega
        go_wp2_with fail
        refine wp_eager (below_pre w.heap.size) (n := 14) (by kernel_rfl) (by kernel_rfl) ?_
        refine Eg.batchK (below_pre w.heap.size) (by intro c a d v w h; cases d <;> exact h) (by kernel_rfl) (n := 7) [0, 1, 2, 3, 5, 6, 7] [] _ (by kernel_rfl) (fun K hK => ?_); (simp only [pickOps, List.getElem?_toArray, List.getElem?_cons_zero, List.getElem?_cons_succ, Option.toList_some, List.cons_append, List.nil_append]); (repeat (first | go_big_quiet_step (fail) | quiet_step (fail))); refine wpQuiet_nil (hK _ ?_); clear hK K
        (refine Eg.read (below_pre w.heap.size) (by intro c a d v w h; cases d <;> exact h) (by kernel_rfl) (i := 4) (n := 6) (l := [0, 1, 2, 3, 5, 6, 7]) rfl (by kernel_rfl) (by kernel_rfl) rfl ⟨_, fun w' hR => load_run rfl (load_sl ((Below.cell (B := w.heap.size) (w := wr.drew) hR (p := ⟨b, o + j, none⟩) hblt).trans hc2)), ?_⟩); (simp only [Act.put, List.setIfInBounds_toArray])
        (refine Eg.read (below_pre w.heap.size) (by intro c a d v w h; cases d <;> exact h) (by kernel_rfl) (i := 8) (n := 5) (l := [0, 1, 2, 3, 5, 6, 7, 4]) rfl (by kernel_rfl) (by kernel_rfl) rfl ⟨_, fun w' hR => load_run rfl (load_sl ((Below.cell (B := w.heap.size) (w := wr.drew) hR (p := ⟨b, o + j, none⟩) hblt).trans hc2)), ?_⟩); (simp only [Act.put, List.setIfInBounds_toArray])
        refine Eg.batchK (below_pre w.heap.size) (by intro c a d v w h; cases d <;> exact h) (by kernel_rfl) (n := 2) [9, 10, 11] [0, 1, 2, 3, 5, 6, 7, 4, 8] _ (by kernel_rfl) (fun K hK => ?_); (simp only [pickOps, List.getElem?_toArray, List.getElem?_cons_zero, List.getElem?_cons_succ, Option.toList_some, List.cons_append, List.nil_append]); (repeat (first | go_big_quiet_step (fail) | quiet_step (fail))); refine wpQuiet_nil (hK _ ?_); clear hK K
        refine Eg.act (below_pre w.heap.size) (i := 12) (n := 1) (l := [0, 1, 2, 3, 5, 6, 7, 4, 8, 9, 10, 11]) rfl (by kernel_rfl) ?_
        refine wpList_append8 Try.byt rfl _ _ rfl rfl HO.out.drew _ _ _ rfl (lj.take q) HBQ.out HLQ.out ?c1 ?c2 ?_
        case c1 => (have := HLQ.out; omega)
        case c2 => exact HE.out.size
        intro v2 w2 hO2 hg2 hl2
        have hE2 : Below w.heap.size wr.drew w2 := Below.grown (Below.refl _ _) hg2 HE.out.size (fun k hk => (HO.out.lt k hk).1)
        go_wp2_with fail
        refine ⟨hE2, ?_⟩
        refine Eg.batchK (below_pre w.heap.size) (by intro c a d v w h; cases d <;> exact h) (by kernel_rfl) (n := 0) [13] [0, 1, 2, 3, 5, 6, 7, 4, 8, 9, 10, 11, 12] _ (by kernel_rfl) (fun K hK => ?_); (simp only [pickOps, List.getElem?_toArray, List.getElem?_cons_zero, List.getElem?_cons_succ, Option.toList_some, List.cons_append, List.nil_append]); (repeat (first | go_big_quiet_step (fail) | quiet_step (fail))); refine wpQuiet_nil (hK _ ?_); clear hK K
        refine Eg.finish (by kernel_rfl) ?_
        obtain ⟨A2, c2, rfl, hb2, hcc2, hcc2'⟩ := hO2.form
        have hl2' : (pre ++ lj.take q).length = pre.length + q := by rw [List.length_append, ← HLQ.out]
        have HL2 := Lib.hid hl2'
        have HO2 := Lib.hid hO2
        have HE2 : Hid (Ext w w2) := Lib.hid (Below.trans (Ext.drew HE.out : Below w.heap.size w wr.drew) hE2)
        rw [hl2'] at HO2 ⊢
        clear hl2' hO2 hb2 hcc2 hcc2' hE2 hg2 hl2
        go_wp2_with fail
        have e1 : lj.take q = lj := by rw [List.take_of_length_le (by rw [HM.out]; exact Nat.le_refl _)]
        refine ⟨⟨j + 1, by omega, by go_num, ?_, ?_, HE2.out⟩, by simp [intOf]; omega⟩
        · rw [HT.out, ← e1]; exact HO2.out
        · rw [HT.out, ← e1, HL2.out]; omega
    · obtain rfl : j = n := by omega
      have hfa := flat_all L j HN.out
      rw [hfa] at HO hlen
      have HFA := Lib.hid hfa
      obtain ⟨A5, c5, rfl, hb5, hc5, hc5'⟩ := HO.out.form
      have KS := Lib.hid (fun W (hE : Ext wr W) => csum_any A L c (by rw [HN.out]; exact hL) (by omega) W (HB.out.ext (HE.out.trans hE)))
      have KR := Lib.hid (fun W (hE : Ext wr W) => rsum_any A5 L.flatten c5 (by omega) W (hb5.ext hE))
      have KRM := Lib.hid (fun W (hE : Ext wr W) => rmore_any s A5 L.flatten c5 (by omega) W (hb5.ext hE))
      have KM := Lib.hid (fun W (hE : Ext wr W) => cmore_any s A5 L.flatten c5 (by omega) W (hb5.ext hE))
      rw [HN.out] at KS
      generalize hfl : L.flatten = all at *
      generalize hal : all.length = al at *
      clear hfl hal hb5 hc5' hfa HO
      go_wp2_with fail
      refine (csum_any none [] 0 (by decide) (by decide) _ (.inl rfl)).mono ?_
      rintro e w4 ⟨rfl, hE4⟩
      rw [k2_a]
      have HE4 := Lib.hid hE4
      have HE04 := Lib.hid (HE.out.trans hE4)
      clear hE4
      go_wp2_with fail
      obtain ⟨wo, rfl⟩ : ∃ wo : World, wo = wr := ⟨_, rfl⟩
      go_loopw [7, 8, 9] (fun x y i wr => ∃ k : Nat, k ≤ j ∧ i = .int .i64 k ∧ x = .int .u32 ((crcMore 0#32 (L.take k).flatten).toNat : Int) ∧ y = .int .u32 ((crcMore s (L.take k).flatten).toNat : Int) ∧ Ext wo wr) (fun _ _ i _ => j - (intOf i).toNat)
      case atStart => exact ⟨0, Nat.zero_le _, rfl, (by rw [List.take_zero]; exact congrArg (Value.int .u32) k2_a.symm), (by rw [List.take_zero]; show _ = Value.int _ ((crcMore s []).toNat : Int); unfold crcMore; rw [reg_nil, not_not32]), HE4.out⟩
      case round =>
        obtain ⟨k, hk, rfl, rfl, rfl, hEk⟩ := hrel
        have HEk := Lib.hid hEk
        have HE0k := Lib.hid (HE.out.trans hEk)
        clear hEk
        by_cases hlt2 : k < j
        · have hkd : decide ((k : Int) < (j : Int)) = true := by simp; omega
          have HX1 := Lib.hid (more_next 0#32 L k (by rw [HN.out]; exact hlt2))
          have HX2 := Lib.hid (more_next s L k (by rw [HN.out]; exact hlt2))
          generalize crcMore 0#32 (L.take k).flatten = x at *
          generalize crcMore s (L.take k).flatten = y at *
          obtain ⟨b, o, rfl, Ai, ci, hc, hby, hci⟩ := HB.out.at_ (i := k) (by rw [HN.out]; exact hlt2)
          have hmx := HC.out k hlt2
          have K1 := Lib.hid (fun W (hE : Ext w W) => cmore_any x Ai (L.getD k []) ci hmx W (hby.ext hE))
          have K2 := Lib.hid (fun W (hE : Ext w W) => cmore_any y Ai (L.getD k []) ci hmx W (hby.ext hE))
          generalize L.getD k [] = lk at *
          generalize lk.length = m at *
          have hc2 : wr.drew.cell? ⟨b, o + k, none⟩ = some (.slice Ai m ci) := HE0k.out.cell hc
          clear hc hby
          go_wp2_with fail
          refine wp_eager Ext.pre (n := 14) (by kernel_rfl) (by kernel_rfl) ?_
          refine Eg.batchK Ext.pre (by intro c a d v w h; cases d <;> exact h) (by kernel_rfl) (n := 6) [0, 1, 2, 3, 6, 7, 8, 9] [] _ (by kernel_rfl) (fun K hK => ?_); (simp only [pickOps, List.getElem?_toArray, List.getElem?_cons_zero, List.getElem?_cons_succ, Option.toList_some, List.cons_append, List.nil_append]); (repeat (first | go_big_quiet_step (fail) | quiet_step (fail))); refine wpQuiet_nil (hK _ ?_); clear hK K
          (refine Eg.read Ext.pre (by intro c a d v w h; cases d <;> exact h) (by kernel_rfl) (i := 4) (n := 5) (l := [0, 1, 2, 3, 6, 7, 8, 9]) rfl (by kernel_rfl) (by kernel_rfl) rfl ⟨_, fun w' hR => load_run rfl (load_sl (hR.cell hc2)), ?_⟩); (simp only [Act.put, List.setIfInBounds_toArray])
          (refine Eg.read Ext.pre (by intro c a d v w h; cases d <;> exact h) (by kernel_rfl) (i := 10) (n := 4) (l := [0, 1, 2, 3, 6, 7, 8, 9, 4]) rfl (by kernel_rfl) (by kernel_rfl) rfl ⟨_, fun w' hR => load_run rfl (load_sl (hR.cell hc2)), ?_⟩); (simp only [Act.put, List.setIfInBounds_toArray])
          refine Eg.act Ext.pre (i := 5) (n := 3) (l := [0, 1, 2, 3, 6, 7, 8, 9, 4, 10]) rfl (by kernel_rfl) ?_
          go_wp2_with fail
          refine (K1.out _ HE0k.out.drew).mono ?_
          rintro e w5 ⟨rfl, hE5⟩
          go_wp2_with fail
          refine ⟨hE5, ?_⟩
          refine Eg.act Ext.pre (i := 11) (n := 2) (l := [0, 1, 2, 3, 6, 7, 8, 9, 4, 10, 5]) rfl (by kernel_rfl) ?_
          go_wp2_with fail
          refine (K2.out _ (HE0k.out.drew.trans hE5)).mono ?_
          rintro e w6 ⟨rfl, hE6⟩
          go_wp2_with fail
          refine ⟨hE6, ?_⟩
          refine Eg.batchK Ext.pre (by intro c a d v w h; cases d <;> exact h) (by kernel_rfl) (n := 0) [12, 13] [0, 1, 2, 3, 6, 7, 8, 9, 4, 10, 5, 11] _ (by kernel_rfl) (fun K hK => ?_); (simp only [pickOps, List.getElem?_toArray, List.getElem?_cons_zero, List.getElem?_cons_succ, Option.toList_some, List.cons_append, List.nil_append]); (repeat (first | go_big_quiet_step (fail) | quiet_step (fail))); refine wpQuiet_nil (hK _ ?_); clear hK K
          refine Eg.finish (by kernel_rfl) ?_
          have HE6 := Lib.hid ((HEk.out.drew.trans hE5).trans hE6)
          clear hE5 hE6
          go_wp2_with fail
          exact ⟨⟨k + 1, by omega, by go_num, by rw [HX1.out], by rw [HX2.out], HE6.out⟩, by simp [intOf]; omega⟩
        · obtain rfl : k = j := by omega
          rw [HFA.out]
          go_wp2_with fail
          refine (KS.out _ HEk.out).mono ?_
          rintro e w5 ⟨rfl, hE5⟩
          have h05 := HEk.out.trans hE5
          go_wp2_with fail
          refine (KR.out _ h05).mono ?_
          rintro e w' ⟨rfl, rfl⟩
          rw [crc_more]
          go_wp2_with fail
          refine (KR.out _ h05).mono ?_
          rintro e w' ⟨rfl, rfl⟩
          rw [crc_more]
          go_wp2_with fail
          refine (KRM.out _ h05).mono ?_
          rintro e w' ⟨rfl, rfl⟩
          go_wp2_with fail
          refine (KM.out _ h05).mono ?_
          rintro e w6 ⟨rfl, hE6⟩
          go_wp2_with fail
          refine (known2_any _).mono ?_
          rintro e w7 ⟨rfl, hE7⟩
          go_wp2
          go_ret
          exact ⟨rfl, ((HE.out.trans h05).trans hE6).trans hE7⟩

theorem records_all (A : Option Addr) (L : List (List UInt8)) (c : Nat) (s : Int) (hs : 0 ≤ s ∧ s ≤ 4294967295) (hL : L.length ≤ 9223372036854775807) (hC : ∀ i, i < L.length → (L.getD i []).length ≤ 9223372036854775807) (w : World) (hb : Bys w A L) :
    Calls Try.prog 12 #[.slice A L.length c, .int .u32 s] w fun e w' => e = .returned (.bool true) ∧ Ext w w' := by
  obtain ⟨r, rfl⟩ := as32 s hs
  exact records_any A L c r hL hC w hb

end Go.Proofs.Ytojgjmkkcadabaa
