
/-
  Contracts of ref05.num, From, with.
-/
import Derived.Test.YtgbfeagoadlhmaaPageL
import Derived.Test.YtgbfeagoadlhmaaPageV
import Derived.Test.YtgbfeagoadlhmaaEager
import Derived.Deep.Cut
import Derived.Deep.CutRange
import Derived.Test.YtgbfeagoadlhmaaShape
import Derived.OwnWalk
import Derived.Maps.AppendAt
set_option linter.unusedVariables false
set_option linter.unusedSimpArgs false
namespace Go.Proofs.Ytgbfeagoadlhmaa
open Go.RowKit Pl

attribute [local go_sem] Oper.semAt_some

set_option maxHeartbeats 1600000 in
set_option maxRecDepth 100000 in
theorem num_ref (w : World) (P : List UInt8) (h : P.length = 1024) (a : Nat) (ha : a + 2 ≤ 1024) :
    Calls Try.prog 79 #[.agg (cells8 P), .int .i64 (a : Int)] w fun e w' => e = .returned (.int .i64 (num2 P a : Int)) ∧ Ext w w' := by
  have HV : Hid ((num2 P a : Int) = 256 * at8 P a + at8 P (a + 1)) := Lib.hid (by
    rw [num2_get P a (by omega)]
    unfold at8
    push_cast
    omega)
  have HX := Lib.hid (ext_new w (.cells (cells8 P) 23))
  have hb := Blk.new w 23 (cells8 P)
  have c0 : (w.alloc (.cells (cells8 P) 23)).cell? ⟨w.heap.size, a, none⟩ = some (.int .u8 (at8 P a)) := by rw [hb.cell]; exact cells8_get P a (by omega)
  have c1 : (w.alloc (.cells (cells8 P) 23)).cell? ⟨w.heap.size, a + 1, none⟩ = some (.int .u8 (at8 P (a + 1))) := by rw [hb.cell]; exact cells8_get P (a + 1) (by omega)
  have b0 : 0 ≤ at8 P a ∧ at8 P a ≤ 255 := ⟨at8_lo P a, at8_hi P a⟩
  have b1 : 0 ≤ at8 P (a + 1) ∧ at8 P (a + 1) ≤ 255 := ⟨at8_lo P (a + 1), at8_hi P (a + 1)⟩
  rw [HV.out]
  clear hb h HV
  generalize at8 P a = x at *
  generalize at8 P (a + 1) = y at *
  go_enter Try.func79, Try.ntmps79
  go_upto_region 1 with fail
  generalize w.alloc (.cells (cells8 P) 23) = w1 at *
  generalize w.heap.size = bp at *
  refine wp_eager Ext.pre (n := 12) (by kernel_rfl) (by kernel_rfl) ?_
  refine Eg.batchK Ext.pre (by intro c a d v w h; cases d <;> exact h) (by kernel_rfl) (n := 7) [0, 1, 5, 6, 7] [] _ (by kernel_rfl) (fun K hK => ?_); (simp only [pickOps, List.getElem?_toArray, List.getElem?_cons_zero, List.getElem?_cons_succ, Option.toList_some, List.cons_append, List.nil_append]); (repeat (first | go_big_quiet_step (fail) | quiet_step (fail))); refine wpQuiet_nil (hK _ ?_); clear hK K
  (refine Eg.read Ext.pre (by intro c a d v w h; cases d <;> exact h) (by kernel_rfl) (i := 2) (n := 6) (l := [0, 1, 5, 6, 7]) rfl (by kernel_rfl) (by kernel_rfl) rfl ⟨_, fun w' hR => load_run rfl (load_u8p (hR.cell (a := w1.drew) c0)), ?_⟩); (simp only [Act.put, List.setIfInBounds_toArray, List.getElem_toArray, List.getElem_cons_succ, List.getElem_cons_zero, List.set_cons_succ, List.set_cons_zero])
  refine Eg.batchK Ext.pre (by intro c a d v w h; cases d <;> exact h) (by kernel_rfl) (n := 4) [3, 4] [0, 1, 5, 6, 7, 2] _ (by kernel_rfl) (fun K hK => ?_); (simp only [pickOps, List.getElem?_toArray, List.getElem?_cons_zero, List.getElem?_cons_succ, Option.toList_some, List.cons_append, List.nil_append]); (repeat (first | go_big_quiet_step (fail) | quiet_step (fail))); refine wpQuiet_nil (hK _ ?_); clear hK K
  (refine Eg.read Ext.pre (by intro c a d v w h; cases d <;> exact h) (by kernel_rfl) (i := 8) (n := 3) (l := [0, 1, 5, 6, 7, 2, 3, 4]) rfl (by kernel_rfl) (by kernel_rfl) rfl ⟨_, fun w' hR => load_run rfl (load_u8p (hR.cell (a := w1.drew) c1)), ?_⟩); (simp only [Act.put, List.setIfInBounds_toArray, List.getElem_toArray, List.getElem_cons_succ, List.getElem_cons_zero, List.set_cons_succ, List.set_cons_zero])
  refine Eg.batchK Ext.pre (by intro c a d v w h; cases d <;> exact h) (by kernel_rfl) (n := 0) [9, 10, 11] [0, 1, 5, 6, 7, 2, 3, 4, 8] _ (by kernel_rfl) (fun K hK => ?_); (simp only [pickOps, List.getElem?_toArray, List.getElem?_cons_zero, List.getElem?_cons_succ, Option.toList_some, List.cons_append, List.nil_append]); (repeat (first | go_big_quiet_step (fail) | quiet_step (fail))); refine wpQuiet_nil (hK _ ?_); clear hK K
  refine Eg.finish (by kernel_rfl) ?_
  go_wp2_with fail
  go_ret
  exact ⟨rfl, HX.out.drew⟩

set_option maxRecDepth 100000 in
theorem From_ref (w : World) (P : List UInt8) (h : P.length = 1024) :
    Calls Try.prog 80 #[.agg (cells8 P)] w fun e w' => e = .returned (.int .i64 (num2 P 16 : Int)) ∧ Ext w w' := by
  have K := num_ref (w.alloc (.cells (cells8 P) 23)) P h 16 (by omega)
  rw [show ((16 : Nat) : Int) = 16 from rfl] at K
  have HP := Lib.hid (Pg.new w P h)
  have HL := Lib.hid h
  have HX := Lib.hid (ext_new w (.cells (cells8 P) 23))
  have K := Lib.hid K
  clear h
  go_enter Try.func80, Try.ntmps80
  go_wp2_with (refine wpList_load_row rfl 23 _ rfl _ rfl _ _ _ _ HP.out.blk Try.pgUnd rfl (pgSize HL.out) ?_)
  refine K.out.mono ?_
  rintro e w1 ⟨rfl, hE⟩
  have HE := Lib.hid (HX.out.trans hE)
  clear hE
  go_wp2_with fail
  go_ret
  exact ⟨rfl, HE.out⟩

theorem set2_sets {P : List UInt8} (h : P.length = 1024) {a : Nat} (ha : a + 2 ≤ 1024) (n : Nat) : set2 P a n = (P.set a (UInt8.ofNat (n / 256))).set (a + 1) (UInt8.ofNat n) := by
  apply ext_getD
  · rw [set2_length P a n h ha, List.length_set, List.length_set, h]
  · intro i hi
    clear hi
    unfold set2
    rw [over_get P a (put n 2) (by rw [put_length, h]; omega) i, put_length]
    simp only [List.getD_eq_getElem?_getD, List.getElem?_set, List.length_set, h]
    by_cases h1 : i = a + 1
    · subst h1
      rw [if_pos (by omega), if_pos rfl, if_pos (by omega), show a + 1 - a = 1 by omega, ← List.getD_eq_getElem?_getD, put_get n 2 1 (by omega)]
      simp
    · by_cases h2 : i = a
      · subst h2
        rw [if_pos (by omega), if_neg (by omega), if_pos rfl, if_pos (by omega), Nat.sub_self, ← List.getD_eq_getElem?_getD, put_get n 2 0 (by omega)]
        simp
      · rw [if_neg (by omega), if_neg (by omega), if_neg (by omega)]
set_option maxHeartbeats 1600000 in
set_option maxRecDepth 100000 in
theorem with_ref (w : World) (P : List UInt8) (h : P.length = 1024) (a n : Nat) (ha : a + 2 ≤ 1024) (hn : n < 65536) :
    Calls Try.prog 55 #[.agg (cells8 P), .int .i64 (a : Int), .int .i64 (n : Int)] w fun e w' => e = .returned (.agg (cells8 (set2 P a n))) ∧ Ext w w' := by
  have hz := (zero_of_info Try.page0).1
  obtain ⟨q, hq⟩ : ∃ q, n / 256 = q := ⟨_, rfl⟩
  obtain ⟨r, hr⟩ : ∃ r, n % 256 = r := ⟨_, rfl⟩
  have hq2 : q < 256 := by omega
  have hr2 : r < 256 := by omega
  have hdq : Int.tdiv (n : Int) 256 = (q : Int) := by rw [← hq]; exact Int.ofNat_tdiv n 256
  have hdr : Int.tmod (n : Int) 256 = (r : Int) := by rw [← hr]; exact Int.ofNat_tmod n 256
  have hxq : ((UInt8.ofNat (n / 256)).toNat : Int) = (q : Int) := by rw [UInt8.toNat_ofNat', hq, Nat.mod_eq_of_lt hq2]
  have hxr : ((UInt8.ofNat n).toNat : Int) = (r : Int) := by rw [UInt8.toNat_ofNat', ← hr]
  have hcs : ((cells8 P).setIfInBounds a (.int .u8 (q : Int))).setIfInBounds (a + 1) (.int .u8 (r : Int)) = cells8 (set2 P a n) := by
    rw [← hxq, ← hxr, cells8_set, cells8_set, ← set2_sets h ha n]
  have HCS := Lib.hid hcs
  have HLf := Lib.hid (set2_length P a n h ha)
  have c0 : (cells8 P)[a]? = some (.int .u8 (at8 P a)) := cells8_get P a (by omega)
  have c1 : (cells8 P)[a + 1]? = some (.int .u8 (at8 P (a + 1))) := cells8_get P (a + 1) (by omega)
  generalize set2 P a n = Q at *
  have HPf := Lib.hid ((Pg.new w Q HLf.out).ext (ext_new _ (.cells (cells8 zeroP) 23)))
  have hB1 := Blk.new (w.alloc (.cells (cells8 Q) 23)) 23 (cells8 zeroP)
  rw [World.size_alloc] at hB1
  have HBf := Lib.hid hB1
  have HE := Lib.hid ((ext_new w (.cells (cells8 Q) 23)).alloc (.cells (cells8 zeroP) 23))
  clear hq hr hxq hxr hB1 hcs
  go_enter Try.func55, Try.ntmps55
  go_upto_region 2 with fail
  rw [HCS.out]
  generalize (w.alloc (.cells (cells8 Q) 23)).alloc (.cells (cells8 zeroP) 23) = w2 at *
  clear c0 c1
  go_wp2_with (first | (refine wpList_load_row rfl 23 _ rfl _ rfl _ _ _ _ HPf.out.blk Try.pgUnd rfl (pgSize HLf.out) ?_) | (refine wpList_store_row rfl 23 _ _ rfl _ _ rfl rfl _ _ HBf.out (pgSize HLf.out) (by rw [cells8_size, cells8_size, HLf.out, zeroP_length]) (cells8_one Q) ?_))
  refine bodyPost_ret (v := .agg (cells8 Q)) (results_cell_row Try.results55 _ _ (w.heap.size + 1) _ (cells8 Q) (0, 0) _ rfl (HBf.out.row (cells8 Q)) Try.pgUnd rfl (pgSize HLf.out)) rfl ⟨rfl, HE.out.setRow (by omega) _⟩

end Go.Proofs.Ytgbfeagoadlhmaa

/-
  Contracts of ref05.Init, List, hole.
-/
namespace Go.Proofs.Ytgbfeagoadlhmaa
open Go.RowKit Pl

attribute [local go_sem] Oper.semAt_some

set_option maxHeartbeats 1600000 in
set_option maxRecDepth 100000 in
theorem Init_ref (w : World) (k : UInt8) :
    Calls Try.prog 27 #[.int .u8 (k.toNat : Int)] w fun e w' => e = .returned (.agg (cells8 (initP k))) ∧ Ext w w' := by
  have HL := Lib.hid (initP_length k)
  have HLZ : Hid ((zeroP.set 12 k).length = 1024) := Lib.hid (by rw [List.length_set, zeroP_length])
  have hz := (zero_of_info Try.page0).1
  have hz12 : (cells8 zeroP)[12]? = some (.int .u8 0) := by kernel_rfl
  have HB0 := Lib.hid (Blk.new w 23 (cells8 zeroP))
  have HP1 := Lib.hid (Pg.new (w.alloc (.cells (cells8 zeroP) 23)) (zeroP.set 12 k) HLZ.out)
  have K := with_ref ((w.alloc (.cells (cells8 zeroP) 23)).alloc (.cells (cells8 (zeroP.set 12 k)) 23)) (zeroP.set 12 k) HLZ.out 16 1024 (by omega) (by omega)
  rw [show ((16 : Nat) : Int) = 16 from rfl, show ((1024 : Nat) : Int) = 1024 from rfl] at K
  have HIP : Hid (set2 (zeroP.set 12 k) 16 1024 = initP k) := Lib.hid rfl
  rw [HIP.out] at K
  rw [World.size_alloc] at HP1
  have HE := Lib.hid ((ext_new w (.cells (cells8 zeroP) 23)).alloc (.cells (cells8 (zeroP.set 12 k)) 23))
  have HB1 := Lib.hid (HB0.out.alloc (.cells (cells8 (zeroP.set 12 k)) 23))
  have HCS := Lib.hid (cells8_set zeroP 12 k)
  have K := Lib.hid K
  generalize initP k = Q at *
  clear HIP HB0
  go_enter Try.func27, Try.ntmps27
  go_upto_region 3 with fail
  rw [HCS.out]
  generalize (w.alloc (.cells (cells8 zeroP) 23)).alloc (.cells (cells8 (zeroP.set 12 k)) 23) = w2 at *
  clear hz12
  go_wp2_with (refine wpList_load_row rfl 23 _ rfl _ rfl _ _ _ _ HP1.out.blk Try.pgUnd rfl (pgSize HLZ.out) ?_)
  refine K.out.mono ?_
  rintro e w3 ⟨rfl, hE⟩
  have HE3 := Lib.hid (HE.out.trans hE)
  have HB3 := Lib.hid (HB1.out.ext hE)
  clear hE
  go_wp2_with (refine wpList_store_row rfl 23 _ _ rfl _ _ rfl rfl _ _ HB3.out (pgSize HL.out) (by rw [cells8_size, cells8_size, HL.out, zeroP_length]) (cells8_one Q) ?_)
  refine bodyPost_ret (v := .agg (cells8 Q)) (results_cell_row Try.results27 _ _ w.heap.size _ (cells8 Q) (0, 0) _ rfl (HB3.out.row (cells8 Q)) Try.pgUnd rfl (pgSize HL.out)) rfl ⟨rfl, HE3.out.setRow (Nat.le_refl _) _⟩

/-! ## slots in memory -/
def slV (P : List UInt8) : Nat → List Value
  | 0 => []
  | k + 1 => slV P k ++ [.int .i64 (slotA P k : Int), .int .i64 (slotS P k : Int)]
theorem slV_length (P : List UInt8) : ∀ k, (slV P k).length = k * 2
  | 0 => rfl
  | k + 1 => by show (slV P k ++ _).length = _; rw [List.length_append, slV_length P k]; simp; omega
theorem slV_get (P : List UInt8) : ∀ (k j : Nat), j < k → (slV P k)[j * 2]? = some (.int .i64 (slotA P j : Int)) ∧ (slV P k)[j * 2 + 1]? = some (.int .i64 (slotS P j : Int))
  | 0, j, h => by omega
  | k + 1, j, h => by
    have hl := slV_length P k
    show (slV P k ++ _)[j * 2]? = _ ∧ (slV P k ++ _)[j * 2 + 1]? = _
    by_cases hj : j < k
    · rw [List.getElem?_append_left (by omega), List.getElem?_append_left (by omega)]
      exact slV_get P k j hj
    · obtain rfl : j = k := by omega
      rw [List.getElem?_append_right (by omega), List.getElem?_append_right (by omega), hl, Nat.sub_self, show j * 2 + 1 - j * 2 = 1 by omega]
      exact ⟨rfl, rfl⟩
/-- the slice at A reads as n slots of a page -/
def SlX (w : World) (A : Option Addr) (P : List UInt8) (n : Nat) : Prop :=
  n = 0 ∨ ∃ g, A = some ⟨g, 0, none⟩ ∧ ∀ i, i < n → w.cell? ⟨g, i * 2, none⟩ = some (.int .i64 (slotA P i : Int)) ∧ w.cell? ⟨g, i * 2 + 1, none⟩ = some (.int .i64 (slotS P i : Int))
theorem SlX.at_ {w : World} {A : Option Addr} {P : List UInt8} {n i : Nat} (h : SlX w A P n) (hi : i < n) : ∃ g, A = some ⟨g, 0, none⟩ ∧ w.cell? ⟨g, i * 2, none⟩ = some (.int .i64 (slotA P i : Int)) ∧ w.cell? ⟨g, i * 2 + 1, none⟩ = some (.int .i64 (slotS P i : Int)) := by
  rcases h with h | ⟨g, e, h⟩
  · omega
  · exact ⟨g, e, h i hi⟩
theorem SlX.ext {w w' : World} {A : Option Addr} {P : List UInt8} {n : Nat} (h : SlX w A P n) (hE : Ext w w') : SlX w' A P n := by
  rcases h with h | ⟨g, e, h⟩
  · exact .inl h
  · exact .inr ⟨g, e, fun i hi => ⟨hE.cell (h i hi).1, hE.cell (h i hi).2⟩⟩
theorem slots_row {w : World} {B : Nat} {v : Value} {P : List UInt8} {n : Nat} (h : w.ownsRow B 128 2 v n (slV P n)) : ∃ A c, v = .slice A n c ∧ SlX w A P n := by
  obtain ⟨h1, h2⟩ := h
  rcases h2 with ⟨rfl, h0⟩ | ⟨g, cap, cur, rfl, hb, hh, hnc, hm, hs, ht⟩
  · exact ⟨none, 0, by rw [h0], .inl h0⟩
  · refine ⟨_, cap, rfl, .inr ⟨g, rfl, fun i hi => ?_⟩⟩
    have hcell : ∀ j x, j < n * 2 → (slV P n)[j]? = some x → w.cell? ⟨g, j, none⟩ = some x := fun j x hj hx => by
      rw [Blk.cell (t := 128) hh, ← Array.getElem?_toList]
      rw [← ht, List.getElem?_take_of_lt hj] at hx
      exact hx
    exact ⟨hcell _ _ (by omega) (slV_get P n i hi).1, hcell _ _ (by omega) (slV_get P n i hi).2⟩
theorem Try.infoSl : (Try.prog.info? 128).map (fun i => (i.zero, i.size, i.bytes)) = some (some (.agg #[.int .i64 0, .int .i64 0]), 2, 16) := by kernel_rfl
theorem blk_news2 {w : World} {g : Nat} {t : TypeId} {x y : Value} (h : Blk w g t #[x, y]) : ∀ j u, [x, y][j]? = some u → w.cell? ((⟨g, 0, none⟩ : Addr).add j) = some u := by
  intro j u hj
  have e : (⟨g, 0, none⟩ : Addr).add j = ⟨g, j, none⟩ := by unfold Addr.add; split <;> simp_all
  rw [e, h.cell, ← hj]
  simp
theorem bad_slot {P : List UInt8} {k : Nat} (hk : k < num2 P 14) (h : ¬ OkV P k) : rightB P = false :=
  right_bad hk (by rw [← Bool.not_eq_true]; exact fun hs => h ((slotOk_iff P k).1 hs))
theorem bad_last {P : List UInt8} {k : Nat} (hk : k + 1 = num2 P 14) (h : slotS P k = 0) : rightB P = false := by
  rw [← Bool.not_eq_true]
  intro hr
  rcases ((right_iff P).1 hr).last with h1 | h1
  · omega
  · rw [show num2 P 14 - 1 = k by omega] at h1
    exact h1 h

set_option maxHeartbeats 1000000 in
set_option maxRecDepth 100000 in
theorem hole_ref (w : World) (A : Option Addr) (P : List UInt8) (n c : Nat) (h : SlX w A P n) (hn : n ≤ 1000) :
    Calls Try.prog 82 #[.slice A n c] w fun e w' => e = .returned (.int .i64 (emptyN P n : Int)) ∧ w = w' := by
  have H := Lib.hid h
  have HF : Hid (∀ k, k < n → slotS P k = 0 → (∀ i, i < k → slotS P i ≠ 0) → emptyN P n = k) := Lib.hid (fun k hk h0 hi => emptyFrom_found P n n 0 k (fun i _ hik => hi i hik) (Nat.zero_le _) hk (by omega) h0)
  have HN : Hid ((∀ i, i < n → slotS P i ≠ 0) → emptyN P n = n) := Lib.hid (fun hi => emptyFrom_none P n n 0 (fun i _ hik => hi i hik))
  clear h
  go_enter Try.func82, Try.ntmps82
  go_wp2_with fail
  go_loopw [3] (fun i wr => ∃ k : Nat, k ≤ n ∧ i = .int .i64 (k : Int) ∧ (∀ j, j < k → slotS P j ≠ 0) ∧ w = wr) (fun i _ => n - (intOf i).toNat)
  case atStart => exact ⟨0, Nat.zero_le _, rfl, fun j hj => by omega, rfl⟩
  case round =>
    obtain ⟨k, hk, rfl, hno, rfl⟩ := hrel
    have HNO := Lib.hid hno
    clear hno
    by_cases hkn : k < n
    · have hd : decide ((k : Int) < (n : Int)) = true := decide_eq_true (by omega)
      obtain ⟨g, rfl, c0, c1⟩ := H.out.at_ hkn
      by_cases hs : slotS P k = 0
      · have hb : ((slotS P k : Int) == 0) = true := by rw [beq_iff_eq]; omega
        have HE := Lib.hid (HF.out k hkn hs HNO.out)
        clear hs
        generalize slotS P k = s at *
        go_wp2_with fail
        go_ret
        exact ⟨by rw [HE.out]; rfl, rfl⟩
      · have hb : ((slotS P k : Int) == 0) = false := by rw [beq_eq_false_iff_ne]; omega
        have HE : Hid (∀ j, j < k + 1 → slotS P j ≠ 0) := Lib.hid (fun j hj => by
          by_cases e : j = k
          · subst e; exact hs
          · exact HNO.out j (by omega))
        clear hs
        generalize slotS P k = s at *
        go_wp2_with fail
        exact ⟨⟨k + 1, by omega, by go_num, HE.out, by trivial⟩, by simp [intOf]; omega⟩
    · obtain rfl : k = n := by omega
      have hd : decide ((k : Int) < (k : Int)) = false := decide_eq_false (by omega)
      go_wp2_with fail
      go_ret
      exact ⟨by rw [HN.out HNO.out]; rfl, rfl⟩

end Go.Proofs.Ytgbfeagoadlhmaa
