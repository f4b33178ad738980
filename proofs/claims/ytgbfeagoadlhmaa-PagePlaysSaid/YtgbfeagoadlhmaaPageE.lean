
/-
  Contracts of page.Init, LSN, sum, Seal, Good, Item.
-/
import Derived.Test.YtgbfeagoadlhmaaPageD
set_option linter.unusedVariables false
set_option linter.unusedSimpArgs false
namespace Go.Proofs.Ytgbfeagoadlhmaa
open Go.RowKit Pl

/-- a page of noughts -/
def zeroP : List UInt8 := List.replicate 1024 0
theorem zeroP_length : zeroP.length = 1024 := List.length_replicate
theorem Try.page0 : (Try.prog.info? 23).map (fun i => (i.zero, i.size)) = some (some (.agg (cells8 zeroP)), 1024) := by kernel_rfl
theorem cells8_set (l : List UInt8) (i : Nat) (x : UInt8) : (cells8 l).setIfInBounds i (.int .u8 (x.toNat : Int)) = cells8 (l.set i x) := by
  apply Array.ext
  · simp [cells8]
  · intro j h1 h2
    simp [cells8] at h1 h2
    rw [Array.getElem_setIfInBounds (by simpa [cells8] using h1)]
    simp only [cells8, List.getElem_toArray, List.getElem_map, List.getElem_set]
    by_cases hij : i = j
    · subst hij; simp [u8]
    · simp [hij]
/-- a page with one byte laid -/
theorem Pg.setByte {w : World} {g : Nat} {P : List UInt8} (h : Pg w g P) (i : Nat) (x : UInt8) : Pg (w.setCell ⟨g, i, none⟩ (.int .u8 (x.toNat : Int))) g (P.set i x) :=
  ⟨by have := h.blk.set i (.int .u8 (x.toNat : Int)); rwa [cells8_set] at this, by rw [List.length_set, h.len]⟩
theorem pgSize {P : List UInt8} (h : P.length = 1024) : (Try.prog.info? 23).map (·.size) = some (cells8 P).size := by rw [cells8_size, h]; exact (zero_of_info Try.page0).2
theorem cells8_one (l : List UInt8) : (cells8 l).all (·.oneCell') = true := by
  rw [Array.all_eq_true]
  intro i hi
  simp [cells8, u8, Value.oneCell']

/-- p[:b] and p[a:] -/
theorem slice_pgh (g b : Nat) (h2 : b ≤ 1024) (w : World) : (Instr.sliceAt 23 (.pointer (some ⟨g, 0, none⟩)) none (some (.int .i64 (b : Int))) none).run Try.prog w = .ok (.slice (some ⟨g, 0, none⟩) b 1024) w := by
  rw [run_sliceAt_array_h w 23 ⟨g, 0, none⟩ Try.pgUnd .i64 b (by omega) (by rw [Try.pgLen]; omega), Try.pgElem, Try.pgLen]
  simp [slicedAt, Addr.add]
theorem slice_pgl (g a : Nat) (h2 : a < 1024) (w : World) : (Instr.sliceAt 23 (.pointer (some ⟨g, 0, none⟩)) (some (.int .i64 (a : Int))) none none).run Try.prog w = .ok (.slice (some ⟨g, a, none⟩) (1024 - a) (1024 - a)) w := by
  rw [run_sliceAt_array_l w 23 ⟨g, 0, none⟩ Try.pgUnd .i64 a (by omega) (by rw [Try.pgLen]; omega), Try.pgElem, Try.pgLen]
  simp only [Result.andThen_ok, slicedAt, Int.toNat_natCast, Nat.mul_one]
  rw [if_neg (by omega), Addr.add]
  by_cases h0 : a = 0
  · subst h0; rfl
  · rw [if_neg h0]
    simp

def initP (k : UInt8) : List UInt8 := set2 (zeroP.set 12 k) 16 1024
theorem initP_length (k : UInt8) : (initP k).length = 1024 := set2_length _ _ _ (by rw [List.length_set, zeroP_length]) (by omega)

set_option maxHeartbeats 1600000 in
set_option maxRecDepth 100000 in
theorem Init_pg (w : World) (k : UInt8) :
    Calls Try.prog 19 #[.int .u8 (k.toNat : Int)] w fun e w' => e = .returned (.agg (cells8 (initP k))) ∧ Ext w w' := by
  have HL := Lib.hid (initP_length k)
  have HIP : Hid (set2 (zeroP.set 12 k) 16 1024 = initP k) := Lib.hid rfl
  generalize initP k = Q at *
  have hz := (zero_of_info Try.page0).1
  have hz12 : (cells8 zeroP)[12]? = some (.int .u8 0) := by kernel_rfl
  have HB0 := Lib.hid (Blk.new w 23 (cells8 zeroP))
  have HP1 := Lib.hid (Pg.new (w.alloc (.cells (cells8 zeroP) 23)) (zeroP.set 12 k) (by rw [List.length_set, zeroP_length]))
  have K := Lib.hid (set_pg _ _ _ 16 1024 (by omega) (by omega) HP1.out)
  rw [World.size_alloc] at HP1 K
  rw [show ((16 : Nat) : Int) = 16 from rfl, show ((1024 : Nat) : Int) = 1024 from rfl] at K
  go_enter Try.func19, Try.ntmps19
  go_wp2_with fail
  rw [cells8_set]
  refine K.out.mono ?_
  rintro e w1 ⟨⟨v1, rfl⟩, hP1, hG1⟩
  have hB1 : Blk w1 w.heap.size 23 (cells8 zeroP) := (HB0.out.alloc _).grown hG1 (by simp)
  have hE1 : Ext w w1 := (((Ext.refl w).alloc _).alloc _).grown hG1 (by simp)
  have HE1 := Lib.hid hE1
  have HPf := Lib.hid hP1
  have HBf := Lib.hid hB1
  clear hP1 hB1 hE1 hG1
  rw [HIP.out] at HPf
  go_wp2_with (first | (refine wpList_load_row rfl 23 _ rfl _ rfl _ _ _ _ HPf.out.blk Try.pgUnd rfl (pgSize HL.out) ?_) | (refine wpList_store_row rfl 23 _ _ rfl _ _ rfl rfl _ _ HBf.out (pgSize HL.out) (by rw [cells8_size, cells8_size, HL.out, zeroP_length]) (cells8_one Q) ?_))
  refine bodyPost_ret (v := .agg (cells8 Q)) (results_cell_row Try.results19 _ _ w.heap.size _ (cells8 Q) (0, 0) _ rfl (HBf.out.row (cells8 Q)) Try.pgUnd rfl (pgSize HL.out)) rfl ⟨rfl, HE1.out.setRow (Nat.le_refl _) _⟩

set_option maxHeartbeats 1600000 in
set_option maxRecDepth 100000 in
theorem LSN_pg (w : World) (P : List UInt8) (h : P.length = 1024) :
    Calls Try.prog 24 #[.agg (cells8 P)] w fun e w' => e = .returned (.int .u64 (num (P.take 8) : Int)) ∧ Ext w w' := by
  have HP := Lib.hid (Pg.new w P h)
  have hl := HP.out.sub_len 0 8 (by omega)
  have K := Lib.hid (get_yes _ ((P.drop 0).take 8) 1024 (by rw [hl]; omega) (by rw [hl]; omega) _ (HP.out.by_ 0 8 (by omega)))
  rw [hl, List.drop_zero] at K
  have hsl := fun W => slice_pgh w.heap.size 8 (by omega) W
  clear h hl
  go_enter Try.func24, Try.ntmps24
  go_wp2_with fail
  refine K.out.mono ?_
  rintro e w' ⟨rfl, rfl⟩
  go_wp2_with fail
  go_ret
  exact ⟨rfl, ext_new w _⟩

/-- all bytes of a page but its sum's -/
def bodyP (P : List UInt8) : List UInt8 := P.take 8 ++ P.drop 12

set_option maxHeartbeats 1600000 in
set_option maxRecDepth 100000 in
theorem sum_pg (w : World) (g : Nat) (P : List UInt8) (h : Pg w g P) :
    Calls Try.prog 49 #[.pointer (some ⟨g, 0, none⟩)] w fun e w' => e = .returned (.int .u32 ((crc (bodyP P)).toNat : Int)) ∧ Ext w w' := by
  have hd : Pg w.drew g P := ⟨h.blk.drew, h.len⟩
  have hl1 := h.sub_len 0 8 (by omega)
  have hl2 := h.sub_len 12 1012 (by omega)
  have hB := Bys.two (c := 1024) (d := 1012) (hd.by_ 0 8 (by omega)) (by rw [hl1]; omega) (hd.by_ 12 1012 (by omega)) (by rw [hl2]; omega) 24
  have hf : [(P.drop 0).take 8, (P.drop 12).take 1012].flatten = bodyP P := by
    rw [List.take_of_length_le (l := P.drop 12) (by rw [List.length_drop, h.len]; decide)]; simp [bodyP]
  have hbl : (bodyP P).length ≤ 9223372036854775807 := by unfold bodyP; rw [List.length_append, List.length_take, List.length_drop, h.len]; omega
  have K := Lib.hid (csum_any _ [(P.drop 0).take 8, (P.drop 12).take 1012] 2 (by simp) (by rw [hf]; exact hbl) _ hB)
  rw [hf, hl1, hl2] at K
  rw [show [(P.drop 0).take 8, (P.drop 12).take 1012].length = 2 from rfl] at K
  have hs1 := fun W => slice_pgh g 8 (by omega) W
  have hs2 := fun W => slice_pgl g 12 (by omega) W
  clear h hd hf hB hl1 hl2
  go_enter Try.func49, Try.ntmps49
  go_wp2_with fail
  refine wp_eager Ext.pre (n := 9) (by kernel_rfl) (by kernel_rfl) ?_
  refine Eg.batchK Ext.pre (by intro c a d v w h; cases d <;> exact h) (by kernel_rfl) (n := 3) [0, 1, 2, 3, 4, 5] [] _ (by kernel_rfl) (fun K hK => ?_); (simp only [pickOps, List.getElem?_toArray, List.getElem?_cons_zero, List.getElem?_cons_succ, Option.toList_some, List.cons_append, List.nil_append]); (repeat (first | go_big_quiet_step (fail) | quiet_step (fail))); refine wpQuiet_nil (hK _ ?_); clear hK K
  refine Eg.act Ext.pre (i := 6) (n := 2) (l := [0, 1, 2, 3, 4, 5]) rfl (by kernel_rfl) ?_
  go_wp2_with fail
  refine ⟨(Ext.refl _).alloc _, ?_⟩
  refine Eg.act Ext.pre (i := 7) (n := 1) (l := [0, 1, 2, 3, 4, 5, 6]) rfl (by kernel_rfl) ?_
  go_wp2_with fail
  refine K.out.mono ?_
  rintro e w' ⟨rfl, hE⟩
  go_wp2_with fail
  refine ⟨hE, ?_⟩
  refine Eg.batchK Ext.pre (by intro c a d v w h; cases d <;> exact h) (by kernel_rfl) (n := 0) [8] [0, 1, 2, 3, 4, 5, 6, 7] _ (by kernel_rfl) (fun K hK => ?_); (simp only [pickOps, List.getElem?_toArray, List.getElem?_cons_zero, List.getElem?_cons_succ, Option.toList_some, List.cons_append, List.nil_append]); (repeat (first | go_big_quiet_step (fail) | quiet_step (fail))); refine wpQuiet_nil (hK _ ?_); clear hK K
  refine Eg.finish (by kernel_rfl) ?_
  go_wp2_with fail
  go_ret
  exact ⟨rfl, ((Ext.refl w).drew.alloc _).trans hE⟩

/-- is a page's sum right? -/
def goodB (P : List UInt8) : Bool := decide (num ((P.drop 8).take 4) = (crc (bodyP P)).toNat)

set_option maxHeartbeats 1600000 in
set_option maxRecDepth 100000 in
theorem Good_pg (w : World) (P : List UInt8) (h : P.length = 1024) :
    Calls Try.prog 23 #[.agg (cells8 P)] w fun e w' => e = .returned (.bool (goodB P)) ∧ Ext w w' := by
  have HP := Lib.hid (Pg.new w P h)
  have hl := HP.out.sub_len 8 4 (by omega)
  have K := Lib.hid (get_yes _ ((P.drop 8).take 4) 1016 (by rw [hl]; omega) (by rw [hl]; omega) _ (HP.out.by_ 8 4 (by omega)))
  have KS := Lib.hid (sum_pg _ _ _ HP.out)
  have hn := num_lt ((P.drop 8).take 4)
  rw [hl] at K hn
  have hsl := fun W => slice_pg w.heap.size 8 12 (by omega) (by omega) (by omega) W
  have HG : Hid (goodB P = decide (num ((P.drop 8).take 4) = (crc (bodyP P)).toNat)) := Lib.hid rfl
  have hc := (crc (bodyP P)).isLt
  generalize num ((P.drop 8).take 4) = n at *
  generalize (crc (bodyP P)).toNat = s at *
  have hw : (n : Int) % 4294967296 = (n : Int) := by omega
  clear h hl
  go_enter Try.func23, Try.ntmps23
  go_wp2_with fail
  refine K.out.mono ?_
  rintro e w' ⟨rfl, rfl⟩
  go_wp2_with fail
  refine KS.out.mono ?_
  rintro e w2 ⟨rfl, hE⟩
  go_wp2_with fail
  go_ret
  refine ⟨?_, (ext_new w _).trans hE⟩
  rw [HG.out]
  have : ((n : Int) == (s : Int)) = decide (n = s) := by
    by_cases hns : n = s
    · subst hns; simp
    · rw [decide_eq_false hns, beq_eq_false_iff_ne]; omega
  rw [← this]
  rfl

/-- a page with an LSN and its sum -/
def lsnP (P : List UInt8) (n : Nat) : List UInt8 := over P 0 (put n 8)
def sealP (P : List UInt8) (n : Nat) : List UInt8 := over (lsnP P n) 8 (put (crc (bodyP (lsnP P n))).toNat 4)
theorem lsnP_length (P : List UInt8) (n : Nat) (h : P.length = 1024) : (lsnP P n).length = 1024 := by
  unfold lsnP; rw [over_length _ _ _ (by rw [put_length]; omega), h]
theorem sealP_length (P : List UInt8) (n : Nat) (h : P.length = 1024) : (sealP P n).length = 1024 := by
  unfold sealP; rw [over_length _ _ _ (by rw [put_length, lsnP_length P n h]; omega), lsnP_length P n h]

set_option maxHeartbeats 1600000 in
set_option maxRecDepth 100000 in
theorem Seal_pg (w : World) (P : List UInt8) (n : Nat) (h : P.length = 1024) (hn : n < 18446744073709551616) :
    Calls Try.prog 22 #[.agg (cells8 P), .int .u64 (n : Int)] w fun e w' => e = .returned (.agg (cells8 (sealP P n))) ∧ Ext w w' := by
  have HL := Lib.hid (sealP_length P n h)
  have HS : Hid (over (lsnP P n) 8 (put (crc (bodyP (lsnP P n))).toNat 4) = sealP P n) := Lib.hid rfl
  have HLS : Hid (over P 0 (put n 8) = lsnP P n) := Lib.hid rfl
  have HLL := Lib.hid (lsnP_length P n h)
  generalize sealP P n = Q at *
  generalize lsnP P n = R at *
  have hz := (zero_of_info Try.page0).1
  have hsl := fun g W => slice_pgh g 8 (by omega) W
  have hsl2 := fun g W => slice_pg g 8 12 (by omega) (by omega) (by omega) W
  have hc := (crc (bodyP R)).isLt
  have HP0 := Lib.hid ((Pg.new w P h).ext (ext_new _ (.cells (cells8 zeroP) 23)))
  have HB0 := Lib.hid (Blk.new (w.alloc (.cells (cells8 P) 23)) 23 (cells8 zeroP))
  rw [World.size_alloc] at HB0
  have K1 := Lib.hid (put_yes n 8 (by show n < 18446744073709551616; exact hn) (by omega) (by omega) ((w.alloc (.cells (cells8 P) 23)).alloc (.cells (cells8 zeroP) 23)))
  rw [show ((8 : Nat) : Int) = 8 from rfl] at K1
  have HE0 := Lib.hid (((Ext.refl w).alloc (.cells (cells8 P) 23)).alloc (.cells (cells8 zeroP) 23))
  generalize hw0 : (w.alloc (.cells (cells8 P) 23)).alloc (.cells (cells8 zeroP) 23) = w0 at *
  clear h
  go_enter Try.func22, Try.ntmps22
  go_wp2_with fail
  clear hw0
  refine K1.out.mono ?_
  rintro e w1 ⟨g1, rfl, hB1, hg1, hE1⟩
  have HP1 := Lib.hid (HP0.out.ext hE1)
  have HR1 := Lib.hid (HB0.out.ext hE1)
  have HE1 := Lib.hid (HE0.out.trans hE1)
  have HBY := Lib.hid (By.of_blk hB1)
  have HML : Hid ((put n 8).length = min 8 8) := Lib.hid (by rw [put_length]; rfl)
  clear hB1
  go_wp2_with (with_reducible refine wpList_copy8g Try.byt rfl _ _ rfl HP1.out.blk HBY.out 0 8 1024 8 8 HML.out _ rfl rfl ?c5 ?c6 ?_)
  case c5 => rw [put_length, HP1.out.len]; decide
  intro w2 hB2 hU2
  have HP2 := Lib.hid (HP1.out.over hB2 (by rw [put_length]; decide))
  rw [HLS.out] at HP2
  have HR2 := Lib.hid (HR1.out.grown hU2.grown (by simp))
  have HE2 := Lib.hid (HE1.out.grown hU2.grown (by simp))
  have KS := Lib.hid (sum_pg w2 _ R HP2.out)
  generalize hcr : crc (bodyP R) = cr at *
  clear hB2 hU2 HE1 HR1 HP1
  go_wp2_with fail
  refine KS.out.mono ?_
  rintro e w3 ⟨rfl, hE3⟩
  have K2 := Lib.hid (put_yes cr.toNat 4 (by show cr.toNat < 4294967296; exact hc) (by omega) (by omega) w3)
  rw [show ((4 : Nat) : Int) = 4 from rfl] at K2
  generalize cr.toNat = crn at *
  go_wp2_with fail
  refine K2.out.mono ?_
  rintro e w4 ⟨g4, rfl, hB4, hg4, hE4⟩
  have hE34 := hE3.trans hE4
  have HP4 := Lib.hid (HP2.out.ext hE34)
  have HR4 := Lib.hid (HR2.out.ext hE34)
  have HE4 := Lib.hid (HE2.out.trans hE34)
  have HBY4 := Lib.hid (By.of_blk hB4)
  have HML4 : Hid ((put crn 4).length = min 4 4) := Lib.hid (by rw [put_length]; rfl)
  clear hB4 hE34 hE3 hE4
  go_wp2_with (refine wpList_copy8g (w := w4) Try.byt rfl (.tmp 27) (.tmp 28) rfl HP4.out.blk HBY4.out 8 4 1016 4 4 HML4.out (some ⟨w.heap.size, 8, none⟩) rfl rfl ?c5 (fun _ => rfl) ?_)
  case c5 => rw [put_length, HP4.out.len]; decide
  intro w5 hB5 hU5
  have HP5 := Lib.hid (HP4.out.over hB5 (by rw [put_length]; decide))
  rw [HS.out] at HP5
  have HR5 := Lib.hid (HR4.out.grown hU5.grown (by simp))
  have HE5 := Lib.hid (HE4.out.grown hU5.grown (by simp))
  clear hB5 hU5
  go_wp2_with (first | (refine wpList_load_row rfl 23 _ rfl _ rfl _ _ _ _ HP5.out.blk Try.pgUnd rfl (pgSize HL.out) ?_) | (refine wpList_store_row rfl 23 _ _ rfl _ _ rfl rfl _ _ HR5.out (pgSize HL.out) (by rw [cells8_size, cells8_size, HL.out, zeroP_length]) (cells8_one Q) ?_))
  refine bodyPost_ret (v := .agg (cells8 Q)) (results_cell_row Try.results22 _ _ (w.heap.size + 1) _ (cells8 Q) (0, 0) _ rfl (HR5.out.row (cells8 Q)) Try.pgUnd rfl (pgSize HL.out)) rfl ⟨rfl, HE5.out.setRow (by omega) _⟩

end Go.Proofs.Ytgbfeagoadlhmaa
