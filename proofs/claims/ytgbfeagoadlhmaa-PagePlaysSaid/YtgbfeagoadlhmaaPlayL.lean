
/-
  Contract of ref05.Do (by playl.py).
-/
import Derived.Test.YtgbfeagoadlhmaaDoB
import Derived.Test.YtgbfeagoadlhmaaPlayH
import Derived.Test.YtgbfeagoadlhmaaPlayF
import Derived.Test.YtgbfeagoadlhmaaStp
set_option linter.unusedVariables false
set_option linter.unusedSimpArgs false
namespace Go.Proofs.Ytgbfeagoadlhmaa
open Go.RowKit Pl

/-- the byte that a step spoils -/
def spotN (n : Int) : Nat := ((n.tmod 1024 + 1024).tmod 1024).toNat
theorem spot_is (n : Int) : (-1024 < n.tmod 1024 ∧ n.tmod 1024 < 1024) ∧ (n.tmod 1024 + 1024).tmod 1024 = (spotN n : Int) ∧ spotN n < 1024 := by
  have h1 : -1024 < n.tmod 1024 := Int.lt_tmod_of_pos n (by decide)
  have h2 : n.tmod 1024 < 1024 := Int.tmod_lt_of_pos n (by decide)
  have h3 : 0 ≤ (n.tmod 1024 + 1024).tmod 1024 := Int.tmod_nonneg 1024 (by omega)
  have h4 : (n.tmod 1024 + 1024).tmod 1024 < 1024 := Int.tmod_lt_of_pos _ (by decide)
  unfold spotN
  omega
/-- what a step makes of a page -/
def doF (P : List UInt8) (s : Stp) : List UInt8 := if s.kind = 5 then P.set (spotN s.n) s.by_ else doQ P s
theorem doQ_length {P : List UInt8} (h : P.length = 1024) (s : Stp) : (doQ P s).length = 1024 := by
  unfold doQ
  split
  · unfold rawQ
    split
    · exact insR_length h _
    · split
      · exact dropR_length h _
      · split
        · exact setR_length h _ _
        · split
          · exact packR_length h
          · split
            · exact sealP_length P _ h
            · exact h
  · exact h
theorem doF_length {P : List UInt8} (h : P.length = 1024) (s : Stp) : (doF P s).length = 1024 := by
  unfold doF
  split
  · rw [List.length_set, h]
  · exact doQ_length h s

set_option maxHeartbeats 8000000 in
set_option maxRecDepth 100000 in
theorem Do_any (w : World) (P : List UInt8) (h : P.length = 1024) (k n : Int) (b : List UInt8) (y : UInt8) (lsn : Nat) (A : Option Addr) (c : Nat) (hb : By w A b) (hn1 : -9223372036854775808 ≤ n) (hn2 : n ≤ 9223372036854775807) (hbl : b.length < 2 ^ 62) (hlsn : lsn < 18446744073709551616) :
    Calls Try.prog 29 #[.agg (cells8 P), .agg (stepC ⟨k, n, b, y, lsn⟩ A c)] w fun e w' => e = .returned (.tuple #[.agg (cells8 (doF P ⟨k, n, b, y, lsn⟩)), .int .i64 (rawN P ⟨k, n, b, y, lsn⟩ : Int), .int .i64 (rawE P ⟨k, n, b, y, lsn⟩ : Int)]) ∧ Ext w w' := by
  have hz := (zero_of_info Try.page0).1
  have HZ := Lib.hid zeroP_length
  have HPL := Lib.hid h
  have HRZ := Lib.hid (raw_zero P ⟨k, n, b, y, lsn⟩)
  have hST : stepC ⟨k, n, b, y, lsn⟩ A c = #[.int .i64 k, .int .i64 n, .slice A b.length c, .int .u8 (y.toNat : Int), .int .u64 (lsn : Int)] := rfl
  rw [hST]
  have HS0 := Lib.hid (Blk.new (w.alloc (.cells (cells8 P) 23)) 45 #[.int .i64 k, .int .i64 n, .slice A b.length c, .int .u8 (y.toNat : Int), .int .u64 (lsn : Int)])
  have HR0 := Lib.hid (Blk.new ((w.alloc (.cells (cells8 P) 23)).alloc (.cells #[.int .i64 k, .int .i64 n, .slice A b.length c, .int .u8 (y.toNat : Int), .int .u64 (lsn : Int)] 45)) 23 (cells8 zeroP))
  have HP0 := Lib.hid (((Pg.new w P h).ext (ext_new _ (.cells #[.int .i64 k, .int .i64 n, .slice A b.length c, .int .u8 (y.toNat : Int), .int .u64 (lsn : Int)] 45))).ext (ext_new _ (.cells (cells8 zeroP) 23)))
  have HS1 := Lib.hid (HS0.out.ext (ext_new _ (.cells (cells8 zeroP) 23)))
  simp only [World.size_alloc] at HS1 HR0
  have HE0 := Lib.hid (((ext_new w (.cells (cells8 P) 23)).alloc (.cells #[.int .i64 k, .int .i64 n, .slice A b.length c, .int .u8 (y.toNat : Int), .int .u64 (lsn : Int)] 45)).alloc (.cells (cells8 zeroP) 23))
  have hs0 : (((w.alloc (.cells (cells8 P) 23)).alloc (.cells #[.int .i64 k, .int .i64 n, .slice A b.length c, .int .u8 (y.toNat : Int), .int .u64 (lsn : Int)] 45)).alloc (.cells (cells8 zeroP) 23)).heap.size = w.heap.size + 3 := by simp
  have hs1 : w.heap.size + 1 + 1 = w.heap.size + 2 := rfl
  generalize zeroP = Z at *
  generalize hw0 : ((w.alloc (.cells (cells8 P) 23)).alloc (.cells #[.int .i64 k, .int .i64 n, .slice A b.length c, .int .u8 (y.toNat : Int), .int .u64 (lsn : Int)] 45)).alloc (.cells (cells8 Z) 23) = w0 at *
  have hl0 := load_pg HP0.out.blk h
  have HB0 := Lib.hid (Blk.new w0 23 (cells8 Z))
  have HX := Lib.hid (((Ext.refl w0).alloc (.cells (cells8 Z) 23)).setRow (Nat.le_refl _) (cells8 P))
  rw [hs0] at HB0 HX
  rw [← hs1] at HR0
  go_enter Try.func29, Try.ntmps29
  have HW1 : Hid (∃ w1, w1 = (w0.alloc (.cells (cells8 Z) 23)).setRow (w.heap.size + 3) (cells8 P)) := Lib.hid ⟨_, rfl⟩
  obtain ⟨w1, hw1⟩ := HW1.out
  have HQ1 := Lib.hid (HB0.out.row (cells8 P))
  have HP1 := Lib.hid (HP0.out.ext HX.out)
  have HS2 := Lib.hid (HS1.out.ext HX.out)
  have HR1 := Lib.hid (HR0.out.ext HX.out)
  have HE1 := Lib.hid (HE0.out.trans HX.out)
  rw [← hw1] at HQ1 HP1 HS2 HR1 HE1
  have hl1 := load_pg HP1.out.blk h
  have c0 : w1.cell? ⟨w.heap.size + 1, 0, none⟩ = some (.int .i64 k) := by rw [HS2.out.cell]; rfl
  have c1 : w1.cell? ⟨w.heap.size + 1, 1, none⟩ = some (.int .i64 n) := by rw [HS2.out.cell]; rfl
  have c2 : w1.cell? ⟨w.heap.size + 1, 2, none⟩ = some (.slice A b.length c) := by rw [HS2.out.cell]; rfl
  have c3 : w1.cell? ⟨w.heap.size + 1, 3, none⟩ = some (.int .u8 (y.toNat : Int)) := by rw [HS2.out.cell]; rfl
  have c4 : w1.cell? ⟨w.heap.size + 1, 4, none⟩ = some (.int .u64 (lsn : Int)) := by rw [HS2.out.cell]; rfl
  have hnat : ∀ x : Nat, ((x : Nat) : Int) = (x : Int) := fun _ => rfl
  clear hST HS0 HS1 HR0 HW1 hs1
  by_cases hk1 : k = 1
  · subst hk1
    have K := Lib.hid (Insert_ref w1 P A b c h (hb.ext HE1.out) hbl)
    have HQL : Hid ((insR P b).length = 1024) := Lib.hid (insR_length h b)
    have HD : Hid (rawE P ⟨1, n, b, y, lsn⟩ = insE P b.length ∧ rawQ P ⟨1, n, b, y, lsn⟩ = insR P b ∧ rawN P ⟨1, n, b, y, lsn⟩ = insN P b.length) := Lib.hid ⟨rfl, rfl, rfl⟩
    have HDQ : Hid (doF P ⟨1, n, b, y, lsn⟩ = if rawE P ⟨1, n, b, y, lsn⟩ = 0 then rawQ P ⟨1, n, b, y, lsn⟩ else P) := Lib.hid rfl
    rw [HD.out.1, HD.out.2.1] at HDQ HRZ
    rw [HD.out.2.2] at HRZ
    rw [HDQ.out, HD.out.1, HD.out.2.2]
    generalize insN P b.length = sn at *
    generalize insE P b.length = en at *
    generalize insR P b = Q at *
    by_cases he : en = 0
    · subst he
      rw [if_pos rfl] at HDQ
      simp only [if_true]
      rw [show ((0 : Nat) : Int) = 0 from rfl] at K ⊢
      go_wp2_with (first | (refine wpList_load_g rfl 23 _ rfl _ rfl _ hl0 ?_) | (refine wpList_store_row rfl 23 _ _ rfl _ _ rfl rfl _ _ HB0.out (pgSize h) (by rw [cells8_size, cells8_size, h, HZ.out]) (cells8_one P) ?_; rw [← hw1]; clear hw1 HX HB0 HP0 HE0 hw0) | (refine wpList_load_g rfl 23 _ rfl _ rfl _ hl1 ?_))
      refine K.out.mono ?_
      rintro e w2 ⟨rfl, hE2⟩
      have HQ2 := Lib.hid (HQ1.out.ext hE2)
      have HR2 := Lib.hid (HR1.out.ext hE2)
      have HP2 := Lib.hid (HP1.out.ext hE2)
      have HE2 := Lib.hid (HE1.out.trans hE2)
      clear hE2 K HQ1 HR1 HP1 HE1 hl1 hl0 c0 c1 c2 c3 c4 HS2 HDQ HD
      go_wp2_with (first | (refine wpList_store_row rfl 23 _ _ rfl _ _ rfl rfl _ _ HQ2.out (pgSize HQL.out) (by rw [cells8_size, cells8_size, HQL.out, HPL.out]) (cells8_one _) ?_; have HQ3 := Lib.hid (HQ2.out.row (cells8 Q)); have HR3 := Lib.hid (HR2.out.rowFar (cells8 Q) (k := w.heap.size + 3) (by omega)); have HE3 := Lib.hid (HE2.out.setRow (g := w.heap.size + 3) (by omega) (cells8 Q)); have hl3 := load_pg HQ3.out HQL.out; generalize w2.setRow (w.heap.size + 3) (cells8 Q) = w3 at *; clear HQ2 HR2 HE2) | (refine wpList_load_g rfl 23 _ rfl _ rfl _ hl3 ?_) | (refine wpList_store_row rfl 23 _ _ rfl _ _ rfl rfl _ _ HR3.out (pgSize HQL.out) (by rw [cells8_size, cells8_size, HQL.out, HZ.out]) (cells8_one _) ?_))
      exact bodyPost_ret (results_row3 Try.results29 _ _ (w.heap.size + 1 + 1) _ (cells8 Q) (0, 0) _ rfl (HR3.out.row (cells8 Q)) Try.pgUnd rfl (pgSize HQL.out)) rfl ⟨rfl, HE3.out.setRow (by omega) _⟩
    · obtain ⟨hqz, hsn⟩ := HRZ.out he
      replace hqz := hqz.symm
      subst hqz
      rw [if_neg he]
      subst hsn
      rw [show ((0 : Nat) : Int) = 0 from rfl] at K ⊢
      go_wp2_with (first | (refine wpList_load_g rfl 23 _ rfl _ rfl _ hl0 ?_) | (refine wpList_store_row rfl 23 _ _ rfl _ _ rfl rfl _ _ HB0.out (pgSize h) (by rw [cells8_size, cells8_size, h, HZ.out]) (cells8_one P) ?_; rw [← hw1]; clear hw1 HX HB0 HP0 HE0 hw0) | (refine wpList_load_g rfl 23 _ rfl _ rfl _ hl1 ?_))
      refine K.out.mono ?_
      rintro e w2 ⟨rfl, hE2⟩
      have HQ2 := Lib.hid (HQ1.out.ext hE2)
      have HR2 := Lib.hid (HR1.out.ext hE2)
      have HP2 := Lib.hid (HP1.out.ext hE2)
      have HE2 := Lib.hid (HE1.out.trans hE2)
      clear hE2 K HQ1 HR1 HP1 HE1 hl1 hl0 c0 c1 c2 c3 c4 HS2 HDQ HD
      have henb : ((en : Int) != 0) = true := by rw [bne_iff_ne]; omega
      go_wp2_with (first | (refine wpList_store_row rfl 23 _ _ rfl _ _ rfl rfl _ _ HQ2.out (pgSize HZ.out) (by rw [cells8_size, cells8_size, HZ.out, HPL.out]) (cells8_one _) ?_; have HQ3 := Lib.hid (HQ2.out.row (cells8 Z)); have HR3 := Lib.hid (HR2.out.rowFar (cells8 Z) (k := w.heap.size + 3) (by omega)); have HP3 := Lib.hid (HP2.out.blk.rowFar (cells8 Z) (k := w.heap.size + 3) (by omega)); have HE3 := Lib.hid (HE2.out.setRow (g := w.heap.size + 3) (by omega) (cells8 Z)); have hl3 := load_pg HP3.out HPL.out; generalize w2.setRow (w.heap.size + 3) (cells8 Z) = w3 at *; clear HQ2 HR2 HE2 HP2) | (refine wpList_load_g rfl 23 _ rfl _ rfl _ hl3 ?_) | (refine wpList_store_row rfl 23 _ _ rfl _ _ rfl rfl _ _ HR3.out (pgSize HPL.out) (by rw [cells8_size, cells8_size, HPL.out, HZ.out]) (cells8_one _) ?_))
      exact bodyPost_ret (results_row3 Try.results29 _ _ (w.heap.size + 1 + 1) _ (cells8 P) (0, 0) _ rfl (HR3.out.row (cells8 P)) Try.pgUnd rfl (pgSize HPL.out)) rfl ⟨rfl, HE3.out.setRow (by omega) _⟩
  by_cases hk2 : k = 2
  · subst hk2
    have K := Lib.hid (Drop_ref w1 P n h hn1 hn2)
    have HQL : Hid ((dropR P n).length = 1024) := Lib.hid (dropR_length h n)
    have HD : Hid (rawE P ⟨2, n, b, y, lsn⟩ = itemE P n ∧ rawQ P ⟨2, n, b, y, lsn⟩ = dropR P n ∧ rawN P ⟨2, n, b, y, lsn⟩ = 0) := Lib.hid ⟨rfl, rfl, rfl⟩
    have HDQ : Hid (doF P ⟨2, n, b, y, lsn⟩ = if rawE P ⟨2, n, b, y, lsn⟩ = 0 then rawQ P ⟨2, n, b, y, lsn⟩ else P) := Lib.hid rfl
    rw [HD.out.1, HD.out.2.1] at HDQ HRZ
    rw [HD.out.2.2] at HRZ
    rw [HDQ.out, HD.out.1, HD.out.2.2]
    generalize itemE P n = en at *
    generalize dropR P n = Q at *
    by_cases he : en = 0
    · subst he
      rw [if_pos rfl] at HDQ
      simp only [if_true]
      rw [show ((0 : Nat) : Int) = 0 from rfl] at K ⊢
      go_wp2_with (first | (refine wpList_load_g rfl 23 _ rfl _ rfl _ hl0 ?_) | (refine wpList_store_row rfl 23 _ _ rfl _ _ rfl rfl _ _ HB0.out (pgSize h) (by rw [cells8_size, cells8_size, h, HZ.out]) (cells8_one P) ?_; rw [← hw1]; clear hw1 HX HB0 HP0 HE0 hw0) | (refine wpList_load_g rfl 23 _ rfl _ rfl _ hl1 ?_))
      refine K.out.mono ?_
      rintro e w2 ⟨rfl, hE2⟩
      have HQ2 := Lib.hid (HQ1.out.ext hE2)
      have HR2 := Lib.hid (HR1.out.ext hE2)
      have HP2 := Lib.hid (HP1.out.ext hE2)
      have HE2 := Lib.hid (HE1.out.trans hE2)
      clear hE2 K HQ1 HR1 HP1 HE1 hl1 hl0 c0 c1 c2 c3 c4 HS2 HDQ HD
      go_wp2_with (first | (refine wpList_store_row rfl 23 _ _ rfl _ _ rfl rfl _ _ HQ2.out (pgSize HQL.out) (by rw [cells8_size, cells8_size, HQL.out, HPL.out]) (cells8_one _) ?_; have HQ3 := Lib.hid (HQ2.out.row (cells8 Q)); have HR3 := Lib.hid (HR2.out.rowFar (cells8 Q) (k := w.heap.size + 3) (by omega)); have HE3 := Lib.hid (HE2.out.setRow (g := w.heap.size + 3) (by omega) (cells8 Q)); have hl3 := load_pg HQ3.out HQL.out; generalize w2.setRow (w.heap.size + 3) (cells8 Q) = w3 at *; clear HQ2 HR2 HE2) | (refine wpList_load_g rfl 23 _ rfl _ rfl _ hl3 ?_) | (refine wpList_store_row rfl 23 _ _ rfl _ _ rfl rfl _ _ HR3.out (pgSize HQL.out) (by rw [cells8_size, cells8_size, HQL.out, HZ.out]) (cells8_one _) ?_))
      exact bodyPost_ret (results_row3 Try.results29 _ _ (w.heap.size + 1 + 1) _ (cells8 Q) (0, 0) _ rfl (HR3.out.row (cells8 Q)) Try.pgUnd rfl (pgSize HQL.out)) rfl ⟨rfl, HE3.out.setRow (by omega) _⟩
    · obtain ⟨hqz, hsn⟩ := HRZ.out he
      replace hqz := hqz.symm
      subst hqz
      rw [if_neg he]
      rw [show ((0 : Nat) : Int) = 0 from rfl]
      go_wp2_with (first | (refine wpList_load_g rfl 23 _ rfl _ rfl _ hl0 ?_) | (refine wpList_store_row rfl 23 _ _ rfl _ _ rfl rfl _ _ HB0.out (pgSize h) (by rw [cells8_size, cells8_size, h, HZ.out]) (cells8_one P) ?_; rw [← hw1]; clear hw1 HX HB0 HP0 HE0 hw0) | (refine wpList_load_g rfl 23 _ rfl _ rfl _ hl1 ?_))
      refine K.out.mono ?_
      rintro e w2 ⟨rfl, hE2⟩
      have HQ2 := Lib.hid (HQ1.out.ext hE2)
      have HR2 := Lib.hid (HR1.out.ext hE2)
      have HP2 := Lib.hid (HP1.out.ext hE2)
      have HE2 := Lib.hid (HE1.out.trans hE2)
      clear hE2 K HQ1 HR1 HP1 HE1 hl1 hl0 c0 c1 c2 c3 c4 HS2 HDQ HD
      have henb : ((en : Int) != 0) = true := by rw [bne_iff_ne]; omega
      go_wp2_with (first | (refine wpList_store_row rfl 23 _ _ rfl _ _ rfl rfl _ _ HQ2.out (pgSize HZ.out) (by rw [cells8_size, cells8_size, HZ.out, HPL.out]) (cells8_one _) ?_; have HQ3 := Lib.hid (HQ2.out.row (cells8 Z)); have HR3 := Lib.hid (HR2.out.rowFar (cells8 Z) (k := w.heap.size + 3) (by omega)); have HP3 := Lib.hid (HP2.out.blk.rowFar (cells8 Z) (k := w.heap.size + 3) (by omega)); have HE3 := Lib.hid (HE2.out.setRow (g := w.heap.size + 3) (by omega) (cells8 Z)); have hl3 := load_pg HP3.out HPL.out; generalize w2.setRow (w.heap.size + 3) (cells8 Z) = w3 at *; clear HQ2 HR2 HE2 HP2) | (refine wpList_load_g rfl 23 _ rfl _ rfl _ hl3 ?_) | (refine wpList_store_row rfl 23 _ _ rfl _ _ rfl rfl _ _ HR3.out (pgSize HPL.out) (by rw [cells8_size, cells8_size, HPL.out, HZ.out]) (cells8_one _) ?_))
      exact bodyPost_ret (results_row3 Try.results29 _ _ (w.heap.size + 1 + 1) _ (cells8 P) (0, 0) _ rfl (HR3.out.row (cells8 P)) Try.pgUnd rfl (pgSize HPL.out)) rfl ⟨rfl, HE3.out.setRow (by omega) _⟩
  by_cases hk3 : k = 3
  · subst hk3
    have K := Lib.hid (Set_ref w1 P n A b c h (hb.ext HE1.out) hbl hn1 hn2)
    have HQL : Hid ((setR P n b).length = 1024) := Lib.hid (setR_length h n b)
    have HD : Hid (rawE P ⟨3, n, b, y, lsn⟩ = setE P n b.length ∧ rawQ P ⟨3, n, b, y, lsn⟩ = setR P n b ∧ rawN P ⟨3, n, b, y, lsn⟩ = 0) := Lib.hid ⟨rfl, rfl, rfl⟩
    have HDQ : Hid (doF P ⟨3, n, b, y, lsn⟩ = if rawE P ⟨3, n, b, y, lsn⟩ = 0 then rawQ P ⟨3, n, b, y, lsn⟩ else P) := Lib.hid rfl
    rw [HD.out.1, HD.out.2.1] at HDQ HRZ
    rw [HD.out.2.2] at HRZ
    rw [HDQ.out, HD.out.1, HD.out.2.2]
    generalize setE P n b.length = en at *
    generalize setR P n b = Q at *
    by_cases he : en = 0
    · subst he
      rw [if_pos rfl] at HDQ
      simp only [if_true]
      rw [show ((0 : Nat) : Int) = 0 from rfl] at K ⊢
      go_wp2_with (first | (refine wpList_load_g rfl 23 _ rfl _ rfl _ hl0 ?_) | (refine wpList_store_row rfl 23 _ _ rfl _ _ rfl rfl _ _ HB0.out (pgSize h) (by rw [cells8_size, cells8_size, h, HZ.out]) (cells8_one P) ?_; rw [← hw1]; clear hw1 HX HB0 HP0 HE0 hw0) | (refine wpList_load_g rfl 23 _ rfl _ rfl _ hl1 ?_))
      refine K.out.mono ?_
      rintro e w2 ⟨rfl, hE2⟩
      have HQ2 := Lib.hid (HQ1.out.ext hE2)
      have HR2 := Lib.hid (HR1.out.ext hE2)
      have HP2 := Lib.hid (HP1.out.ext hE2)
      have HE2 := Lib.hid (HE1.out.trans hE2)
      clear hE2 K HQ1 HR1 HP1 HE1 hl1 hl0 c0 c1 c2 c3 c4 HS2 HDQ HD
      go_wp2_with (first | (refine wpList_store_row rfl 23 _ _ rfl _ _ rfl rfl _ _ HQ2.out (pgSize HQL.out) (by rw [cells8_size, cells8_size, HQL.out, HPL.out]) (cells8_one _) ?_; have HQ3 := Lib.hid (HQ2.out.row (cells8 Q)); have HR3 := Lib.hid (HR2.out.rowFar (cells8 Q) (k := w.heap.size + 3) (by omega)); have HE3 := Lib.hid (HE2.out.setRow (g := w.heap.size + 3) (by omega) (cells8 Q)); have hl3 := load_pg HQ3.out HQL.out; generalize w2.setRow (w.heap.size + 3) (cells8 Q) = w3 at *; clear HQ2 HR2 HE2) | (refine wpList_load_g rfl 23 _ rfl _ rfl _ hl3 ?_) | (refine wpList_store_row rfl 23 _ _ rfl _ _ rfl rfl _ _ HR3.out (pgSize HQL.out) (by rw [cells8_size, cells8_size, HQL.out, HZ.out]) (cells8_one _) ?_))
      exact bodyPost_ret (results_row3 Try.results29 _ _ (w.heap.size + 1 + 1) _ (cells8 Q) (0, 0) _ rfl (HR3.out.row (cells8 Q)) Try.pgUnd rfl (pgSize HQL.out)) rfl ⟨rfl, HE3.out.setRow (by omega) _⟩
    · obtain ⟨hqz, hsn⟩ := HRZ.out he
      replace hqz := hqz.symm
      subst hqz
      rw [if_neg he]
      rw [show ((0 : Nat) : Int) = 0 from rfl]
      go_wp2_with (first | (refine wpList_load_g rfl 23 _ rfl _ rfl _ hl0 ?_) | (refine wpList_store_row rfl 23 _ _ rfl _ _ rfl rfl _ _ HB0.out (pgSize h) (by rw [cells8_size, cells8_size, h, HZ.out]) (cells8_one P) ?_; rw [← hw1]; clear hw1 HX HB0 HP0 HE0 hw0) | (refine wpList_load_g rfl 23 _ rfl _ rfl _ hl1 ?_))
      refine K.out.mono ?_
      rintro e w2 ⟨rfl, hE2⟩
      have HQ2 := Lib.hid (HQ1.out.ext hE2)
      have HR2 := Lib.hid (HR1.out.ext hE2)
      have HP2 := Lib.hid (HP1.out.ext hE2)
      have HE2 := Lib.hid (HE1.out.trans hE2)
      clear hE2 K HQ1 HR1 HP1 HE1 hl1 hl0 c0 c1 c2 c3 c4 HS2 HDQ HD
      have henb : ((en : Int) != 0) = true := by rw [bne_iff_ne]; omega
      go_wp2_with (first | (refine wpList_store_row rfl 23 _ _ rfl _ _ rfl rfl _ _ HQ2.out (pgSize HZ.out) (by rw [cells8_size, cells8_size, HZ.out, HPL.out]) (cells8_one _) ?_; have HQ3 := Lib.hid (HQ2.out.row (cells8 Z)); have HR3 := Lib.hid (HR2.out.rowFar (cells8 Z) (k := w.heap.size + 3) (by omega)); have HP3 := Lib.hid (HP2.out.blk.rowFar (cells8 Z) (k := w.heap.size + 3) (by omega)); have HE3 := Lib.hid (HE2.out.setRow (g := w.heap.size + 3) (by omega) (cells8 Z)); have hl3 := load_pg HP3.out HPL.out; generalize w2.setRow (w.heap.size + 3) (cells8 Z) = w3 at *; clear HQ2 HR2 HE2 HP2) | (refine wpList_load_g rfl 23 _ rfl _ rfl _ hl3 ?_) | (refine wpList_store_row rfl 23 _ _ rfl _ _ rfl rfl _ _ HR3.out (pgSize HPL.out) (by rw [cells8_size, cells8_size, HPL.out, HZ.out]) (cells8_one _) ?_))
      exact bodyPost_ret (results_row3 Try.results29 _ _ (w.heap.size + 1 + 1) _ (cells8 P) (0, 0) _ rfl (HR3.out.row (cells8 P)) Try.pgUnd rfl (pgSize HPL.out)) rfl ⟨rfl, HE3.out.setRow (by omega) _⟩
  by_cases hk4 : k = 4
  · subst hk4
    have K := Lib.hid (Pack_ref w1 P h)
    have HQL : Hid ((packR P).length = 1024) := Lib.hid (packR_length h)
    have HD : Hid (rawE P ⟨4, n, b, y, lsn⟩ = packE P ∧ rawQ P ⟨4, n, b, y, lsn⟩ = packR P ∧ rawN P ⟨4, n, b, y, lsn⟩ = 0) := Lib.hid ⟨rfl, rfl, rfl⟩
    have HDQ : Hid (doF P ⟨4, n, b, y, lsn⟩ = if rawE P ⟨4, n, b, y, lsn⟩ = 0 then rawQ P ⟨4, n, b, y, lsn⟩ else P) := Lib.hid rfl
    rw [HD.out.1, HD.out.2.1] at HDQ HRZ
    rw [HD.out.2.2] at HRZ
    rw [HDQ.out, HD.out.1, HD.out.2.2]
    generalize packE P = en at *
    generalize packR P = Q at *
    by_cases he : en = 0
    · subst he
      rw [if_pos rfl] at HDQ
      simp only [if_true]
      rw [show ((0 : Nat) : Int) = 0 from rfl] at K ⊢
      go_wp2_with (first | (refine wpList_load_g rfl 23 _ rfl _ rfl _ hl0 ?_) | (refine wpList_store_row rfl 23 _ _ rfl _ _ rfl rfl _ _ HB0.out (pgSize h) (by rw [cells8_size, cells8_size, h, HZ.out]) (cells8_one P) ?_; rw [← hw1]; clear hw1 HX HB0 HP0 HE0 hw0) | (refine wpList_load_g rfl 23 _ rfl _ rfl _ hl1 ?_))
      refine K.out.mono ?_
      rintro e w2 ⟨rfl, hE2⟩
      have HQ2 := Lib.hid (HQ1.out.ext hE2)
      have HR2 := Lib.hid (HR1.out.ext hE2)
      have HP2 := Lib.hid (HP1.out.ext hE2)
      have HE2 := Lib.hid (HE1.out.trans hE2)
      clear hE2 K HQ1 HR1 HP1 HE1 hl1 hl0 c0 c1 c2 c3 c4 HS2 HDQ HD
      go_wp2_with (first | (refine wpList_store_row rfl 23 _ _ rfl _ _ rfl rfl _ _ HQ2.out (pgSize HQL.out) (by rw [cells8_size, cells8_size, HQL.out, HPL.out]) (cells8_one _) ?_; have HQ3 := Lib.hid (HQ2.out.row (cells8 Q)); have HR3 := Lib.hid (HR2.out.rowFar (cells8 Q) (k := w.heap.size + 3) (by omega)); have HE3 := Lib.hid (HE2.out.setRow (g := w.heap.size + 3) (by omega) (cells8 Q)); have hl3 := load_pg HQ3.out HQL.out; generalize w2.setRow (w.heap.size + 3) (cells8 Q) = w3 at *; clear HQ2 HR2 HE2) | (refine wpList_load_g rfl 23 _ rfl _ rfl _ hl3 ?_) | (refine wpList_store_row rfl 23 _ _ rfl _ _ rfl rfl _ _ HR3.out (pgSize HQL.out) (by rw [cells8_size, cells8_size, HQL.out, HZ.out]) (cells8_one _) ?_))
      exact bodyPost_ret (results_row3 Try.results29 _ _ (w.heap.size + 1 + 1) _ (cells8 Q) (0, 0) _ rfl (HR3.out.row (cells8 Q)) Try.pgUnd rfl (pgSize HQL.out)) rfl ⟨rfl, HE3.out.setRow (by omega) _⟩
    · obtain ⟨hqz, hsn⟩ := HRZ.out he
      replace hqz := hqz.symm
      subst hqz
      rw [if_neg he]
      rw [show ((0 : Nat) : Int) = 0 from rfl]
      go_wp2_with (first | (refine wpList_load_g rfl 23 _ rfl _ rfl _ hl0 ?_) | (refine wpList_store_row rfl 23 _ _ rfl _ _ rfl rfl _ _ HB0.out (pgSize h) (by rw [cells8_size, cells8_size, h, HZ.out]) (cells8_one P) ?_; rw [← hw1]; clear hw1 HX HB0 HP0 HE0 hw0) | (refine wpList_load_g rfl 23 _ rfl _ rfl _ hl1 ?_))
      refine K.out.mono ?_
      rintro e w2 ⟨rfl, hE2⟩
      have HQ2 := Lib.hid (HQ1.out.ext hE2)
      have HR2 := Lib.hid (HR1.out.ext hE2)
      have HP2 := Lib.hid (HP1.out.ext hE2)
      have HE2 := Lib.hid (HE1.out.trans hE2)
      clear hE2 K HQ1 HR1 HP1 HE1 hl1 hl0 c0 c1 c2 c3 c4 HS2 HDQ HD
      have henb : ((en : Int) != 0) = true := by rw [bne_iff_ne]; omega
      go_wp2_with (first | (refine wpList_store_row rfl 23 _ _ rfl _ _ rfl rfl _ _ HQ2.out (pgSize HZ.out) (by rw [cells8_size, cells8_size, HZ.out, HPL.out]) (cells8_one _) ?_; have HQ3 := Lib.hid (HQ2.out.row (cells8 Z)); have HR3 := Lib.hid (HR2.out.rowFar (cells8 Z) (k := w.heap.size + 3) (by omega)); have HP3 := Lib.hid (HP2.out.blk.rowFar (cells8 Z) (k := w.heap.size + 3) (by omega)); have HE3 := Lib.hid (HE2.out.setRow (g := w.heap.size + 3) (by omega) (cells8 Z)); have hl3 := load_pg HP3.out HPL.out; generalize w2.setRow (w.heap.size + 3) (cells8 Z) = w3 at *; clear HQ2 HR2 HE2 HP2) | (refine wpList_load_g rfl 23 _ rfl _ rfl _ hl3 ?_) | (refine wpList_store_row rfl 23 _ _ rfl _ _ rfl rfl _ _ HR3.out (pgSize HPL.out) (by rw [cells8_size, cells8_size, HPL.out, HZ.out]) (cells8_one _) ?_))
      exact bodyPost_ret (results_row3 Try.results29 _ _ (w.heap.size + 1 + 1) _ (cells8 P) (0, 0) _ rfl (HR3.out.row (cells8 P)) Try.pgUnd rfl (pgSize HPL.out)) rfl ⟨rfl, HE3.out.setRow (by omega) _⟩
  by_cases hk6 : k = 6
  · subst hk6
    have K := Lib.hid (Seal_ref w1 P lsn h hlsn)
    have HQL : Hid ((sealP P lsn).length = 1024) := Lib.hid (sealP_length P lsn h)
    have HD : Hid (rawE P ⟨6, n, b, y, lsn⟩ = 0 ∧ rawQ P ⟨6, n, b, y, lsn⟩ = sealP P lsn ∧ rawN P ⟨6, n, b, y, lsn⟩ = 0) := Lib.hid ⟨rfl, rfl, rfl⟩
    have HDQ : Hid (doF P ⟨6, n, b, y, lsn⟩ = if rawE P ⟨6, n, b, y, lsn⟩ = 0 then rawQ P ⟨6, n, b, y, lsn⟩ else P) := Lib.hid rfl
    rw [HD.out.1, HD.out.2.1] at HDQ HRZ
    rw [HD.out.2.2] at HRZ
    rw [HDQ.out, HD.out.1, HD.out.2.2]
    generalize sealP P lsn = Q at *
    simp only [if_true]
    rw [show ((0 : Nat) : Int) = 0 from rfl]
    go_wp2_with (first | (refine wpList_load_g rfl 23 _ rfl _ rfl _ hl0 ?_) | (refine wpList_store_row rfl 23 _ _ rfl _ _ rfl rfl _ _ HB0.out (pgSize h) (by rw [cells8_size, cells8_size, h, HZ.out]) (cells8_one P) ?_; rw [← hw1]; clear hw1 HX HB0 HP0 HE0 hw0) | (refine wpList_load_g rfl 23 _ rfl _ rfl _ hl1 ?_))
    refine K.out.mono ?_
    rintro e w2 ⟨rfl, hE2⟩
    have HQ2 := Lib.hid (HQ1.out.ext hE2)
    have HR2 := Lib.hid (HR1.out.ext hE2)
    have HP2 := Lib.hid (HP1.out.ext hE2)
    have HE2 := Lib.hid (HE1.out.trans hE2)
    clear hE2 K HQ1 HR1 HP1 HE1 hl1 hl0 c0 c1 c2 c3 c4 HS2 HDQ HD
    go_wp2_with (first | (refine wpList_store_row rfl 23 _ _ rfl _ _ rfl rfl _ _ HQ2.out (pgSize HQL.out) (by rw [cells8_size, cells8_size, HQL.out, HPL.out]) (cells8_one _) ?_; have HQ3 := Lib.hid (HQ2.out.row (cells8 Q)); have HR3 := Lib.hid (HR2.out.rowFar (cells8 Q) (k := w.heap.size + 3) (by omega)); have HE3 := Lib.hid (HE2.out.setRow (g := w.heap.size + 3) (by omega) (cells8 Q)); have hl3 := load_pg HQ3.out HQL.out; generalize w2.setRow (w.heap.size + 3) (cells8 Q) = w3 at *; clear HQ2 HR2 HE2) | (refine wpList_load_g rfl 23 _ rfl _ rfl _ hl3 ?_) | (refine wpList_store_row rfl 23 _ _ rfl _ _ rfl rfl _ _ HR3.out (pgSize HQL.out) (by rw [cells8_size, cells8_size, HQL.out, HZ.out]) (cells8_one _) ?_))
    exact bodyPost_ret (results_row3 Try.results29 _ _ (w.heap.size + 1 + 1) _ (cells8 Q) (0, 0) _ rfl (HR3.out.row (cells8 Q)) Try.pgUnd rfl (pgSize HQL.out)) rfl ⟨rfl, HE3.out.setRow (by omega) _⟩
  by_cases hk5 : k = 5
  · subst hk5
    obtain ⟨⟨hb1, hb2⟩, hb3, hb4⟩ := spot_is n
    have HQL : Hid ((P.set (spotN n) y).length = 1024) := Lib.hid (by rw [List.length_set, h])
    have HD : Hid (rawE P ⟨5, n, b, y, lsn⟩ = 0 ∧ doF P ⟨5, n, b, y, lsn⟩ = P.set (spotN n) y ∧ rawN P ⟨5, n, b, y, lsn⟩ = 0) := Lib.hid ⟨rfl, rfl, rfl⟩
    rw [HD.out.1, HD.out.2.1, HD.out.2.2]
    rw [show ((0 : Nat) : Int) = 0 from rfl]
    generalize spotN n = m at *
    have HQ5 := Lib.hid ((⟨HQ1.out, h⟩ : Pg w1 (w.heap.size + 3) P).setByte m y)
    have HR5 := Lib.hid (HR1.out.far (p := ⟨w.heap.size + 3, m, none⟩) (by show w.heap.size + 1 + 1 ≠ w.heap.size + 3; omega) (.int .u8 (y.toNat : Int)))
    have HE5 := Lib.hid (HE1.out.setCell (p := ⟨w.heap.size + 3, m, none⟩) (by show w.heap.size ≤ w.heap.size + 3; omega) (.int .u8 (y.toNat : Int)))
    have hold : ∃ v, w1.cell? ⟨w.heap.size + 3, m, none⟩ = some v := ⟨_, by rw [HQ1.out.cell]; exact cells8_get _ _ (by omega)⟩
    obtain ⟨v, hold⟩ := hold
    have hfr := HQ1.out.frozen m
    have hl3 := load_pg HQ5.out.blk HQL.out
    obtain ⟨t, ht⟩ : ∃ t, n.tmod 1024 = t := ⟨_, rfl⟩
    rw [ht] at hb1 hb2 hb3
    go_wp2_with (first | (refine wpList_load_g rfl 23 _ rfl _ rfl _ hl0 ?_) | (refine wpList_store_row rfl 23 _ _ rfl _ _ rfl rfl _ _ HB0.out (pgSize h) (by rw [cells8_size, cells8_size, h, HZ.out]) (cells8_one P) ?_; rw [← hw1]; clear hw1 HX HB0 HP0 HE0 hw0) | (refine wpList_load_g rfl 23 _ rfl _ rfl _ hl3 ?_) | (refine wpList_store_row rfl 23 _ _ rfl _ _ rfl rfl _ _ HR5.out (pgSize HQL.out) (by rw [cells8_size, cells8_size, HQL.out, HZ.out]) (cells8_one _) ?_))
    exact bodyPost_ret (results_row3 Try.results29 _ _ (w.heap.size + 1 + 1) _ (cells8 (P.set m y)) (0, 0) _ rfl (HR5.out.row (cells8 (P.set m y))) Try.pgUnd rfl (pgSize HQL.out)) rfl ⟨rfl, HE5.out.setRow (by omega) _⟩
  have HD : Hid (rawE P ⟨k, n, b, y, lsn⟩ = 0 ∧ rawQ P ⟨k, n, b, y, lsn⟩ = P ∧ rawN P ⟨k, n, b, y, lsn⟩ = 0) := Lib.hid (by unfold rawE rawQ rawN; simp only [if_neg hk1, if_neg hk2, if_neg hk3, if_neg hk4, if_neg hk6]; exact ⟨trivial, trivial, trivial⟩)
  have HDQ : Hid (doF P ⟨k, n, b, y, lsn⟩ = P) := Lib.hid (by unfold doF; rw [if_neg hk5]; unfold doQ; rw [if_pos HD.out.1, HD.out.2.1])
  rw [HDQ.out, HD.out.1, HD.out.2.2]
  have d1 : (k == 1) = false := by rw [beq_eq_false_iff_ne]; exact hk1
  have d2 : (k == 2) = false := by rw [beq_eq_false_iff_ne]; exact hk2
  have d3 : (k == 3) = false := by rw [beq_eq_false_iff_ne]; exact hk3
  have d4 : (k == 4) = false := by rw [beq_eq_false_iff_ne]; exact hk4
  have d5 : (k == 5) = false := by rw [beq_eq_false_iff_ne]; exact hk5
  have d6 : (k == 6) = false := by rw [beq_eq_false_iff_ne]; exact hk6
  rw [show ((0 : Nat) : Int) = 0 from rfl]
  clear HD HDQ HRZ hk1 hk2 hk3 hk4 hk6 hk5
  have HQ2 := HQ1
  have HR2 := HR1
  have HE2 := HE1
  have hl3 := load_pg HQ1.out h
  go_wp2_with (first | (refine wpList_load_g rfl 23 _ rfl _ rfl _ hl0 ?_) | (refine wpList_store_row rfl 23 _ _ rfl _ _ rfl rfl _ _ HB0.out (pgSize h) (by rw [cells8_size, cells8_size, h, HZ.out]) (cells8_one P) ?_; rw [← hw1]; clear hw1 HX HB0 HP0 HE0 hw0) | (refine wpList_load_g rfl 23 _ rfl _ rfl _ hl3 ?_) | (refine wpList_store_row rfl 23 _ _ rfl _ _ rfl rfl _ _ HR1.out (pgSize HPL.out) (by rw [cells8_size, cells8_size, HPL.out, HZ.out]) (cells8_one _) ?_))
  exact bodyPost_ret (results_row3 Try.results29 _ _ (w.heap.size + 1 + 1) _ (cells8 P) (0, 0) _ rfl (HR1.out.row (cells8 P)) Try.pgUnd rfl (pgSize HPL.out)) rfl ⟨rfl, HE1.out.setRow (by omega) _⟩

end Go.Proofs.Ytgbfeagoadlhmaa

/-
  Contract of law05.do for the kind that spoils a byte; for all kinds (by playm.py).
-/
namespace Go.Proofs.Ytgbfeagoadlhmaa
open Go.RowKit Pl

set_option maxHeartbeats 8000000 in
set_option maxRecDepth 100000 in
theorem do_five (w : World) (P : List UInt8) (h : P.length = 1024) (k n : Int) (b : List UInt8) (y : UInt8) (lsn : Nat) (A : Option Addr) (c : Nat) (hb : By w A b) (hn1 : -9223372036854775808 ≤ n) (hn2 : n ≤ 9223372036854775807) (hbl : b.length < 2 ^ 62) (hlsn : lsn < 18446744073709551616) (h5 : k = 5) :
    Calls Try.prog 20 #[.agg (cells8 P), .agg (stepC ⟨k, n, b, y, lsn⟩ A c)] w fun e w' => e = .returned (.tuple #[.agg (cells8 (doF P ⟨k, n, b, y, lsn⟩)), .int .i64 (rawN P ⟨k, n, b, y, lsn⟩ : Int), .int .i64 (rawE P ⟨k, n, b, y, lsn⟩ : Int)]) ∧ Ext w w' := by
  have hz := (zero_of_info Try.page0).1
  have HZ := Lib.hid zeroP_length
  have HPL := Lib.hid h
  have hST : stepC ⟨k, n, b, y, lsn⟩ A c = #[.int .i64 k, .int .i64 n, .slice A b.length c, .int .u8 (y.toNat : Int), .int .u64 (lsn : Int)] := rfl
  rw [hST]
  have HS0 := Lib.hid (Blk.new (w.alloc (.cells (cells8 P) 23)) 45 #[.int .i64 k, .int .i64 n, .slice A b.length c, .int .u8 (y.toNat : Int), .int .u64 (lsn : Int)])
  have HR0 := Lib.hid (Blk.new ((w.alloc (.cells (cells8 P) 23)).alloc (.cells #[.int .i64 k, .int .i64 n, .slice A b.length c, .int .u8 (y.toNat : Int), .int .u64 (lsn : Int)] 45)) 23 (cells8 zeroP))
  have HP0 := Lib.hid (((Pg.new w P h).ext (ext_new _ (.cells #[.int .i64 k, .int .i64 n, .slice A b.length c, .int .u8 (y.toNat : Int), .int .u64 (lsn : Int)] 45))).ext (ext_new _ (.cells (cells8 zeroP) 23)))
  have HS1 := Lib.hid (HS0.out.ext (ext_new _ (.cells (cells8 zeroP) 23)))
  simp only [World.size_alloc] at HS1 HR0
  have HE0 := Lib.hid (((ext_new w (.cells (cells8 P) 23)).alloc (.cells #[.int .i64 k, .int .i64 n, .slice A b.length c, .int .u8 (y.toNat : Int), .int .u64 (lsn : Int)] 45)).alloc (.cells (cells8 zeroP) 23))
  have hs0 : (((w.alloc (.cells (cells8 P) 23)).alloc (.cells #[.int .i64 k, .int .i64 n, .slice A b.length c, .int .u8 (y.toNat : Int), .int .u64 (lsn : Int)] 45)).alloc (.cells (cells8 zeroP) 23)).heap.size = w.heap.size + 3 := by simp
  have hs1 : w.heap.size + 1 + 1 = w.heap.size + 2 := rfl
  generalize zeroP = Z at *
  generalize hw0 : ((w.alloc (.cells (cells8 P) 23)).alloc (.cells #[.int .i64 k, .int .i64 n, .slice A b.length c, .int .u8 (y.toNat : Int), .int .u64 (lsn : Int)] 45)).alloc (.cells (cells8 Z) 23) = w0 at *
  have hl0 := load_pg HP0.out.blk h
  have HB0 := Lib.hid (Blk.new w0 23 (cells8 Z))
  have HX := Lib.hid (((Ext.refl w0).alloc (.cells (cells8 Z) 23)).setRow (Nat.le_refl _) (cells8 P))
  rw [hs0] at HB0 HX
  rw [← hs1] at HR0
  go_enter Try.func20, Try.ntmps20
  have HW1 : Hid (∃ w1, w1 = (w0.alloc (.cells (cells8 Z) 23)).setRow (w.heap.size + 3) (cells8 P)) := Lib.hid ⟨_, rfl⟩
  obtain ⟨w1, hw1⟩ := HW1.out
  have HQ1 := Lib.hid (HB0.out.row (cells8 P))
  have HP1 := Lib.hid (HP0.out.ext HX.out)
  have HS2 := Lib.hid (HS1.out.ext HX.out)
  have HR1 := Lib.hid (HR0.out.ext HX.out)
  have HE1 := Lib.hid (HE0.out.trans HX.out)
  rw [← hw1] at HQ1 HP1 HS2 HR1 HE1
  have hl1 := load_pg HP1.out.blk h
  have c0 : w1.cell? ⟨w.heap.size + 1, 0, none⟩ = some (.int .i64 k) := by rw [HS2.out.cell]; rfl
  have c1 : w1.cell? ⟨w.heap.size + 1, 1, none⟩ = some (.int .i64 n) := by rw [HS2.out.cell]; rfl
  have c2 : w1.cell? ⟨w.heap.size + 1, 2, none⟩ = some (.slice A b.length c) := by rw [HS2.out.cell]; rfl
  have c3 : w1.cell? ⟨w.heap.size + 1, 3, none⟩ = some (.int .u8 (y.toNat : Int)) := by rw [HS2.out.cell]; rfl
  have c4 : w1.cell? ⟨w.heap.size + 1, 4, none⟩ = some (.int .u64 (lsn : Int)) := by rw [HS2.out.cell]; rfl
  have hnat : ∀ x : Nat, ((x : Nat) : Int) = (x : Int) := fun _ => rfl
  clear hST HS0 HS1 HR0 HW1 hs1
  subst h5
  have hlS := load_stp (s := ⟨5, n, b, y, lsn⟩) (b := w.heap.size + 1) (o := 0) c0 c1 c2 c3 c4
  rw [show stepC ⟨5, n, b, y, lsn⟩ A c = #[.int .i64 5, .int .i64 n, .slice A b.length c, .int .u8 (y.toNat : Int), .int .u64 (lsn : Int)] from rfl] at hlS
  have K := Do_any w1 P h 5 n b y lsn A c (hb.ext HE1.out) hn1 hn2 hbl hlsn
  rw [show stepC ⟨5, n, b, y, lsn⟩ A c = #[.int .i64 5, .int .i64 n, .slice A b.length c, .int .u8 (y.toNat : Int), .int .u64 (lsn : Int)] from rfl] at K
  have HQL : Hid ((doF P ⟨5, n, b, y, lsn⟩).length = 1024) := Lib.hid (doF_length h _)
  have HD : Hid (rawE P ⟨5, n, b, y, lsn⟩ = 0 ∧ rawN P ⟨5, n, b, y, lsn⟩ = 0) := Lib.hid ⟨rfl, rfl⟩
  rw [HD.out.1, HD.out.2] at K ⊢
  rw [show ((0 : Nat) : Int) = 0 from rfl] at K ⊢
  have K := Lib.hid K
  generalize doF P ⟨5, n, b, y, lsn⟩ = Q at *
  go_wp2_with (first | (refine wpList_load_g rfl 23 _ rfl _ rfl _ hl0 ?_) | (refine wpList_store_row rfl 23 _ _ rfl _ _ rfl rfl _ _ HB0.out (pgSize h) (by rw [cells8_size, cells8_size, h, HZ.out]) (cells8_one P) ?_; rw [← hw1]; clear hw1 HX HB0 HP0 HE0 hw0) | (refine wpList_load_g rfl 23 _ rfl _ rfl _ hl1 ?_) | (refine wpList_load_g rfl 45 _ rfl _ rfl _ hlS ?_))
  refine K.out.mono ?_
  rintro e w2 ⟨rfl, hE2⟩
  have HQ2 := Lib.hid (HQ1.out.ext hE2)
  have HR2 := Lib.hid (HR1.out.ext hE2)
  have HE2 := Lib.hid (HE1.out.trans hE2)
  clear hE2 HQ1 HR1 HP1 HE1 hl1 hl0 c0 c1 c2 c3 c4 HS2 HD hlS
  go_wp2_with (first | (refine wpList_store_row rfl 23 _ _ rfl _ _ rfl rfl _ _ HQ2.out (pgSize HQL.out) (by rw [cells8_size, cells8_size, HQL.out, HPL.out]) (cells8_one _) ?_; have HQ3 := Lib.hid (HQ2.out.row (cells8 Q)); have HR3 := Lib.hid (HR2.out.rowFar (cells8 Q) (k := w.heap.size + 3) (by omega)); have HE3 := Lib.hid (HE2.out.setRow (g := w.heap.size + 3) (by omega) (cells8 Q)); have hl3 := load_pg HQ3.out HQL.out; generalize w2.setRow (w.heap.size + 3) (cells8 Q) = w3 at *; clear HQ2 HR2 HE2) | (go_at_call 13; refine (num5_any _ _).mono ?_; rintro e w' ⟨rfl, rfl⟩) | (refine wpList_load_g rfl 23 _ rfl _ rfl _ hl3 ?_) | (refine wpList_store_row rfl 23 _ _ rfl _ _ rfl rfl _ _ HR3.out (pgSize HQL.out) (by rw [cells8_size, cells8_size, HQL.out, HZ.out]) (cells8_one _) ?_))
  exact bodyPost_ret (results_row3 Try.results20 _ _ (w.heap.size + 1 + 1) _ (cells8 Q) (0, 0) _ rfl (HR3.out.row (cells8 Q)) Try.pgUnd rfl (pgSize HQL.out)) rfl ⟨rfl, HE3.out.setRow (by omega) _⟩

/-- a step by the program -/
theorem do_all (w : World) (P : List UInt8) (h : P.length = 1024) (s : Stp) (A : Option Addr) (c : Nat) (hb : By w A s.b) (hs : StpOk s) :
    Calls Try.prog 20 #[.agg (cells8 P), .agg (stepC s A c)] w fun e w' => e = .returned (.tuple #[.agg (cells8 (doF P s)), .int .i64 (rawN P s : Int), .int .i64 (rawE P s : Int)]) ∧ Ext w w' := by
  by_cases h5 : s.kind = 5
  · exact do_five w P h s.kind s.n s.b s.by_ s.lsn A c hb hs.n1 hs.n2 hs.b hs.lsn h5
  · have := do_any w P h s.kind s.n s.b s.by_ s.lsn A c hb hs.n1 hs.n2 hs.b hs.lsn h5
    rw [show doQ P ⟨s.kind, s.n, s.b, s.by_, s.lsn⟩ = doF P s by unfold doF; rw [if_neg h5]] at this
    exact this
/-- a step by the document -/
theorem Do_all (w : World) (P : List UInt8) (h : P.length = 1024) (s : Stp) (A : Option Addr) (c : Nat) (hb : By w A s.b) (hs : StpOk s) :
    Calls Try.prog 29 #[.agg (cells8 P), .agg (stepC s A c)] w fun e w' => e = .returned (.tuple #[.agg (cells8 (doF P s)), .int .i64 (rawN P s : Int), .int .i64 (rawE P s : Int)]) ∧ Ext w w' :=
  Do_any w P h s.kind s.n s.b s.by_ s.lsn A c hb hs.n1 hs.n2 hs.b hs.lsn

end Go.Proofs.Ytgbfeagoadlhmaa
