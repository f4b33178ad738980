
/-
  Contract of law05.do, but for the kind that spoils a byte (by dob.py).
-/
import Derived.Test.YtgbfeagoadlhmaaDo
set_option linter.unusedVariables false
set_option linter.unusedSimpArgs false
namespace Go.Proofs.Ytgbfeagoadlhmaa
open Go.RowKit Pl

set_option maxHeartbeats 8000000 in
set_option maxRecDepth 100000 in
theorem do_any (w : World) (P : List UInt8) (h : P.length = 1024) (k n : Int) (b : List UInt8) (y : UInt8) (lsn : Nat) (A : Option Addr) (c : Nat) (hb : By w A b) (hn1 : -9223372036854775808 ≤ n) (hn2 : n ≤ 9223372036854775807) (hbl : b.length < 2 ^ 62) (hlsn : lsn < 18446744073709551616) (h5 : k ≠ 5) :
    Calls Try.prog 20 #[.agg (cells8 P), .agg (stepC ⟨k, n, b, y, lsn⟩ A c)] w fun e w' => e = .returned (.tuple #[.agg (cells8 (doQ P ⟨k, n, b, y, lsn⟩)), .int .i64 (rawN P ⟨k, n, b, y, lsn⟩ : Int), .int .i64 (rawE P ⟨k, n, b, y, lsn⟩ : Int)]) ∧ Ext w w' := by
  have hz := (zero_of_info Try.page0).1
  have HZ := Lib.hid zeroP_length
  have HPL := Lib.hid h
  have HRZ := Lib.hid (raw_zero P ⟨k, n, b, y, lsn⟩)
  have hST : stepC ⟨k, n, b, y, lsn⟩ A c = #[.int .i64 k, .int .i64 n, .slice A b.length c, .int .u8 (y.toNat : Int), .int .u64 (lsn : Int)] := rfl
  rw [hST]
  have HS0 := Lib.hid (Blk.new (w.alloc (.cells (cells8 P) 23)) 45 #[.int .i64 k, .int .i64 n, .slice A b.length c, .int .u8 (y.toNat : Int), .int .u64 (lsn : Int)])
  have HR0 := Lib.hid (Blk.new ((w.alloc (.cells (cells8 P) 23)).alloc (.cells #[.int .i64 k, .int .i64 n, .slice A b.length c, .int .u8 (y.toNat : Int), .int .u64 (lsn : Int)] 45)) 23 (cells8 zeroP))
  have HP0 := Lib.hid (((Pg.new w P h).ext (ext_new _ (.cells #[.int .i64 k, .int .i64 n, .slice A b.length c, .int .u8 (y.toNat : Int), .int .u64 (lsn : Int)] 45))).ext (ext_new _ (.cells (cells8 zeroP) 23)))
  have HS1 := Lib.hid (HS0.out.ext (ext_new _ (.cells (cells8 zeroP) 23)))
  simp only [World.size_alloc] at HS1 HR0
  have HE0 := Lib.hid (((ext_new w (.cells (cells8 P) 23)).alloc (.cells #[.int .i64 k, .int .i64 n, .slice A b.length c, .int .u8 (y.toNat : Int), .int .u64 (lsn : Int)] 45)).alloc (.cells (cells8 zeroP) 23))
  have hs0 : (((w.alloc (.cells (cells8 P) 23)).alloc (.cells #[.int .i64 k, .int .i64 n, .slice A b.length c, .int .u8 (y.toNat : Int), .int .u64 (lsn : Int)] 45)).alloc (.cells (cells8 zeroP) 23)).heap.size = w.heap.size + 3 := by simp
  have hs1 : w.heap.size + 1 + 1 = w.heap.size + 2 := rfl
  generalize zeroP = Z at *
  generalize hw0 : ((w.alloc (.cells (cells8 P) 23)).alloc (.cells #[.int .i64 k, .int .i64 n, .slice A b.length c, .int .u8 (y.toNat : Int), .int .u64 (lsn : Int)] 45)).alloc (.cells (cells8 Z) 23) = w0 at *
  have hl0 := load_pg HP0.out.blk h
  have HB0 := Lib.hid (Blk.new w0 23 (cells8 Z))
  have HX := Lib.hid (((Ext.refl w0).alloc (.cells (cells8 Z) 23)).setRow (Nat.le_refl _) (cells8 P))
  rw [hs0] at HB0 HX
  rw [← hs1] at HR0
  go_enter Try.func20, Try.ntmps20
  have HW1 : Hid (∃ w1, w1 = (w0.alloc (.cells (cells8 Z) 23)).setRow (w.heap.size + 3) (cells8 P)) := Lib.hid ⟨_, rfl⟩
  obtain ⟨w1, hw1⟩ := HW1.out
  have HQ1 := Lib.hid (HB0.out.row (cells8 P))
  have HP1 := Lib.hid (HP0.out.ext HX.out)
  have HS2 := Lib.hid (HS1.out.ext HX.out)
  have HR1 := Lib.hid (HR0.out.ext HX.out)
  have HE1 := Lib.hid (HE0.out.trans HX.out)
  rw [← hw1] at HQ1 HP1 HS2 HR1 HE1
  have hl1 := load_pg HP1.out.blk h
  have c0 : w1.cell? ⟨w.heap.size + 1, 0, none⟩ = some (.int .i64 k) := by rw [HS2.out.cell]; rfl
  have c1 : w1.cell? ⟨w.heap.size + 1, 1, none⟩ = some (.int .i64 n) := by rw [HS2.out.cell]; rfl
  have c2 : w1.cell? ⟨w.heap.size + 1, 2, none⟩ = some (.slice A b.length c) := by rw [HS2.out.cell]; rfl
  have c4 : w1.cell? ⟨w.heap.size + 1, 4, none⟩ = some (.int .u64 (lsn : Int)) := by rw [HS2.out.cell]; rfl
  have hnat : ∀ x : Nat, ((x : Nat) : Int) = (x : Int) := fun _ => rfl
  clear hST HS0 HS1 HR0 HW1 hs1
  by_cases hk1 : k = 1
  · subst hk1
    have K := Lib.hid (Insert_pg w1 P A b c h (hb.ext HE1.out) hbl)
    have HQL : Hid ((insR P b).length = 1024) := Lib.hid (insR_length h b)
    have HD : Hid (rawE P ⟨1, n, b, y, lsn⟩ = insE P b.length ∧ rawQ P ⟨1, n, b, y, lsn⟩ = insR P b ∧ rawN P ⟨1, n, b, y, lsn⟩ = insN P b.length) := Lib.hid ⟨rfl, rfl, rfl⟩
    have HDQ : Hid (doQ P ⟨1, n, b, y, lsn⟩ = if rawE P ⟨1, n, b, y, lsn⟩ = 0 then rawQ P ⟨1, n, b, y, lsn⟩ else P) := Lib.hid rfl
    rw [HD.out.1, HD.out.2.1] at HDQ HRZ
    rw [HD.out.2.2] at HRZ
    rw [HDQ.out, HD.out.1, HD.out.2.2]
    generalize insN P b.length = sn at *
    generalize insE P b.length = en at *
    generalize insR P b = Q at *
    by_cases he : en = 0
    · subst he
      rw [if_pos rfl] at HDQ
      simp only [if_true]
      rw [show ((0 : Nat) : Int) = 0 from rfl] at K ⊢
      go_wp2_with (first | (refine wpList_load_g rfl 23 _ rfl _ rfl _ hl0 ?_) | (refine wpList_store_row rfl 23 _ _ rfl _ _ rfl rfl _ _ HB0.out (pgSize h) (by rw [cells8_size, cells8_size, h, HZ.out]) (cells8_one P) ?_; rw [← hw1]; clear hw1 HX HB0 HP0 HE0 hw0) | (refine wpList_load_g rfl 23 _ rfl _ rfl _ hl1 ?_))
      refine K.out.mono ?_
      rintro e w2 ⟨rfl, hE2⟩
      have HQ2 := Lib.hid (HQ1.out.ext hE2)
      have HR2 := Lib.hid (HR1.out.ext hE2)
      have HP2 := Lib.hid (HP1.out.ext hE2)
      have HE2 := Lib.hid (HE1.out.trans hE2)
      clear hE2 K HQ1 HR1 HP1 HE1 hl1 hl0 c0 c1 c2 c4 HS2 HDQ HD
      go_wp2_with (first | (refine wpList_store_row rfl 23 _ _ rfl _ _ rfl rfl _ _ HQ2.out (pgSize HQL.out) (by rw [cells8_size, cells8_size, HQL.out, HPL.out]) (cells8_one _) ?_; have HQ3 := Lib.hid (HQ2.out.row (cells8 Q)); have HR3 := Lib.hid (HR2.out.rowFar (cells8 Q) (k := w.heap.size + 3) (by omega)); have HE3 := Lib.hid (HE2.out.setRow (g := w.heap.size + 3) (by omega) (cells8 Q)); have hl3 := load_pg HQ3.out HQL.out; generalize w2.setRow (w.heap.size + 3) (cells8 Q) = w3 at *; clear HQ2 HR2 HE2) | (go_at_call 13; refine (num5_any _ _).mono ?_; rintro e w' ⟨rfl, rfl⟩) | (refine wpList_load_g rfl 23 _ rfl _ rfl _ hl3 ?_) | (refine wpList_store_row rfl 23 _ _ rfl _ _ rfl rfl _ _ HR3.out (pgSize HQL.out) (by rw [cells8_size, cells8_size, HQL.out, HZ.out]) (cells8_one _) ?_))
      exact bodyPost_ret (results_row3 Try.results20 _ _ (w.heap.size + 1 + 1) _ (cells8 Q) (0, 0) _ rfl (HR3.out.row (cells8 Q)) Try.pgUnd rfl (pgSize HQL.out)) rfl ⟨rfl, HE3.out.setRow (by omega) _⟩
    · obtain ⟨hqz, hsn⟩ := HRZ.out he
      replace hqz := hqz.symm
      subst hqz
      rw [if_neg he]
      subst hsn
      rw [show ((0 : Nat) : Int) = 0 from rfl] at K ⊢
      go_wp2_with (first | (refine wpList_load_g rfl 23 _ rfl _ rfl _ hl0 ?_) | (refine wpList_store_row rfl 23 _ _ rfl _ _ rfl rfl _ _ HB0.out (pgSize h) (by rw [cells8_size, cells8_size, h, HZ.out]) (cells8_one P) ?_; rw [← hw1]; clear hw1 HX HB0 HP0 HE0 hw0) | (refine wpList_load_g rfl 23 _ rfl _ rfl _ hl1 ?_))
      refine K.out.mono ?_
      rintro e w2 ⟨rfl, hE2⟩
      have HQ2 := Lib.hid (HQ1.out.ext hE2)
      have HR2 := Lib.hid (HR1.out.ext hE2)
      have HP2 := Lib.hid (HP1.out.ext hE2)
      have HE2 := Lib.hid (HE1.out.trans hE2)
      clear hE2 K HQ1 HR1 HP1 HE1 hl1 hl0 c0 c1 c2 c4 HS2 HDQ HD
      have henb : ((en : Int) != 0) = true := by rw [bne_iff_ne]; omega
      have hZZ := fun W => neq_self HZ.out W
      have hbz := fun W => build_pg hz W
      go_wp2_with (first | (refine wpList_store_row rfl 23 _ _ rfl _ _ rfl rfl _ _ HQ2.out (pgSize HZ.out) (by rw [cells8_size, cells8_size, HZ.out, HPL.out]) (cells8_one _) ?_; have HQ3 := Lib.hid (HQ2.out.row (cells8 Z)); have HR3 := Lib.hid (HR2.out.rowFar (cells8 Z) (k := w.heap.size + 3) (by omega)); have HP3 := Lib.hid (HP2.out.blk.rowFar (cells8 Z) (k := w.heap.size + 3) (by omega)); have HE3 := Lib.hid (HE2.out.setRow (g := w.heap.size + 3) (by omega) (cells8 Z)); have hl3 := load_pg HQ3.out HZ.out; generalize w2.setRow (w.heap.size + 3) (cells8 Z) = w3 at *; clear HQ2 HR2 HE2 HP2) | (go_at_call 13; refine (num5_any _ _).mono ?_; rintro e w' ⟨rfl, rfl⟩) | (refine wpList_load_g rfl 23 _ rfl _ rfl _ hl3 ?_) | (refine wpList_run_g rfl _ (build_run0 rfl (hbz _)) ?_) | (refine wpList_run_g rfl _ (binOp_run_agg Try.pgGuard (b := .neq) rfl rfl rfl (hZZ _)) ?_))
      clear hbz hZZ hl3 henb
      refine wp_eager (grow_pre (w.heap.size + 1 + 1)) (n := 7) (by kernel_rfl) (by kernel_rfl) ?_
      refine Eg.batchK (grow_pre (w.heap.size + 1 + 1)) (by intro c a d v w h; cases d <;> exact h) (by kernel_rfl) (n := 5) [1, 2] [] _ (by kernel_rfl) (fun K hK => ?_); (simp only [pickOps, List.getElem?_toArray, List.getElem?_cons_zero, List.getElem?_cons_succ, Option.toList_some, List.cons_append, List.nil_append]); (repeat (first | go_big_quiet_step (fail) | quiet_step (fail))); refine wpQuiet_nil (hK _ ?_); clear hK K
      (refine Eg.read (grow_pre (w.heap.size + 1 + 1)) (by intro c a d v w h; cases d <;> exact h) (by kernel_rfl) (i := 0) (n := 4) (l := [1, 2]) rfl (by kernel_rfl) (by kernel_rfl) rfl ⟨_, fun w' hR => load_run rfl (load_pg (HP3.out.drew.grown hR (by simp; omega)) HPL.out), ?_⟩); (simp only [Act.put, List.setIfInBounds_toArray, List.getElem_toArray, List.getElem_cons_succ, List.getElem_cons_zero, List.set_cons_succ, List.set_cons_zero])
      refine Eg.act (grow_pre (w.heap.size + 1 + 1)) (i := 3) (n := 3) (l := [1, 2, 0]) rfl (by kernel_rfl) ?_
      go_wp2_with (go_at_call 13; refine (num5_any _ _).mono ?_; rintro e w' ⟨rfl, rfl⟩)
      refine ⟨(grow_pre (w.heap.size + 1 + 1)).refl _, ?_⟩
      refine Eg.act (grow_pre (w.heap.size + 1 + 1)) (i := 4) (n := 2) (l := [1, 2, 0, 3]) rfl (by kernel_rfl) ?_
      go_wp2_with (refine wpList_store_row rfl 23 _ _ rfl _ _ rfl rfl _ _ HR3.out.drew (pgSize HPL.out) (by rw [cells8_size, cells8_size, HPL.out, HZ.out]) (cells8_one P) ?_)
      refine ⟨grown_row _ _ _, ?_⟩
      refine Eg.batchK (grow_pre (w.heap.size + 1 + 1)) (by intro c a d v w h; cases d <;> exact h) (by kernel_rfl) (n := 0) [5, 6] [1, 2, 0, 3, 4] _ (by kernel_rfl) (fun K hK => ?_); (simp only [pickOps, List.getElem?_toArray, List.getElem?_cons_zero, List.getElem?_cons_succ, Option.toList_some, List.cons_append, List.nil_append]); (repeat (first | go_big_quiet_step (fail) | quiet_step (fail))); refine wpQuiet_nil (hK _ ?_); clear hK K
      refine Eg.finish (by kernel_rfl) ?_
      go_wp2_with fail
      refine bodyPost_ret (results_row3 Try.results20 _ _ (w.heap.size + 1 + 1) _ (cells8 P) (0, 0) _ rfl (HR3.out.drew.row (cells8 P)) Try.pgUnd rfl (pgSize HPL.out)) rfl ⟨rfl, HE3.out.drew.setRow (by omega) _⟩
  by_cases hk2 : k = 2
  · subst hk2
    have K := Lib.hid (Drop_pg w1 P n h hn1 hn2)
    have HQL : Hid ((dropR P n).length = 1024) := Lib.hid (dropR_length h n)
    have HD : Hid (rawE P ⟨2, n, b, y, lsn⟩ = itemE P n ∧ rawQ P ⟨2, n, b, y, lsn⟩ = dropR P n ∧ rawN P ⟨2, n, b, y, lsn⟩ = 0) := Lib.hid ⟨rfl, rfl, rfl⟩
    have HDQ : Hid (doQ P ⟨2, n, b, y, lsn⟩ = if rawE P ⟨2, n, b, y, lsn⟩ = 0 then rawQ P ⟨2, n, b, y, lsn⟩ else P) := Lib.hid rfl
    rw [HD.out.1, HD.out.2.1] at HDQ HRZ
    rw [HD.out.2.2] at HRZ
    rw [HDQ.out, HD.out.1, HD.out.2.2]
    generalize itemE P n = en at *
    generalize dropR P n = Q at *
    by_cases he : en = 0
    · subst he
      rw [if_pos rfl] at HDQ
      simp only [if_true]
      rw [show ((0 : Nat) : Int) = 0 from rfl] at K ⊢
      go_wp2_with (first | (refine wpList_load_g rfl 23 _ rfl _ rfl _ hl0 ?_) | (refine wpList_store_row rfl 23 _ _ rfl _ _ rfl rfl _ _ HB0.out (pgSize h) (by rw [cells8_size, cells8_size, h, HZ.out]) (cells8_one P) ?_; rw [← hw1]; clear hw1 HX HB0 HP0 HE0 hw0) | (refine wpList_load_g rfl 23 _ rfl _ rfl _ hl1 ?_))
      refine K.out.mono ?_
      rintro e w2 ⟨rfl, hE2⟩
      have HQ2 := Lib.hid (HQ1.out.ext hE2)
      have HR2 := Lib.hid (HR1.out.ext hE2)
      have HP2 := Lib.hid (HP1.out.ext hE2)
      have HE2 := Lib.hid (HE1.out.trans hE2)
      clear hE2 K HQ1 HR1 HP1 HE1 hl1 hl0 c0 c1 c2 c4 HS2 HDQ HD
      go_wp2_with (first | (refine wpList_store_row rfl 23 _ _ rfl _ _ rfl rfl _ _ HQ2.out (pgSize HQL.out) (by rw [cells8_size, cells8_size, HQL.out, HPL.out]) (cells8_one _) ?_; have HQ3 := Lib.hid (HQ2.out.row (cells8 Q)); have HR3 := Lib.hid (HR2.out.rowFar (cells8 Q) (k := w.heap.size + 3) (by omega)); have HE3 := Lib.hid (HE2.out.setRow (g := w.heap.size + 3) (by omega) (cells8 Q)); have hl3 := load_pg HQ3.out HQL.out; generalize w2.setRow (w.heap.size + 3) (cells8 Q) = w3 at *; clear HQ2 HR2 HE2) | (go_at_call 13; refine (num5_any _ _).mono ?_; rintro e w' ⟨rfl, rfl⟩) | (refine wpList_load_g rfl 23 _ rfl _ rfl _ hl3 ?_) | (refine wpList_store_row rfl 23 _ _ rfl _ _ rfl rfl _ _ HR3.out (pgSize HQL.out) (by rw [cells8_size, cells8_size, HQL.out, HZ.out]) (cells8_one _) ?_))
      exact bodyPost_ret (results_row3 Try.results20 _ _ (w.heap.size + 1 + 1) _ (cells8 Q) (0, 0) _ rfl (HR3.out.row (cells8 Q)) Try.pgUnd rfl (pgSize HQL.out)) rfl ⟨rfl, HE3.out.setRow (by omega) _⟩
    · obtain ⟨hqz, hsn⟩ := HRZ.out he
      replace hqz := hqz.symm
      subst hqz
      rw [if_neg he]
      rw [show ((0 : Nat) : Int) = 0 from rfl]
      go_wp2_with (first | (refine wpList_load_g rfl 23 _ rfl _ rfl _ hl0 ?_) | (refine wpList_store_row rfl 23 _ _ rfl _ _ rfl rfl _ _ HB0.out (pgSize h) (by rw [cells8_size, cells8_size, h, HZ.out]) (cells8_one P) ?_; rw [← hw1]; clear hw1 HX HB0 HP0 HE0 hw0) | (refine wpList_load_g rfl 23 _ rfl _ rfl _ hl1 ?_))
      refine K.out.mono ?_
      rintro e w2 ⟨rfl, hE2⟩
      have HQ2 := Lib.hid (HQ1.out.ext hE2)
      have HR2 := Lib.hid (HR1.out.ext hE2)
      have HP2 := Lib.hid (HP1.out.ext hE2)
      have HE2 := Lib.hid (HE1.out.trans hE2)
      clear hE2 K HQ1 HR1 HP1 HE1 hl1 hl0 c0 c1 c2 c4 HS2 HDQ HD
      have henb : ((en : Int) != 0) = true := by rw [bne_iff_ne]; omega
      have hZZ := fun W => neq_self HZ.out W
      have hbz := fun W => build_pg hz W
      go_wp2_with (first | (refine wpList_store_row rfl 23 _ _ rfl _ _ rfl rfl _ _ HQ2.out (pgSize HZ.out) (by rw [cells8_size, cells8_size, HZ.out, HPL.out]) (cells8_one _) ?_; have HQ3 := Lib.hid (HQ2.out.row (cells8 Z)); have HR3 := Lib.hid (HR2.out.rowFar (cells8 Z) (k := w.heap.size + 3) (by omega)); have HP3 := Lib.hid (HP2.out.blk.rowFar (cells8 Z) (k := w.heap.size + 3) (by omega)); have HE3 := Lib.hid (HE2.out.setRow (g := w.heap.size + 3) (by omega) (cells8 Z)); have hl3 := load_pg HQ3.out HZ.out; generalize w2.setRow (w.heap.size + 3) (cells8 Z) = w3 at *; clear HQ2 HR2 HE2 HP2) | (go_at_call 13; refine (num5_any _ _).mono ?_; rintro e w' ⟨rfl, rfl⟩) | (refine wpList_load_g rfl 23 _ rfl _ rfl _ hl3 ?_) | (refine wpList_run_g rfl _ (build_run0 rfl (hbz _)) ?_) | (refine wpList_run_g rfl _ (binOp_run_agg Try.pgGuard (b := .neq) rfl rfl rfl (hZZ _)) ?_))
      clear hbz hZZ hl3 henb
      refine wp_eager (grow_pre (w.heap.size + 1 + 1)) (n := 7) (by kernel_rfl) (by kernel_rfl) ?_
      refine Eg.batchK (grow_pre (w.heap.size + 1 + 1)) (by intro c a d v w h; cases d <;> exact h) (by kernel_rfl) (n := 5) [1, 2] [] _ (by kernel_rfl) (fun K hK => ?_); (simp only [pickOps, List.getElem?_toArray, List.getElem?_cons_zero, List.getElem?_cons_succ, Option.toList_some, List.cons_append, List.nil_append]); (repeat (first | go_big_quiet_step (fail) | quiet_step (fail))); refine wpQuiet_nil (hK _ ?_); clear hK K
      (refine Eg.read (grow_pre (w.heap.size + 1 + 1)) (by intro c a d v w h; cases d <;> exact h) (by kernel_rfl) (i := 0) (n := 4) (l := [1, 2]) rfl (by kernel_rfl) (by kernel_rfl) rfl ⟨_, fun w' hR => load_run rfl (load_pg (HP3.out.drew.grown hR (by simp; omega)) HPL.out), ?_⟩); (simp only [Act.put, List.setIfInBounds_toArray, List.getElem_toArray, List.getElem_cons_succ, List.getElem_cons_zero, List.set_cons_succ, List.set_cons_zero])
      refine Eg.act (grow_pre (w.heap.size + 1 + 1)) (i := 3) (n := 3) (l := [1, 2, 0]) rfl (by kernel_rfl) ?_
      go_wp2_with (go_at_call 13; refine (num5_any _ _).mono ?_; rintro e w' ⟨rfl, rfl⟩)
      refine ⟨(grow_pre (w.heap.size + 1 + 1)).refl _, ?_⟩
      refine Eg.act (grow_pre (w.heap.size + 1 + 1)) (i := 4) (n := 2) (l := [1, 2, 0, 3]) rfl (by kernel_rfl) ?_
      go_wp2_with (refine wpList_store_row rfl 23 _ _ rfl _ _ rfl rfl _ _ HR3.out.drew (pgSize HPL.out) (by rw [cells8_size, cells8_size, HPL.out, HZ.out]) (cells8_one P) ?_)
      refine ⟨grown_row _ _ _, ?_⟩
      refine Eg.batchK (grow_pre (w.heap.size + 1 + 1)) (by intro c a d v w h; cases d <;> exact h) (by kernel_rfl) (n := 0) [5, 6] [1, 2, 0, 3, 4] _ (by kernel_rfl) (fun K hK => ?_); (simp only [pickOps, List.getElem?_toArray, List.getElem?_cons_zero, List.getElem?_cons_succ, Option.toList_some, List.cons_append, List.nil_append]); (repeat (first | go_big_quiet_step (fail) | quiet_step (fail))); refine wpQuiet_nil (hK _ ?_); clear hK K
      refine Eg.finish (by kernel_rfl) ?_
      go_wp2_with fail
      refine bodyPost_ret (results_row3 Try.results20 _ _ (w.heap.size + 1 + 1) _ (cells8 P) (0, 0) _ rfl (HR3.out.drew.row (cells8 P)) Try.pgUnd rfl (pgSize HPL.out)) rfl ⟨rfl, HE3.out.drew.setRow (by omega) _⟩
  by_cases hk3 : k = 3
  · subst hk3
    have K := Lib.hid (Set_pg w1 P n A b c h (hb.ext HE1.out) hbl hn1 hn2)
    have HQL : Hid ((setR P n b).length = 1024) := Lib.hid (setR_length h n b)
    have HD : Hid (rawE P ⟨3, n, b, y, lsn⟩ = setE P n b.length ∧ rawQ P ⟨3, n, b, y, lsn⟩ = setR P n b ∧ rawN P ⟨3, n, b, y, lsn⟩ = 0) := Lib.hid ⟨rfl, rfl, rfl⟩
    have HDQ : Hid (doQ P ⟨3, n, b, y, lsn⟩ = if rawE P ⟨3, n, b, y, lsn⟩ = 0 then rawQ P ⟨3, n, b, y, lsn⟩ else P) := Lib.hid rfl
    rw [HD.out.1, HD.out.2.1] at HDQ HRZ
    rw [HD.out.2.2] at HRZ
    rw [HDQ.out, HD.out.1, HD.out.2.2]
    generalize setE P n b.length = en at *
    generalize setR P n b = Q at *
    by_cases he : en = 0
    · subst he
      rw [if_pos rfl] at HDQ
      simp only [if_true]
      rw [show ((0 : Nat) : Int) = 0 from rfl] at K ⊢
      go_wp2_with (first | (refine wpList_load_g rfl 23 _ rfl _ rfl _ hl0 ?_) | (refine wpList_store_row rfl 23 _ _ rfl _ _ rfl rfl _ _ HB0.out (pgSize h) (by rw [cells8_size, cells8_size, h, HZ.out]) (cells8_one P) ?_; rw [← hw1]; clear hw1 HX HB0 HP0 HE0 hw0) | (refine wpList_load_g rfl 23 _ rfl _ rfl _ hl1 ?_))
      refine K.out.mono ?_
      rintro e w2 ⟨rfl, hE2⟩
      have HQ2 := Lib.hid (HQ1.out.ext hE2)
      have HR2 := Lib.hid (HR1.out.ext hE2)
      have HP2 := Lib.hid (HP1.out.ext hE2)
      have HE2 := Lib.hid (HE1.out.trans hE2)
      clear hE2 K HQ1 HR1 HP1 HE1 hl1 hl0 c0 c1 c2 c4 HS2 HDQ HD
      go_wp2_with (first | (refine wpList_store_row rfl 23 _ _ rfl _ _ rfl rfl _ _ HQ2.out (pgSize HQL.out) (by rw [cells8_size, cells8_size, HQL.out, HPL.out]) (cells8_one _) ?_; have HQ3 := Lib.hid (HQ2.out.row (cells8 Q)); have HR3 := Lib.hid (HR2.out.rowFar (cells8 Q) (k := w.heap.size + 3) (by omega)); have HE3 := Lib.hid (HE2.out.setRow (g := w.heap.size + 3) (by omega) (cells8 Q)); have hl3 := load_pg HQ3.out HQL.out; generalize w2.setRow (w.heap.size + 3) (cells8 Q) = w3 at *; clear HQ2 HR2 HE2) | (go_at_call 13; refine (num5_any _ _).mono ?_; rintro e w' ⟨rfl, rfl⟩) | (refine wpList_load_g rfl 23 _ rfl _ rfl _ hl3 ?_) | (refine wpList_store_row rfl 23 _ _ rfl _ _ rfl rfl _ _ HR3.out (pgSize HQL.out) (by rw [cells8_size, cells8_size, HQL.out, HZ.out]) (cells8_one _) ?_))
      exact bodyPost_ret (results_row3 Try.results20 _ _ (w.heap.size + 1 + 1) _ (cells8 Q) (0, 0) _ rfl (HR3.out.row (cells8 Q)) Try.pgUnd rfl (pgSize HQL.out)) rfl ⟨rfl, HE3.out.setRow (by omega) _⟩
    · obtain ⟨hqz, hsn⟩ := HRZ.out he
      replace hqz := hqz.symm
      subst hqz
      rw [if_neg he]
      rw [show ((0 : Nat) : Int) = 0 from rfl]
      go_wp2_with (first | (refine wpList_load_g rfl 23 _ rfl _ rfl _ hl0 ?_) | (refine wpList_store_row rfl 23 _ _ rfl _ _ rfl rfl _ _ HB0.out (pgSize h) (by rw [cells8_size, cells8_size, h, HZ.out]) (cells8_one P) ?_; rw [← hw1]; clear hw1 HX HB0 HP0 HE0 hw0) | (refine wpList_load_g rfl 23 _ rfl _ rfl _ hl1 ?_))
      refine K.out.mono ?_
      rintro e w2 ⟨rfl, hE2⟩
      have HQ2 := Lib.hid (HQ1.out.ext hE2)
      have HR2 := Lib.hid (HR1.out.ext hE2)
      have HP2 := Lib.hid (HP1.out.ext hE2)
      have HE2 := Lib.hid (HE1.out.trans hE2)
      clear hE2 K HQ1 HR1 HP1 HE1 hl1 hl0 c0 c1 c2 c4 HS2 HDQ HD
      have henb : ((en : Int) != 0) = true := by rw [bne_iff_ne]; omega
      have hZZ := fun W => neq_self HZ.out W
      have hbz := fun W => build_pg hz W
      go_wp2_with (first | (refine wpList_store_row rfl 23 _ _ rfl _ _ rfl rfl _ _ HQ2.out (pgSize HZ.out) (by rw [cells8_size, cells8_size, HZ.out, HPL.out]) (cells8_one _) ?_; have HQ3 := Lib.hid (HQ2.out.row (cells8 Z)); have HR3 := Lib.hid (HR2.out.rowFar (cells8 Z) (k := w.heap.size + 3) (by omega)); have HP3 := Lib.hid (HP2.out.blk.rowFar (cells8 Z) (k := w.heap.size + 3) (by omega)); have HE3 := Lib.hid (HE2.out.setRow (g := w.heap.size + 3) (by omega) (cells8 Z)); have hl3 := load_pg HQ3.out HZ.out; generalize w2.setRow (w.heap.size + 3) (cells8 Z) = w3 at *; clear HQ2 HR2 HE2 HP2) | (go_at_call 13; refine (num5_any _ _).mono ?_; rintro e w' ⟨rfl, rfl⟩) | (refine wpList_load_g rfl 23 _ rfl _ rfl _ hl3 ?_) | (refine wpList_run_g rfl _ (build_run0 rfl (hbz _)) ?_) | (refine wpList_run_g rfl _ (binOp_run_agg Try.pgGuard (b := .neq) rfl rfl rfl (hZZ _)) ?_))
      clear hbz hZZ hl3 henb
      refine wp_eager (grow_pre (w.heap.size + 1 + 1)) (n := 7) (by kernel_rfl) (by kernel_rfl) ?_
      refine Eg.batchK (grow_pre (w.heap.size + 1 + 1)) (by intro c a d v w h; cases d <;> exact h) (by kernel_rfl) (n := 5) [1, 2] [] _ (by kernel_rfl) (fun K hK => ?_); (simp only [pickOps, List.getElem?_toArray, List.getElem?_cons_zero, List.getElem?_cons_succ, Option.toList_some, List.cons_append, List.nil_append]); (repeat (first | go_big_quiet_step (fail) | quiet_step (fail))); refine wpQuiet_nil (hK _ ?_); clear hK K
      (refine Eg.read (grow_pre (w.heap.size + 1 + 1)) (by intro c a d v w h; cases d <;> exact h) (by kernel_rfl) (i := 0) (n := 4) (l := [1, 2]) rfl (by kernel_rfl) (by kernel_rfl) rfl ⟨_, fun w' hR => load_run rfl (load_pg (HP3.out.drew.grown hR (by simp; omega)) HPL.out), ?_⟩); (simp only [Act.put, List.setIfInBounds_toArray, List.getElem_toArray, List.getElem_cons_succ, List.getElem_cons_zero, List.set_cons_succ, List.set_cons_zero])
      refine Eg.act (grow_pre (w.heap.size + 1 + 1)) (i := 3) (n := 3) (l := [1, 2, 0]) rfl (by kernel_rfl) ?_
      go_wp2_with (go_at_call 13; refine (num5_any _ _).mono ?_; rintro e w' ⟨rfl, rfl⟩)
      refine ⟨(grow_pre (w.heap.size + 1 + 1)).refl _, ?_⟩
      refine Eg.act (grow_pre (w.heap.size + 1 + 1)) (i := 4) (n := 2) (l := [1, 2, 0, 3]) rfl (by kernel_rfl) ?_
      go_wp2_with (refine wpList_store_row rfl 23 _ _ rfl _ _ rfl rfl _ _ HR3.out.drew (pgSize HPL.out) (by rw [cells8_size, cells8_size, HPL.out, HZ.out]) (cells8_one P) ?_)
      refine ⟨grown_row _ _ _, ?_⟩
      refine Eg.batchK (grow_pre (w.heap.size + 1 + 1)) (by intro c a d v w h; cases d <;> exact h) (by kernel_rfl) (n := 0) [5, 6] [1, 2, 0, 3, 4] _ (by kernel_rfl) (fun K hK => ?_); (simp only [pickOps, List.getElem?_toArray, List.getElem?_cons_zero, List.getElem?_cons_succ, Option.toList_some, List.cons_append, List.nil_append]); (repeat (first | go_big_quiet_step (fail) | quiet_step (fail))); refine wpQuiet_nil (hK _ ?_); clear hK K
      refine Eg.finish (by kernel_rfl) ?_
      go_wp2_with fail
      refine bodyPost_ret (results_row3 Try.results20 _ _ (w.heap.size + 1 + 1) _ (cells8 P) (0, 0) _ rfl (HR3.out.drew.row (cells8 P)) Try.pgUnd rfl (pgSize HPL.out)) rfl ⟨rfl, HE3.out.drew.setRow (by omega) _⟩
  by_cases hk4 : k = 4
  · subst hk4
    have K := Lib.hid (Pack_pg w1 P h)
    have HQL : Hid ((packR P).length = 1024) := Lib.hid (packR_length h)
    have HD : Hid (rawE P ⟨4, n, b, y, lsn⟩ = packE P ∧ rawQ P ⟨4, n, b, y, lsn⟩ = packR P ∧ rawN P ⟨4, n, b, y, lsn⟩ = 0) := Lib.hid ⟨rfl, rfl, rfl⟩
    have HDQ : Hid (doQ P ⟨4, n, b, y, lsn⟩ = if rawE P ⟨4, n, b, y, lsn⟩ = 0 then rawQ P ⟨4, n, b, y, lsn⟩ else P) := Lib.hid rfl
    rw [HD.out.1, HD.out.2.1] at HDQ HRZ
    rw [HD.out.2.2] at HRZ
    rw [HDQ.out, HD.out.1, HD.out.2.2]
    generalize packE P = en at *
    generalize packR P = Q at *
    by_cases he : en = 0
    · subst he
      rw [if_pos rfl] at HDQ
      simp only [if_true]
      rw [show ((0 : Nat) : Int) = 0 from rfl] at K ⊢
      go_wp2_with (first | (refine wpList_load_g rfl 23 _ rfl _ rfl _ hl0 ?_) | (refine wpList_store_row rfl 23 _ _ rfl _ _ rfl rfl _ _ HB0.out (pgSize h) (by rw [cells8_size, cells8_size, h, HZ.out]) (cells8_one P) ?_; rw [← hw1]; clear hw1 HX HB0 HP0 HE0 hw0) | (refine wpList_load_g rfl 23 _ rfl _ rfl _ hl1 ?_))
      refine K.out.mono ?_
      rintro e w2 ⟨rfl, hE2⟩
      have HQ2 := Lib.hid (HQ1.out.ext hE2)
      have HR2 := Lib.hid (HR1.out.ext hE2)
      have HP2 := Lib.hid (HP1.out.ext hE2)
      have HE2 := Lib.hid (HE1.out.trans hE2)
      clear hE2 K HQ1 HR1 HP1 HE1 hl1 hl0 c0 c1 c2 c4 HS2 HDQ HD
      go_wp2_with (first | (refine wpList_store_row rfl 23 _ _ rfl _ _ rfl rfl _ _ HQ2.out (pgSize HQL.out) (by rw [cells8_size, cells8_size, HQL.out, HPL.out]) (cells8_one _) ?_; have HQ3 := Lib.hid (HQ2.out.row (cells8 Q)); have HR3 := Lib.hid (HR2.out.rowFar (cells8 Q) (k := w.heap.size + 3) (by omega)); have HE3 := Lib.hid (HE2.out.setRow (g := w.heap.size + 3) (by omega) (cells8 Q)); have hl3 := load_pg HQ3.out HQL.out; generalize w2.setRow (w.heap.size + 3) (cells8 Q) = w3 at *; clear HQ2 HR2 HE2) | (go_at_call 13; refine (num5_any _ _).mono ?_; rintro e w' ⟨rfl, rfl⟩) | (refine wpList_load_g rfl 23 _ rfl _ rfl _ hl3 ?_) | (refine wpList_store_row rfl 23 _ _ rfl _ _ rfl rfl _ _ HR3.out (pgSize HQL.out) (by rw [cells8_size, cells8_size, HQL.out, HZ.out]) (cells8_one _) ?_))
      exact bodyPost_ret (results_row3 Try.results20 _ _ (w.heap.size + 1 + 1) _ (cells8 Q) (0, 0) _ rfl (HR3.out.row (cells8 Q)) Try.pgUnd rfl (pgSize HQL.out)) rfl ⟨rfl, HE3.out.setRow (by omega) _⟩
    · obtain ⟨hqz, hsn⟩ := HRZ.out he
      replace hqz := hqz.symm
      subst hqz
      rw [if_neg he]
      rw [show ((0 : Nat) : Int) = 0 from rfl]
      go_wp2_with (first | (refine wpList_load_g rfl 23 _ rfl _ rfl _ hl0 ?_) | (refine wpList_store_row rfl 23 _ _ rfl _ _ rfl rfl _ _ HB0.out (pgSize h) (by rw [cells8_size, cells8_size, h, HZ.out]) (cells8_one P) ?_; rw [← hw1]; clear hw1 HX HB0 HP0 HE0 hw0) | (refine wpList_load_g rfl 23 _ rfl _ rfl _ hl1 ?_))
      refine K.out.mono ?_
      rintro e w2 ⟨rfl, hE2⟩
      have HQ2 := Lib.hid (HQ1.out.ext hE2)
      have HR2 := Lib.hid (HR1.out.ext hE2)
      have HP2 := Lib.hid (HP1.out.ext hE2)
      have HE2 := Lib.hid (HE1.out.trans hE2)
      clear hE2 K HQ1 HR1 HP1 HE1 hl1 hl0 c0 c1 c2 c4 HS2 HDQ HD
      have henb : ((en : Int) != 0) = true := by rw [bne_iff_ne]; omega
      have hZZ := fun W => neq_self HZ.out W
      have hbz := fun W => build_pg hz W
      go_wp2_with (first | (refine wpList_store_row rfl 23 _ _ rfl _ _ rfl rfl _ _ HQ2.out (pgSize HZ.out) (by rw [cells8_size, cells8_size, HZ.out, HPL.out]) (cells8_one _) ?_; have HQ3 := Lib.hid (HQ2.out.row (cells8 Z)); have HR3 := Lib.hid (HR2.out.rowFar (cells8 Z) (k := w.heap.size + 3) (by omega)); have HP3 := Lib.hid (HP2.out.blk.rowFar (cells8 Z) (k := w.heap.size + 3) (by omega)); have HE3 := Lib.hid (HE2.out.setRow (g := w.heap.size + 3) (by omega) (cells8 Z)); have hl3 := load_pg HQ3.out HZ.out; generalize w2.setRow (w.heap.size + 3) (cells8 Z) = w3 at *; clear HQ2 HR2 HE2 HP2) | (go_at_call 13; refine (num5_any _ _).mono ?_; rintro e w' ⟨rfl, rfl⟩) | (refine wpList_load_g rfl 23 _ rfl _ rfl _ hl3 ?_) | (refine wpList_run_g rfl _ (build_run0 rfl (hbz _)) ?_) | (refine wpList_run_g rfl _ (binOp_run_agg Try.pgGuard (b := .neq) rfl rfl rfl (hZZ _)) ?_))
      clear hbz hZZ hl3 henb
      refine wp_eager (grow_pre (w.heap.size + 1 + 1)) (n := 7) (by kernel_rfl) (by kernel_rfl) ?_
      refine Eg.batchK (grow_pre (w.heap.size + 1 + 1)) (by intro c a d v w h; cases d <;> exact h) (by kernel_rfl) (n := 5) [1, 2] [] _ (by kernel_rfl) (fun K hK => ?_); (simp only [pickOps, List.getElem?_toArray, List.getElem?_cons_zero, List.getElem?_cons_succ, Option.toList_some, List.cons_append, List.nil_append]); (repeat (first | go_big_quiet_step (fail) | quiet_step (fail))); refine wpQuiet_nil (hK _ ?_); clear hK K
      (refine Eg.read (grow_pre (w.heap.size + 1 + 1)) (by intro c a d v w h; cases d <;> exact h) (by kernel_rfl) (i := 0) (n := 4) (l := [1, 2]) rfl (by kernel_rfl) (by kernel_rfl) rfl ⟨_, fun w' hR => load_run rfl (load_pg (HP3.out.drew.grown hR (by simp; omega)) HPL.out), ?_⟩); (simp only [Act.put, List.setIfInBounds_toArray, List.getElem_toArray, List.getElem_cons_succ, List.getElem_cons_zero, List.set_cons_succ, List.set_cons_zero])
      refine Eg.act (grow_pre (w.heap.size + 1 + 1)) (i := 3) (n := 3) (l := [1, 2, 0]) rfl (by kernel_rfl) ?_
      go_wp2_with (go_at_call 13; refine (num5_any _ _).mono ?_; rintro e w' ⟨rfl, rfl⟩)
      refine ⟨(grow_pre (w.heap.size + 1 + 1)).refl _, ?_⟩
      refine Eg.act (grow_pre (w.heap.size + 1 + 1)) (i := 4) (n := 2) (l := [1, 2, 0, 3]) rfl (by kernel_rfl) ?_
      go_wp2_with (refine wpList_store_row rfl 23 _ _ rfl _ _ rfl rfl _ _ HR3.out.drew (pgSize HPL.out) (by rw [cells8_size, cells8_size, HPL.out, HZ.out]) (cells8_one P) ?_)
      refine ⟨grown_row _ _ _, ?_⟩
      refine Eg.batchK (grow_pre (w.heap.size + 1 + 1)) (by intro c a d v w h; cases d <;> exact h) (by kernel_rfl) (n := 0) [5, 6] [1, 2, 0, 3, 4] _ (by kernel_rfl) (fun K hK => ?_); (simp only [pickOps, List.getElem?_toArray, List.getElem?_cons_zero, List.getElem?_cons_succ, Option.toList_some, List.cons_append, List.nil_append]); (repeat (first | go_big_quiet_step (fail) | quiet_step (fail))); refine wpQuiet_nil (hK _ ?_); clear hK K
      refine Eg.finish (by kernel_rfl) ?_
      go_wp2_with fail
      refine bodyPost_ret (results_row3 Try.results20 _ _ (w.heap.size + 1 + 1) _ (cells8 P) (0, 0) _ rfl (HR3.out.drew.row (cells8 P)) Try.pgUnd rfl (pgSize HPL.out)) rfl ⟨rfl, HE3.out.drew.setRow (by omega) _⟩
  by_cases hk6 : k = 6
  · subst hk6
    have K := Lib.hid (Seal_pg w1 P lsn h hlsn)
    have HQL : Hid ((sealP P lsn).length = 1024) := Lib.hid (sealP_length P lsn h)
    have HD : Hid (rawE P ⟨6, n, b, y, lsn⟩ = 0 ∧ rawQ P ⟨6, n, b, y, lsn⟩ = sealP P lsn ∧ rawN P ⟨6, n, b, y, lsn⟩ = 0) := Lib.hid ⟨rfl, rfl, rfl⟩
    have HDQ : Hid (doQ P ⟨6, n, b, y, lsn⟩ = if rawE P ⟨6, n, b, y, lsn⟩ = 0 then rawQ P ⟨6, n, b, y, lsn⟩ else P) := Lib.hid rfl
    rw [HD.out.1, HD.out.2.1] at HDQ HRZ
    rw [HD.out.2.2] at HRZ
    rw [HDQ.out, HD.out.1, HD.out.2.2]
    generalize sealP P lsn = Q at *
    simp only [if_true]
    rw [show ((0 : Nat) : Int) = 0 from rfl]
    go_wp2_with (first | (refine wpList_load_g rfl 23 _ rfl _ rfl _ hl0 ?_) | (refine wpList_store_row rfl 23 _ _ rfl _ _ rfl rfl _ _ HB0.out (pgSize h) (by rw [cells8_size, cells8_size, h, HZ.out]) (cells8_one P) ?_; rw [← hw1]; clear hw1 HX HB0 HP0 HE0 hw0) | (refine wpList_load_g rfl 23 _ rfl _ rfl _ hl1 ?_))
    refine K.out.mono ?_
    rintro e w2 ⟨rfl, hE2⟩
    have HQ2 := Lib.hid (HQ1.out.ext hE2)
    have HR2 := Lib.hid (HR1.out.ext hE2)
    have HP2 := Lib.hid (HP1.out.ext hE2)
    have HE2 := Lib.hid (HE1.out.trans hE2)
    clear hE2 K HQ1 HR1 HP1 HE1 hl1 hl0 c0 c1 c2 c4 HS2 HDQ HD
    go_wp2_with (first | (refine wpList_store_row rfl 23 _ _ rfl _ _ rfl rfl _ _ HQ2.out (pgSize HQL.out) (by rw [cells8_size, cells8_size, HQL.out, HPL.out]) (cells8_one _) ?_; have HQ3 := Lib.hid (HQ2.out.row (cells8 Q)); have HR3 := Lib.hid (HR2.out.rowFar (cells8 Q) (k := w.heap.size + 3) (by omega)); have HE3 := Lib.hid (HE2.out.setRow (g := w.heap.size + 3) (by omega) (cells8 Q)); have hl3 := load_pg HQ3.out HQL.out; generalize w2.setRow (w.heap.size + 3) (cells8 Q) = w3 at *; clear HQ2 HR2 HE2) | (go_at_call 13; refine (num5_any _ _).mono ?_; rintro e w' ⟨rfl, rfl⟩) | (refine wpList_load_g rfl 23 _ rfl _ rfl _ hl3 ?_) | (refine wpList_store_row rfl 23 _ _ rfl _ _ rfl rfl _ _ HR3.out (pgSize HQL.out) (by rw [cells8_size, cells8_size, HQL.out, HZ.out]) (cells8_one _) ?_))
    exact bodyPost_ret (results_row3 Try.results20 _ _ (w.heap.size + 1 + 1) _ (cells8 Q) (0, 0) _ rfl (HR3.out.row (cells8 Q)) Try.pgUnd rfl (pgSize HQL.out)) rfl ⟨rfl, HE3.out.setRow (by omega) _⟩
  have HD : Hid (rawE P ⟨k, n, b, y, lsn⟩ = 0 ∧ rawQ P ⟨k, n, b, y, lsn⟩ = P ∧ rawN P ⟨k, n, b, y, lsn⟩ = 0) := Lib.hid (by unfold rawE rawQ rawN; simp only [if_neg hk1, if_neg hk2, if_neg hk3, if_neg hk4, if_neg hk6]; exact ⟨trivial, trivial, trivial⟩)
  have HDQ : Hid (doQ P ⟨k, n, b, y, lsn⟩ = P) := Lib.hid (by unfold doQ; rw [if_pos HD.out.1, HD.out.2.1])
  rw [HDQ.out, HD.out.1, HD.out.2.2]
  have d1 : (k == 1) = false := by rw [beq_eq_false_iff_ne]; exact hk1
  have d2 : (k == 2) = false := by rw [beq_eq_false_iff_ne]; exact hk2
  have d3 : (k == 3) = false := by rw [beq_eq_false_iff_ne]; exact hk3
  have d4 : (k == 4) = false := by rw [beq_eq_false_iff_ne]; exact hk4
  have d5 : (k == 5) = false := by rw [beq_eq_false_iff_ne]; exact h5
  have d6 : (k == 6) = false := by rw [beq_eq_false_iff_ne]; exact hk6
  rw [show ((0 : Nat) : Int) = 0 from rfl]
  clear HD HDQ HRZ hk1 hk2 hk3 hk4 hk6 h5
  have HQ2 := HQ1
  have HR2 := HR1
  have HE2 := HE1
  have hl3 := load_pg HQ1.out h
  go_wp2_with (first | (refine wpList_load_g rfl 23 _ rfl _ rfl _ hl0 ?_) | (refine wpList_store_row rfl 23 _ _ rfl _ _ rfl rfl _ _ HB0.out (pgSize h) (by rw [cells8_size, cells8_size, h, HZ.out]) (cells8_one P) ?_; rw [← hw1]; clear hw1 HX HB0 HP0 HE0 hw0) | (go_at_call 13; refine (num5_any _ _).mono ?_; rintro e w' ⟨rfl, rfl⟩) | (refine wpList_load_g rfl 23 _ rfl _ rfl _ hl3 ?_) | (refine wpList_store_row rfl 23 _ _ rfl _ _ rfl rfl _ _ HR1.out (pgSize HPL.out) (by rw [cells8_size, cells8_size, HPL.out, HZ.out]) (cells8_one _) ?_))
  exact bodyPost_ret (results_row3 Try.results20 _ _ (w.heap.size + 1 + 1) _ (cells8 P) (0, 0) _ rfl (HR1.out.row (cells8 P)) Try.pgUnd rfl (pgSize HPL.out)) rfl ⟨rfl, HE1.out.setRow (by omega) _⟩

end Go.Proofs.Ytgbfeagoadlhmaa
