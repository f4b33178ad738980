
/-
  Contract of layer 5's known: the chapter's rows.
-/
import Derived.Test.YtgbfeagoadlhmaaKnownE
import Derived.Test.YtgbfeagoadlhmaaKnownA
set_option linter.unusedVariables false
set_option linter.unusedSimpArgs false
namespace Go.Proofs.Ytgbfeagoadlhmaa
open Go.RowKit Pl

theorem num5_any (n : Int) (w : World) : Calls Try.prog 13 #[.int .i64 n] w fun e w' => e = .returned (.int .i64 n) ∧ w = w' := by
  go_enter Try.func13, Try.ntmps13
  go_wp2
  go_ret
  exact ⟨rfl, rfl⟩

theorem load_row5 {P : Program} {w : World} {g : Nat} {t ty : TypeId} {cs : Array Value} {d : TypeDesc} (h : Blk w g t cs) (hu : P.underlying ty = some d) (hd : (match d with | .struct _ | .array _ _ => true | _ => false) = true) (hi : (P.info? ty).map (·.size) = some cs.size) :
    (Instr.loadAt ty (.pointer (some ⟨g, 0, none⟩))).run P w = .ok (.agg cs) w := by
  simp only [Instr.loadAt, Instr.sureAddr, Sem.run_bind, Sem.run_pure, Result.andThen_ok, run_loadVar_row w g t ty cs (0, 0) d h hu hd hi]
/-- a page, loaded -/
theorem load_pg {w : World} {g : Nat} {P : List UInt8} (h : Blk w g 23 (cells8 P)) (hl : P.length = 1024) : (Instr.loadAt 23 (.pointer (some ⟨g, 0, none⟩))).run Try.prog w = .ok (.agg (cells8 P)) w :=
  load_row5 h Try.pgUnd rfl (pgSize hl)

theorem wpList_load_g {P : Program} {ops : Array Oper} {rest : List Oper} {o : Oper} {a : Act} {w : World} {Q : Exit → Act → World → Prop} (hw : Region.wanted o (yielded ops a.tmps) = true) (ty : TypeId) (x : Operand) (ho : o.op = .load ty x)
    (p : Addr) (hx : a.eval x = .pointer (some p)) (u : Value) (hr : (Instr.loadAt ty (.pointer (some p))).run P w = .ok u w) (h : wpList P ops Q rest (a.put o.dst u) w) : wpList P ops Q (o :: rest) a w :=
  wpList_step fun K hK => by
    rw [if_pos hw]
    unfold Oper.wp
    rw [load_run ho (by rw [hx]; exact hr)]
    exact hK _ _ h

set_option maxHeartbeats 4000000 in
set_option maxRecDepth 100000 in
theorem known5_any (w : World) : Calls Try.prog 11 #[] w fun e w' => e = .returned (.bool true) ∧ Ext w w' := by
  have hz := (zero_of_info Try.page0).1
  have kc := fun (w : World) (C : Array Value) (n c : Nat) => Lib.run_convert_bytes_const (P := Try.prog) w 24 5 C n c Try.underlying24 Try.underlying5
  have K0 := Lib.hid (Init_pg w 3)
  rw [show (((3 : UInt8).toNat : Nat) : Int) = 3 from rfl, show initP 3 = kp0 from rfl] at K0
  have HZ := Lib.hid zeroP_length
  have HR0 := Lib.hid (fun W => Right_pg W zeroP zeroP_length)
  have HG0 := Lib.hid (fun W => Good_pg W zeroP zeroP_length)
  rw [k5_6.1] at HR0
  rw [k5_6.2] at HG0
  generalize zeroP = Z at *
  go_enter Try.func11, Try.ntmps11
  go_wp2_with fail
  refine K0.out.mono ?_
  rintro e w1 ⟨rfl, hE1⟩
  have hby := By.lit w1 [97, 98] 5 (2, 3)
  have K1 := Lib.hid (Insert_pg _ kp0 _ [97, 98] 2 (initP_length 3) hby (by decide))
  rw [show ([97, 98] : List UInt8).length = 2 from rfl, k5_1.1, k5_1.2.1, show insR kp0 [97, 98] = kp1 from rfl, show ((0 : Nat) : Int) = 0 from rfl] at K1
  clear hby
  go_wp2_with fail
  refine K1.out.mono ?_
  rintro e w2 ⟨rfl, hE2⟩
  have HE2 := Lib.hid (((hE1.alloc (.cells (cells8 [97, 98]) 5 (2, 3))).trans hE2).alloc (.cells (cells8 Z) 23))
  have HB2 := Lib.hid (Blk.new w2 23 (cells8 Z))
  have hgs : w.heap.size ≤ w2.heap.size := ((hE1.alloc (.cells (cells8 [97, 98]) 5 (2, 3))).trans hE2).size
  clear K0 K1 hE1 hE2
  go_wp2_with (first | (refine wpList_store_row rfl 23 _ _ rfl _ _ rfl rfl _ _ HB2.out (pgSize k5_1.2.2) (by rw [cells8_size, cells8_size, k5_1.2.2, HZ.out]) (cells8_one kp1) ?_; have HBn := Lib.hid (HB2.out.row (cells8 kp1)); have HEn := Lib.hid (HE2.out.setRow hgs (cells8 kp1)); have hldn := load_pg HBn.out k5_1.2.2; generalize (w2.alloc (.cells (cells8 Z) 23)).setRow w2.heap.size (cells8 kp1) = w3 at *; generalize w2.heap.size = g at *; clear HB2 HE2) | (refine wpList_load_g rfl 23 _ rfl _ rfl _ hldn ?_))
  have hby := By.lit w3 [99] 5 (1, 2)
  have K1 := Lib.hid (Insert_pg _ kp1 _ [99] 1 k5_1.2.2 hby (by decide))
  rw [show ([99] : List UInt8).length = 1 from rfl, k5_2.1, k5_2.2.1, show insR kp1 [99] = kp2 from rfl, show ((0 : Nat) : Int) = 0 from rfl] at K1
  clear hby
  refine K1.out.mono ?_
  rintro e w4 ⟨rfl, hE2⟩
  have HB2 := Lib.hid ((HBn.out.alloc (.cells (cells8 [99]) 5 (1, 2))).ext hE2)
  have HE2 := Lib.hid ((HEn.out.alloc (.cells (cells8 [99]) 5 (1, 2))).trans hE2)
  clear K1 hE2 HBn HEn hldn
  rw [show ((1 : Nat) : Int) = 1 from rfl]
  go_wp2_with (first | (refine wpList_store_row rfl 23 _ _ rfl _ _ rfl rfl _ _ HB2.out (pgSize k5_2.2.2) (by rw [cells8_size, cells8_size, k5_2.2.2, k5_1.2.2]) (cells8_one kp2) ?_; have HBn := Lib.hid (HB2.out.row (cells8 kp2)); have HEn := Lib.hid (HE2.out.setRow hgs (cells8 kp2)); have hldn := load_pg HBn.out k5_2.2.2; generalize (w4).setRow g (cells8 kp2) = w5 at *; clear HB2 HE2) | (refine wpList_load_g rfl 23 _ rfl _ rfl _ hldn ?_))
  have K1 := Lib.hid (Drop_pg w5 kp2 0 k5_2.2.2 (by decide) (by decide))
  rw [k5_3.1, show dropR kp2 0 = kp3 from rfl, show ((0 : Nat) : Int) = 0 from rfl] at K1
  refine K1.out.mono ?_
  rintro e w6 ⟨rfl, hE2⟩
  have HB2 := Lib.hid (HBn.out.ext hE2)
  have HE2 := Lib.hid (HEn.out.trans hE2)
  clear K1 hE2 HBn HEn hldn
  go_wp2_with (first | (refine wpList_store_row rfl 23 _ _ rfl _ _ rfl rfl _ _ HB2.out (pgSize k5_3.2) (by rw [cells8_size, cells8_size, k5_3.2, k5_2.2.2]) (cells8_one kp3) ?_; have HBn := Lib.hid (HB2.out.row (cells8 kp3)); have HEn := Lib.hid (HE2.out.setRow hgs (cells8 kp3)); have hldn := load_pg HBn.out k5_3.2; generalize (w6).setRow g (cells8 kp3) = w7 at *; clear HB2 HE2) | (refine wpList_load_g rfl 23 _ rfl _ rfl _ hldn ?_))
  have hby := By.lit w7 [120, 121, 122] 5 (3, 4)
  have K1 := Lib.hid (Insert_pg _ kp3 _ [120, 121, 122] 3 k5_3.2 hby (by decide))
  rw [show ([120, 121, 122] : List UInt8).length = 3 from rfl, k5_4.1, k5_4.2.1, show insR kp3 [120, 121, 122] = kp4 from rfl, show ((0 : Nat) : Int) = 0 from rfl] at K1
  clear hby
  refine K1.out.mono ?_
  rintro e w8 ⟨rfl, hE2⟩
  have HB2 := Lib.hid ((HBn.out.alloc (.cells (cells8 [120, 121, 122]) 5 (3, 4))).ext hE2)
  have HE2 := Lib.hid ((HEn.out.alloc (.cells (cells8 [120, 121, 122]) 5 (3, 4))).trans hE2)
  clear K1 hE2 HBn HEn hldn
  go_wp2_with (first | (refine wpList_store_row rfl 23 _ _ rfl _ _ rfl rfl _ _ HB2.out (pgSize k5_4.2.2) (by rw [cells8_size, cells8_size, k5_4.2.2, k5_3.2]) (cells8_one kp4) ?_; have HBn := Lib.hid (HB2.out.row (cells8 kp4)); have HEn := Lib.hid (HE2.out.setRow hgs (cells8 kp4)); have hldn := load_pg HBn.out k5_4.2.2; generalize (w8).setRow g (cells8 kp4) = w9 at *; clear HB2 HE2) | (refine wpList_load_g rfl 23 _ rfl _ rfl _ hldn ?_) | (go_at_call 13; refine (num5_any _ _).mono ?_; rintro e w' ⟨rfl, rfl⟩))
  have K1 := Lib.hid (Room_pg w9 kp4 k5_4.2.2)
  rw [k5_5.1] at K1
  refine K1.out.mono ?_
  rintro e w10 ⟨rfl, hE2⟩
  have HBx := Lib.hid (HBn.out.ext hE2)
  have HEx := Lib.hid (HEn.out.trans hE2)
  clear HBn HEn hldn
  have HBn := HBx
  have HEn := HEx
  have hldn := load_pg HBn.out k5_4.2.2
  clear HBx HEx
  clear K1 hE2
  go_wp2_with (first | (refine wpList_load_g rfl 23 _ rfl _ rfl _ hldn ?_))
  have K1 := Lib.hid (Kind_pg w10 kp4 k5_4.2.2)
  rw [k5_5.2.1] at K1
  refine K1.out.mono ?_
  rintro e w11 ⟨rfl, hE2⟩
  have HBx := Lib.hid (HBn.out.ext hE2)
  have HEx := Lib.hid (HEn.out.trans hE2)
  clear HBn HEn hldn
  have HBn := HBx
  have HEn := HEx
  have hldn := load_pg HBn.out k5_4.2.2
  clear HBx HEx
  clear K1 hE2
  go_wp2_with (first | (refine wpList_load_g rfl 23 _ rfl _ rfl _ hldn ?_))
  have K1 := Lib.hid (Item_pg w11 kp4 1 k5_4.2.2 (by decide) (by decide))
  rw [k5_5.2.2.1, k5_5.2.2.2.1] at K1
  refine K1.out.mono ?_
  rintro e w12 ⟨v1, rfl, hO1, hE2⟩
  obtain ⟨A1, c1, rfl, hby1, _, _⟩ := hO1.form
  have HY := Lib.hid hby1
  rw [show ([99] : List UInt8).length = 1 from rfl]
  have HBx := Lib.hid (HBn.out.ext hE2)
  have HEx := Lib.hid (HEn.out.trans hE2)
  clear HBn HEn hldn
  have HBn := HBx
  have HEn := HEx
  have hldn := load_pg HBn.out k5_4.2.2
  clear HBx HEx
  clear K1 hE2 hO1 hby1
  go_wp2_with (first | (refine wpList_load_g rfl 23 _ rfl _ rfl _ hldn ?_))
  have K1 := Lib.hid (Item_pg w12 kp4 2 k5_4.2.2 (by decide) (by decide))
  rw [k5_5.2.2.2.2.1] at K1
  refine K1.out.mono ?_
  rintro e w13 ⟨v2, rfl, hO1, hE2⟩
  have HY := Lib.hid (HY.out.ext hE2)
  have HBx := Lib.hid (HBn.out.ext hE2)
  have HEx := Lib.hid (HEn.out.trans hE2)
  clear HBn HEn hldn
  have HBn := HBx
  have HEn := HEx
  have hldn := load_pg HBn.out k5_4.2.2
  clear HBx HEx
  clear K1 hE2 hO1
  go_wp2_with (first | (refine wpList_load_g rfl 23 _ rfl _ rfl _ hldn ?_))
  have hby := By.lit w13 [100] 5 (1, 2)
  have K1 := Lib.hid (Set_pg _ kp4 1 _ [100] 1 k5_4.2.2 hby (by decide) (by decide) (by decide))
  rw [show ([100] : List UInt8).length = 1 from rfl, k5_5.2.2.2.2.2.1, show setR kp4 1 [100] = kp5 from rfl] at K1
  clear hby
  refine K1.out.mono ?_
  rintro e w14 ⟨rfl, hE2⟩
  have hE3 := ((Ext.refl w13).alloc (.cells (cells8 [100]) 5 (1, 2))).trans hE2
  have HNB := Lib.hid (Blk.new w14 23 (cells8 Z))
  have HX := Lib.hid (hE3.trans (((Ext.refl w14).alloc (.cells (cells8 Z) 23)).setRow (Nat.le_refl _) (cells8 kp5)))
  clear K1 hE2 hE3
  go_wp2_with (first | (refine wpList_store_row rfl 23 _ _ rfl _ _ rfl rfl _ _ HNB.out (pgSize k5_7.1) (by rw [cells8_size, cells8_size, k5_7.1, HZ.out]) (cells8_one kp5) ?_; generalize (w14.alloc (.cells (cells8 Z) 23)).setRow w14.heap.size (cells8 kp5) = w15 at *; have HYx := Lib.hid (HY.out.ext HX.out); have HBx := Lib.hid (HBn.out.ext HX.out); have HEx := Lib.hid (HEn.out.trans HX.out); clear HBn HEn hldn HY HNB HX; have HBn := HBx; have HEn := HEx; have HY := HYx; have hldn := load_pg HBn.out k5_4.2.2; clear HBx HEx HYx) | (refine wpList_load_g rfl 23 _ rfl _ rfl _ hldn ?_))
  have hby := By.lit w15 [100, 101] 5 (2, 3)
  have K1 := Lib.hid (Set_pg _ kp4 1 _ [100, 101] 2 k5_4.2.2 hby (by decide) (by decide) (by decide))
  rw [show ([100, 101] : List UInt8).length = 2 from rfl, k5_5.2.2.2.2.2.2, show setR kp4 1 [100, 101] = kp6 from rfl] at K1
  clear hby
  refine K1.out.mono ?_
  rintro e w16 ⟨rfl, hE2⟩
  have hE3 := ((Ext.refl w15).alloc (.cells (cells8 [100, 101]) 5 (2, 3))).trans hE2
  have HNB := Lib.hid (Blk.new w16 23 (cells8 Z))
  have HX := Lib.hid (hE3.trans (((Ext.refl w16).alloc (.cells (cells8 Z) 23)).setRow (Nat.le_refl _) (cells8 kp6)))
  clear K1 hE2 hE3
  go_wp2_with (first | (refine wpList_store_row rfl 23 _ _ rfl _ _ rfl rfl _ _ HNB.out (pgSize k5_7.2) (by rw [cells8_size, cells8_size, k5_7.2, HZ.out]) (cells8_one kp6) ?_; generalize (w16.alloc (.cells (cells8 Z) 23)).setRow w16.heap.size (cells8 kp6) = w17 at *; have HYx := Lib.hid (HY.out.ext HX.out); have HBx := Lib.hid (HBn.out.ext HX.out); have HEx := Lib.hid (HEn.out.trans HX.out); clear HBn HEn hldn HY HNB HX; have HBn := HBx; have HEn := HEx; have HY := HYx; have hldn := load_pg HBn.out k5_4.2.2; clear HBx HEx HYx) | (refine wpList_load_g rfl 23 _ rfl _ rfl _ hldn ?_))
  refine (Diff_pg w17 kp4 kp4 k5_4.2.2 k5_4.2.2).mono ?_
  rintro e w18 ⟨f, t, v, hD, rfl, hO, hE2⟩
  obtain ⟨rfl, rfl⟩ := hD.self
  rw [show (kp4.drop 1024).take (1024 - 1024) = [] by simp] at hO
  obtain ⟨A2, c2, rfl, _, _, _⟩ := hO.form
  rw [show ([] : List UInt8).length = 0 from rfl]
  have hstr := run_string (P := Try.prog) (HY.out.ext hE2) 24 5 9 Try.underlying24 Try.underlying5 Try.underlying9 c1
  rw [show ([99] : List UInt8).length = 1 from rfl] at hstr
  have HEf := Lib.hid (HEn.out.trans hE2)
  have K1 := Lib.hid (HR0.out w18)
  clear hE2 hO hD HY HBn HEn hldn
  go_wp2_with (first | (go_at_call 13; refine (num5_any _ _).mono ?_; rintro e w' ⟨rfl, rfl⟩))
  refine K1.out.mono ?_
  rintro e w19 ⟨rfl, hE3⟩
  have K2 := Lib.hid (HG0.out w19)
  go_wp2_with fail
  refine K2.out.mono ?_
  rintro e w20 ⟨rfl, hE4⟩
  go_wp2_with fail
  go_ret
  exact ⟨rfl, (HEf.out.trans hE3).trans hE4⟩

end Go.Proofs.Ytgbfeagoadlhmaa
