
/-
  Contract of law04.known.
-/
import Derived.Test.YtahooohokdbnpaaNetO
import Derived.Lib.SlBytesConst
set_option linter.unusedVariables false
set_option linter.unusedSimpArgs false
namespace Go.Proofs.Ytahooohokdbnpaa
open Go.RowKit Go.Shelf Go.Maps Pl

attribute [local go_sem] Oper.semAt_some

abbrev kn0 : Nt := newN 3
abbrev kn1 : Nt := sendN kn0 2 1 [97]
abbrev kn2 : Nt := sendN kn1 1 2 [98]
abbrev kn3 : Nt := sendN kn2 1 3 [99]
abbrev kn4 : Nt := takeN kn3 2
abbrev kn5 : Nt := doubleN kn4 0
abbrev kn6 : Nt := takeN kn5 1
theorem kn_a : atF kn3 0 = ⟨1, 2, [98]⟩ ∧ atE kn3 0 = 0 ∧ atF kn3 2 = ⟨2, 1, [97]⟩ ∧ atE kn3 2 = 0 ∧ (flN kn4).length = 2 ∧ doubleE kn4 0 = 0 ∧ atF kn5 1 = ⟨1, 2, [98]⟩ ∧ atE kn5 1 = 0 ∧ atE kn6 9 = 6 ∧
    sendE kn0 2 1 1 = 0 ∧ sendE kn1 1 2 1 = 0 ∧ sendE kn2 1 3 1 = 0 ∧ sendE (takeN kn6 9) 1 1 1 = 2 := by
  refine ⟨rfl, by decide +kernel, rfl, by decide +kernel, by decide +kernel, by decide +kernel, rfl, by decide +kernel, by decide +kernel, by decide +kernel, by decide +kernel, by decide +kernel, by decide +kernel⟩
theorem i64_lit {n : Nat} (h : n ≤ 1000000) : I64 (n : Int) := .small h


theorem lit_by (w : World) (n : UInt8) : By (w.alloc (.cells #[.int .u8 (n.toNat : Int)] 5 (1, 2))) (some ⟨w.heap.size, 0, none⟩) [n] :=
  .inr ⟨w.heap.size, 0, rfl, fun i hi => by
    obtain rfl : i = 0 := by simp at hi; omega
    rw [cell_of_row _ _ _ _ _ (1, 2) (World.alloc_heap_new w _)]
    rfl⟩

set_option maxHeartbeats 4000000 in
set_option maxRecDepth 100000 in
theorem known_net (w : World) : Calls Try.prog 11 #[] w fun e w' => e = .returned (.bool true) ∧ Ext w w' := by
  have KA := Lib.hid kn_a
  have K1 := New_net w 3 (by omega) (by omega)
  rw [show ((3 : Nat) : Int) = 3 from rfl] at K1
  have HK1 := Lib.hid K1
  have hcv := fun (w : World) (C : Array Value) (n c : Nat) => Lib.run_convert_bytes_const (P := Try.prog) w 36 5 C n c Try.underlying36 Try.underlying5
  clear K1
  go_enter Try.func11, Try.ntmps11
  go_wp2_with fail
  refine HK1.out.mono ?_
  rintro e w1 ⟨S1, g, rfl, hN1, hS1, hE1⟩
  have HN1 := Lib.hid hN1
  have HS1 := Lib.hid hS1
  have HE1 := Lib.hid hE1
  clear hN1 hS1 hE1 HK1
  go_wp2_with fail
  refine (num4_any _ _).mono ?_
  rintro e w' ⟨rfl, rfl⟩
  go_wp2_with fail
  -- Send
  have HX1 := Lib.hid (ext_new w1 (.cells #[.int .u8 97] 5 (1, 2)))
  refine (Send_net (l := [97]) (HN1.out.ext HX1.out) (a := 2) (b := 1) (by unfold I64; omega) (by unfold I64; omega) (by omega) (lit_by w1 97) (by simp)).mono ?_
  rintro e w2 ⟨rfl, S2, hN2, hS2, hC2⟩
  have HN2 := Lib.hid hN2
  have HS2 : Hid (∀ k, S2 k → w.heap.size ≤ k) := Lib.hid (fun k hk => by rcases hS2 k hk with h | h; exact HS1.out k h; have := (HE1.out.trans HX1.out).size; omega)
  have HE2 := Lib.hid (hC2.ext (HE1.out.trans HX1.out) HS1.out)
  rw [show sendE kn0 2 1 ([97] : List UInt8).length = 0 from KA.out.2.2.2.2.2.2.2.2.2.1]
  clear hN2 hS2 hC2
  go_wp2_with fail
  refine (num4_any _ _).mono ?_
  rintro e w' ⟨rfl, rfl⟩
  go_wp2_with fail
  -- Send
  have HX2 := Lib.hid (ext_new w2 (.cells #[.int .u8 98] 5 (1, 2)))
  refine (Send_net (l := [98]) (HN2.out.ext HX2.out) (a := 1) (b := 2) (by unfold I64; omega) (by unfold I64; omega) (by omega) (lit_by w2 98) (by simp)).mono ?_
  rintro e w3 ⟨rfl, S3, hN3, hS3, hC3⟩
  have HN3 := Lib.hid hN3
  have HS3 : Hid (∀ k, S3 k → w.heap.size ≤ k) := Lib.hid (fun k hk => by rcases hS3 k hk with h | h; exact HS2.out k h; have := (HE2.out.trans HX2.out).size; omega)
  have HE3 := Lib.hid (hC3.ext (HE2.out.trans HX2.out) HS2.out)
  rw [show sendE kn1 1 2 ([98] : List UInt8).length = 0 from KA.out.2.2.2.2.2.2.2.2.2.2.1]
  clear hN3 hS3 hC3
  go_wp2_with fail
  refine (num4_any _ _).mono ?_
  rintro e w' ⟨rfl, rfl⟩
  go_wp2_with fail
  -- Send
  have HX3 := Lib.hid (ext_new w3 (.cells #[.int .u8 99] 5 (1, 2)))
  refine (Send_net (l := [99]) (HN3.out.ext HX3.out) (a := 1) (b := 3) (by unfold I64; omega) (by unfold I64; omega) (by omega) (lit_by w3 99) (by simp)).mono ?_
  rintro e w4 ⟨rfl, S4, hN4, hS4, hC4⟩
  have HN4 := Lib.hid hN4
  have HS4 : Hid (∀ k, S4 k → w.heap.size ≤ k) := Lib.hid (fun k hk => by rcases hS4 k hk with h | h; exact HS3.out k h; have := (HE3.out.trans HX3.out).size; omega)
  have HE4 := Lib.hid (hC4.ext (HE3.out.trans HX3.out) HS3.out)
  rw [show sendE kn2 1 3 ([99] : List UInt8).length = 0 from KA.out.2.2.2.2.2.2.2.2.2.2.2.1]
  clear hN4 hS4 hC4
  go_wp2_with fail
  refine (num4_any _ _).mono ?_
  rintro e w' ⟨rfl, rfl⟩
  go_wp2_with fail
  -- At(0)
  have HNF := Lib.hid HN4.out
  refine (At_net HN4.out 0 (by unfold I64; omega)).mono ?_
  rintro e w5 ⟨vb, rfl, hb5, hE5⟩
  rw [show atF (sendN (sendN (sendN (newN 3) 2 1 [97]) 1 2 [98]) 1 3 [99]) 0 = ⟨1, 2, [98]⟩ from KA.out.1] at hb5 ⊢
  rw [show atE (sendN (sendN (sendN (newN 3) 2 1 [97]) 1 2 [98]) 1 3 [99]) 0 = 0 from KA.out.2.1]
  obtain ⟨A5, c5, rfl, _⟩ := id hb5
  have HN5 := Lib.hid (HN4.out.ext hE5)
  have HE5 := Lib.hid (HE4.out.trans hE5)
  have HB5 := Lib.hid hb5
  clear hb5 hE5
  have HX5 := Lib.hid (ext_new w5 (.cells #[.int .i64 1, .int .i64 2, .slice A5 1 c5] 45))
  have HBX := Lib.hid (Blk.new w5 45 #[.int .i64 1, .int .i64 2, .slice A5 1 c5])
  have HNX : Hid (¬ S4 w5.heap.size) := Lib.hid (fun h => by have := HN5.out.lt _ h; omega)
  go_wp2_with fail
  -- Take(2)
  generalize w5.alloc (.cells #[.int .i64 1, .int .i64 2, .slice A5 1 c5] 45) = w6 at *
  have HN6 := Lib.hid (HN5.out.ext HX5.out)
  have HE6 := Lib.hid (HE5.out.trans HX5.out)
  have HB6 := Lib.hid (HB5.out.ext HX5.out)
  have hbxl := HBX.out.lt
  generalize w5.heap.size = bx at *
  refine (Take_net HN6.out 2 (by unfold I64; omega) (by omega)).mono ?_
  rintro e w7 ⟨vb, rfl, hb7, S7, hN7, hS7, hC7⟩
  rw [show atF (sendN (sendN (sendN (newN 3) 2 1 [97]) 1 2 [98]) 1 3 [99]) 2 = ⟨2, 1, [97]⟩ from KA.out.2.2.1] at hb7 ⊢
  rw [show atE (sendN (sendN (sendN (newN 3) 2 1 [97]) 1 2 [98]) 1 3 [99]) 2 = 0 from KA.out.2.2.2.1]
  obtain ⟨A7, c7, rfl, _⟩ := id hb7
  have HN7 := Lib.hid hN7
  have HB7 := Lib.hid hb7
  have HS7 : Hid (∀ k, S7 k → w.heap.size ≤ k) := Lib.hid (fun k hk => by rcases hS7 k hk with h | h; exact HS4.out k h; have := HE6.out.size; omega)
  have HE7 := Lib.hid (hC7.ext HE6.out HS4.out)
  have HBa := Lib.hid (hC7.blk HBX.out HNX.out)
  have HB6' := Lib.hid (HB6.out.chg hC7 HN6.out.bytes)
  have HNX7 : Hid (¬ S7 bx) := Lib.hid (fun h => by rcases hS7 _ h with h | h; exact HNX.out h; omega)
  have HX7 := Lib.hid (ext_new w7 (.cells #[.int .i64 2, .int .i64 1, .slice A7 1 c7] 45))
  have HBY := Lib.hid (Blk.new w7 45 #[.int .i64 2, .int .i64 1, .slice A7 1 c7])
  have HNY : Hid (¬ S7 w7.heap.size) := Lib.hid (fun h => by have := HN7.out.lt _ h; omega)
  clear hb7 hN7 hS7 hC7
  have HBX8 := Lib.hid (HBa.out.ext HX7.out)
  have HN8 := Lib.hid (HN7.out.ext HX7.out)
  have HE8 := Lib.hid (HE7.out.trans HX7.out)
  have HB8 := Lib.hid (HB7.out.ext HX7.out)
  have HB8' := Lib.hid (HB6'.out.ext HX7.out)
  go_upto_region 6 with fail
  generalize w7.alloc (.cells #[.int .i64 2, .int .i64 1, .slice A7 1 c7] 45) = w8 at *
  generalize w7.heap.size = bY at *
  obtain ⟨x0, x1, x2⟩ := cell3 HBX8.out
  go_wp2_with fail
  -- Same(a, b)
  have HY8 := Lib.hid (ext_new w8 (.cells #[.int .u8 98] 5 (1, 2)))
  refine (Same_by _ 1 2 1 2 A5 (some ⟨w8.heap.size, 0, none⟩) c5 1 [98] [98] ((By.ext (show By w8 A5 [98] from (by obtain ⟨_, _, e, h, _⟩ := HB8'.out.by_; cases e; exact h)) HY8.out)) (lit_by w8 98)).mono ?_
  rintro e w9 ⟨rfl, hE9⟩
  have HE9 := Lib.hid (HY8.out.trans hE9)
  clear hE9 x0 x1 x2
  obtain ⟨y0, y1, y2⟩ := cell3 (HBY.out.ext HE9.out)
  rw [show sameZ 1 2 [98] 1 2 [98] = true from rfl]
  go_wp2_with fail
  -- Same(b, a)
  have HY9 := Lib.hid (ext_new w9 (.cells #[.int .u8 97] 5 (1, 2)))
  refine (Same_by _ 2 1 2 1 A7 (some ⟨w9.heap.size, 0, none⟩) c7 1 [97] [97] ((By.ext (show By w8 A7 [97] from (by obtain ⟨_, _, e, h, _⟩ := HB8.out.by_; cases e; exact h)) (HE9.out.trans HY9.out))) (lit_by w9 97)).mono ?_
  rintro e w10 ⟨rfl, hE10⟩
  have HE10 := Lib.hid (HE9.out.trans (HY9.out.trans hE10))
  clear hE10 y0 y1 y2
  rw [show sameZ 2 1 [97] 2 1 [97] = true from rfl]
  go_wp2_with fail
  refine (num4_any _ _).mono ?_
  rintro e w' ⟨rfl, rfl⟩
  go_wp2_with fail
  refine (num4_any _ _).mono ?_
  rintro e w' ⟨rfl, rfl⟩
  go_wp2_with fail
  have HN10 := Lib.hid (HN8.out.ext HE10.out)
  refine (Len_net HN10.out).mono ?_
  rintro e w11 ⟨rfl, hE11⟩
  rw [show (flN (takeN (sendN (sendN (sendN (newN 3) 2 1 [97]) 1 2 [98]) 1 3 [99]) 2)).length = 2 from KA.out.2.2.2.2.1]
  have HE11 := Lib.hid (HE10.out.trans hE11)
  clear hE11
  go_wp2_with fail
  -- Double(0)
  have HN11 := Lib.hid (HN8.out.ext HE11.out)
  refine (Double_net HN11.out 0 (by unfold I64; omega) (by omega)).mono ?_
  rintro e w12 ⟨rfl, S12, hN12, hS12, hC12⟩
  rw [show doubleE (takeN (sendN (sendN (sendN (newN 3) 2 1 [97]) 1 2 [98]) 1 3 [99]) 2) 0 = 0 from KA.out.2.2.2.2.2.1]
  have HN12 := Lib.hid hN12
  have HS12 : Hid (∀ k, S12 k → w.heap.size ≤ k) := Lib.hid (fun k hk => by rcases hS12 k hk with h | h; exact HS7.out k h; have := (HE8.out.trans HE11.out).size; omega)
  have HE12 := Lib.hid (hC12.ext (HE8.out.trans HE11.out) HS7.out)
  have hbxl8 := HBX8.out.lt
  have hs11 := HE11.out.size
  have HBX12 := Lib.hid (hC12.blk (HBX8.out.ext HE11.out) HNX7.out)
  have HB12 := Lib.hid ((HB8'.out.ext HE11.out).chg hC12 HN11.out.bytes)
  have HNX12 : Hid (¬ S12 bx) := Lib.hid (fun h => by rcases hS12 _ h with h | h; exact HNX7.out h; omega)
  have hs12 := hC12.size
  clear hN12 hS12 hC12
  go_wp2_with fail
  -- Take(1)
  refine (Take_net HN12.out 1 (by unfold I64; omega) (by omega)).mono ?_
  rintro e w13 ⟨vb, rfl, hb13, S13, hN13, hS13, hC13⟩
  rw [show atF (doubleN (takeN (sendN (sendN (sendN (newN 3) 2 1 [97]) 1 2 [98]) 1 3 [99]) 2) 0) 1 = ⟨1, 2, [98]⟩ from KA.out.2.2.2.2.2.2.1] at hb13 ⊢
  rw [show atE (doubleN (takeN (sendN (sendN (sendN (newN 3) 2 1 [97]) 1 2 [98]) 1 3 [99]) 2) 0) 1 = 0 from KA.out.2.2.2.2.2.2.2.1]
  obtain ⟨A13, c13, rfl, _⟩ := id hb13
  have HN13 := Lib.hid hN13
  have HB13 := Lib.hid hb13
  have HS13 : Hid (∀ k, S13 k → w.heap.size ≤ k) := Lib.hid (fun k hk => by rcases hS13 k hk with h | h; exact HS12.out k h; have := HE12.out.size; omega)
  have HE13 := Lib.hid (hC13.ext HE12.out HS12.out)
  have HBX13 := Lib.hid (hC13.blk HBX12.out HNX12.out)
  have HB13' := Lib.hid (HB12.out.chg hC13 HN12.out.bytes)
  have HX13 := Lib.hid (ext_new w13 (.cells #[.int .i64 1, .int .i64 2, .slice A13 1 c13] 45))
  have HBZ := Lib.hid (Blk.new w13 45 #[.int .i64 1, .int .i64 2, .slice A13 1 c13])
  clear hb13 hN13 hS13 hC13
  go_upto_region 10 with fail
  have HN14 := Lib.hid (HN13.out.ext HX13.out)
  have HE14 := Lib.hid (HE13.out.trans HX13.out)
  have HBX14 := Lib.hid (HBX13.out.ext HX13.out)
  have HB14 := Lib.hid (HB13.out.ext HX13.out)
  have HB14' := Lib.hid (HB13'.out.ext HX13.out)
  generalize w13.alloc (.cells #[.int .i64 1, .int .i64 2, .slice A13 1 c13] 45) = w14 at *
  generalize w13.heap.size = bz at *
  go_wp2_with fail
  refine (num4_any _ _).mono ?_
  rintro e w' ⟨rfl, rfl⟩
  go_wp2_with fail
  refine (num4_any _ _).mono ?_
  rintro e w' ⟨rfl, rfl⟩
  obtain ⟨x0, x1, x2⟩ := cell3 HBX14.out
  obtain ⟨z0, z1, z2⟩ := cell3 HBZ.out
  go_wp2_with fail
  refine (Same_any w14 1 2 1 2 _ _ [98] [98] HB14.out HB14'.out).mono ?_
  rintro e w15 ⟨rfl, hE15⟩
  rw [show sameZ 1 2 [98] 1 2 [98] = true from rfl]
  have HE15 := Lib.hid hE15
  clear hE15 x0 x1 x2 z0 z1 z2
  go_wp2_with fail
  -- Drop(9)
  have HN15 := Lib.hid (HN14.out.ext HE15.out)
  refine (Drop_net HN15.out 9 (by unfold I64; omega) (by omega)).mono ?_
  rintro e w16 ⟨rfl, S16, hN16, hS16, hC16⟩
  rw [show atE (takeN (doubleN (takeN (sendN (sendN (sendN (newN 3) 2 1 [97]) 1 2 [98]) 1 3 [99]) 2) 0) 1) 9 = 6 from KA.out.2.2.2.2.2.2.2.2.1]
  have HN16 := Lib.hid hN16
  have HS16 : Hid (∀ k, S16 k → w.heap.size ≤ k) := Lib.hid (fun k hk => by rcases hS16 k hk with h | h; exact HS13.out k h; have := (HE14.out.trans HE15.out).size; omega)
  have HE16 := Lib.hid (hC16.ext (HE14.out.trans HE15.out) HS13.out)
  clear hN16 hS16 hC16
  go_wp2_with fail
  refine (num4_any _ _).mono ?_
  rintro e w' ⟨rfl, rfl⟩
  go_wp2_with fail
  have HX16 := Lib.hid (ext_new w16 (.cells #[.int .u8 120] 5 (1, 2)))
  refine (Send_net (l := [120]) (HN16.out.ext HX16.out) (a := 1) (b := 1) (by unfold I64; omega) (by unfold I64; omega) (by omega) (lit_by w16 120) (by simp)).mono ?_
  rintro e w17 ⟨rfl, S17, hN17, hS17, hC17⟩
  have HE17 := Lib.hid (hC17.ext (HE16.out.trans HX16.out) HS16.out)
  rw [show sendE (takeN (takeN (doubleN (takeN (sendN (sendN (sendN (newN 3) 2 1 [97]) 1 2 [98]) 1 3 [99]) 2) 0) 1) 9) 1 1 ([120] : List UInt8).length = 2 from KA.out.2.2.2.2.2.2.2.2.2.2.2.2]
  clear hN17 hS17 hC17
  go_wp2_with fail
  refine (num4_any _ _).mono ?_
  rintro e w' ⟨rfl, rfl⟩
  go_wp2_with fail
  go_ret
  exact ⟨rfl, HE17.out⟩

end Go.Proofs.Ytahooohokdbnpaa
