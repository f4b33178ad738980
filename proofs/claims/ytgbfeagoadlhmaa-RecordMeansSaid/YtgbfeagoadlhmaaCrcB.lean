
/-
  Contracts of crc.Sum, crc.More, crc.Holds and of the reference's step, More, Sum.
-/
import Derived.Test.YtgbfeagoadlhmaaCrcA
import Derived.Test.YtgbfeagoadlhmaaReadC
import Derived.Deep.WholeRow
set_option linter.unusedVariables false
set_option linter.unusedSimpArgs false
namespace Go.Proofs.Ytgbfeagoadlhmaa
open Go.RowKit Pl

/-- all bits -/
def ones : BitVec 32 := ~~~0#32
theorem crc_ones (l : List UInt8) : crc l = ~~~ reg ones l := rfl
theorem not32 (a : BitVec 32) : bits .xor .u32 IntKind.u32.max (a.toNat : Int) = ((~~~ a).toNat : Int) := by
  have h : bits .xor .u32 (ones.toNat : Int) (a.toNat : Int) = ((ones ^^^ a).toNat : Int) := xor32 ones a
  rw [not_eq a, BitVec.xor_comm]
  exact h
theorem xor_ones (a : BitVec 32) : bits .xor .u32 (a.toNat : Int) 4294967295 = ((~~~ a).toNat : Int) := by
  have h : bits .xor .u32 (a.toNat : Int) (ones.toNat : Int) = ((a ^^^ ones).toNat : Int) := xor32 a ones
  rw [not_eq a]
  exact h

theorem eq32 (a b : BitVec 32) : ((a.toNat : Int) == (b.toNat : Int)) = decide (a = b) := by
  rw [Bool.eq_iff_iff]
  simp only [beq_iff_eq, decide_eq_true_eq]
  exact ⟨fun h => BitVec.eq_of_toNat_eq (by omega), fun h => by rw [h]⟩
theorem ne32 (a b : BitVec 32) : ((a.toNat : Int) != (b.toNat : Int)) = !decide (a = b) := by
  rw [← eq32]; rfl

theorem reg_next (r : BitVec 32) (L : List (List UInt8)) (j : Nat) (h : j < L.length) : reg r (L.take (j + 1)).flatten = reg (reg r (L.take j).flatten) (L.getD j []) := by
  rw [take_next L j h, reg_app]

set_option maxHeartbeats 800000 in
theorem csum_any (A : Option Addr) (L : List (List UInt8)) (c : Nat) (hL : L.length ≤ 9223372036854775807) (hsz : L.flatten.length ≤ 9223372036854775807) (w : World) (hb : Bys w A L) :
    Calls Try.prog 78 #[.slice A L.length c] w fun e w' => e = .returned (.int .u32 ((crc L.flatten).toNat : Int)) ∧ Ext w w' := by
  generalize hn : L.length = n at *
  have HN := Lib.hid hn
  have HB := Lib.hid hb
  clear hb hn
  go_enter Try.func78, Try.ntmps78
  go_wp2_with fail
  refine (nibbles_any _).mono ?_
  rintro e w1 ⟨rfl, hE1⟩
  have HB0 := Lib.hid (Blk.new w1 141 (nibTo 0))
  rw [nibTo_zero] at HB0
  go_wp2_with (first | (refine wpList_store_row rfl 141 _ _ rfl _ _ rfl rfl _ _ HB0.out (by rw [nibs_size]; kernel_rfl) (by rw [nibs_size]; rfl) nibs_one ?_))
  rw [World.setRow_alloc_new]
  have HB2 := Lib.hid (Blk.new w1 141 nibs)
  have HE2 := Lib.hid (hE1.alloc (.cells nibs 141))
  clear HB0 hE1
  generalize w1.alloc (.cells nibs 141) = w2 at *
  generalize w1.heap.size = g at *
  go_loopw [4, 10] (fun s i wr => ∃ j : Nat, j ≤ n ∧ i = .int .i64 j ∧ s = .int .u32 ((reg ones (L.take j).flatten).toNat : Int) ∧ Blk wr g 141 nibs ∧ Ext w wr) (fun _ i _ => n - (intOf i).toNat)
  case atStart => exact ⟨0, Nat.zero_le _, rfl, rfl, HB2.out, HE2.out⟩
  case round =>
    obtain ⟨j, hj, rfl, rfl, hB, hE⟩ := hrel
    have HBj := Lib.hid hB
    have HEj := Lib.hid hE
    clear hB hE HB2 HE2
    by_cases hlt : j < n
    · have hr := reg_next ones L j (by rw [HN.out]; exact hlt)
      have HR := Lib.hid hr
      clear hr
      generalize reg ones (L.take j).flatten = x at *
      obtain ⟨b, o, rfl, Ai, ci, hc, hby, hci⟩ := (HB.out.ext HEj.out).at_ (i := j) (by rw [HN.out]; exact hlt)
      have hlen : (L.getD j []).length ≤ 9223372036854775807 := by
        have h1 := flat_le L (j + 1)
        rw [take_next L j (by rw [HN.out]; exact hlt), List.length_append] at h1
        omega
      have HK := Lib.hid (take_any x Ai (L.getD j []) ci hlen wr hby)
      generalize L.getD j [] = lj at *
      generalize lj.length = m at *
      clear hby
      go_wp2_with (first | (refine wpList_load_row rfl 141 _ rfl _ rfl _ _ _ _ HBj.out Try.underlying141 rfl (by rw [nibs_size]; kernel_rfl) ?_) | (go_at_call 99; refine HK.out.mono ?_; rintro e w3 ⟨rfl, hE3⟩))
      exact ⟨⟨j + 1, by omega, by go_num, by rw [HR.out], HBj.out.ext hE3, HEj.out.trans hE3⟩, by simp [intOf]; omega⟩
    · obtain rfl : j = n := by omega
      go_wp2
      go_ret
      refine ⟨?_, HEj.out⟩
      rw [crc_ones, ← not32, List.take_of_length_le (by rw [HN.out]; omega)]
      rfl

/-- the sum of one list -/
theorem csum_one (A : Option Addr) (l : List UInt8) (c : Nat) (hl : l.length ≤ 9223372036854775807) (hlc : l.length ≤ c) (w : World) (hb : By w A l) (t : TypeId) :
    Calls Try.prog 78 #[.slice (some ⟨w.heap.size, 0, none⟩) 1 1] (w.alloc (.cells #[.slice A l.length c] t)) fun e w' => e = .returned (.int .u32 ((crc l).toNat : Int)) ∧ Ext w w' := by
  have h := csum_any (some ⟨w.heap.size, 0, none⟩) [l] 1 (by simp) (by simpa using hl) _ (Bys.one hb hlc t)
  rw [show [l].flatten = l by simp] at h
  exact h.mono fun e w' ⟨h1, h2⟩ => ⟨h1, ((Ext.refl w).alloc _).trans h2⟩

theorem sh_mod (r : BitVec 32) : ((r.toNat : Int) % 2 == 1) = r.getLsbD 0 := by
  have e : r.getLsbD 0 = decide (r.toNat % 2 = 1) := by rw [BitVec.getLsbD, Nat.testBit_zero]
  rw [e, Bool.eq_iff_iff]
  simp only [beq_iff_eq, decide_eq_true_eq]
  omega

set_option maxHeartbeats 800000 in
theorem rstep_any (r : BitVec 32) (w : World) : Calls Try.prog 116 #[.int .u32 (r.toNat : Int)] w fun e w' => e = .returned (.int .u32 ((its 8 r).toNat : Int)) ∧ w = w' := by
  go_enter Try.func116, Try.ntmps116
  go_wp2
  go_loop [0, 3] (fun s i => ∃ k : Nat, k ≤ 8 ∧ i = .int .i64 k ∧ s = .int .u32 ((its k r).toNat : Int)) (fun _ i => 8 - (intOf i).toNat)
  case atStart => exact ⟨0, Nat.zero_le _, rfl, rfl⟩
  case round =>
    obtain ⟨k, hk, rfl, rfl⟩ := hrel
    by_cases hlt : k < 8
    · have HS := Lib.hid (its_succ k r)
      generalize its k r = y at *
      have hy := y.isLt
      have hm := sh_mod y
      cases hb : y.getLsbD 0 with
      | false =>
        have hs : sh y = y >>> 1 := by unfold sh; rw [hb]; simp
        rw [hb] at hm
        rw [hs] at HS
        clear hb hs
        go_wp2
        exact ⟨⟨k + 1, by omega, by go_num, by rw [HS.out, ← shr1]⟩, by simp [intOf]; omega⟩
      | true =>
        have hs : sh y = y >>> 1 ^^^ poly := by unfold sh; rw [hb]; simp
        rw [hb] at hm
        rw [hs] at HS
        clear hb hs
        go_wp2
        have h2 : bits .xor .u32 ((y >>> 1).toNat : Int) 2197175160 = ((y >>> 1 ^^^ poly).toNat : Int) := xor32 (y >>> 1) poly
        exact ⟨⟨k + 1, by omega, by go_num, by rw [HS.out, ← h2, ← shr1]⟩, by simp [intOf]; omega⟩
    · obtain rfl : k = 8 := by omega
      go_wp2
      go_ret
      exact ⟨rfl, rfl⟩

set_option maxHeartbeats 800000 in
theorem rmore_any (s : BitVec 32) (A : Option Addr) (l : List UInt8) (c : Nat) (hl : l.length ≤ 9223372036854775807) (w : World) (hb : By w A l) :
    Calls Try.prog 111 #[.int .u32 (s.toNat : Int), .slice A l.length c] w fun e w' => e = .returned (.int .u32 ((crcMore s l).toNat : Int)) ∧ w = w' := by
  have hx := xor_ones s
  generalize hs : ~~~ s = s' at *
  have HS := Lib.hid hs
  clear hs
  generalize hn : l.length = n at *
  have HN := Lib.hid hn
  have HB := Lib.hid hb
  clear hb hn
  go_enter Try.func111, Try.ntmps111
  go_wp2
  go_loop [5, 6] (fun x i => ∃ j : Nat, j ≤ n ∧ i = .int .i64 j ∧ x = .int .u32 ((reg s' (l.take j)).toNat : Int)) (fun _ i => n - (intOf i).toNat)
  case atStart => exact ⟨0, Nat.zero_le _, rfl, rfl⟩
  case round =>
    obtain ⟨j, hj, rfl, rfl⟩ := hrel
    by_cases hlt : j < n
    · obtain ⟨b, o, rfl, hc⟩ := HB.out.at_ (by rw [HN.out]; omega)
      have hv := hc j (by rw [HN.out]; exact hlt)
      have b1 := at8_lo l j
      have b2 := at8_hi l j
      have hx := xor_byte (reg s' (l.take j)) l j
      have HS2 := Lib.hid (reg_step s' l j (by rw [HN.out]; exact hlt))
      generalize reg s' (l.take j) ^^^ b32 (l.getD j 0) = y at *
      clear hc
      go_wp2_with (go_at_call 116; refine (rstep_any _ _).mono ?_; rintro e w' ⟨rfl, rfl⟩)
      exact ⟨⟨j + 1, by omega, by go_num, by rw [HS2.out]⟩, by simp [intOf]; omega⟩
    · obtain rfl : j = n := by omega
      go_wp2
      go_ret
      refine ⟨?_, rfl⟩
      unfold crcMore
      rw [← xor_ones, HS.out, List.take_of_length_le (by rw [HN.out]; omega)]
      rfl

theorem rsum_any (A : Option Addr) (l : List UInt8) (c : Nat) (hl : l.length ≤ 9223372036854775807) (w : World) (hb : By w A l) :
    Calls Try.prog 101 #[.slice A l.length c] w fun e w' => e = .returned (.int .u32 ((crc l).toNat : Int)) ∧ w = w' := by
  have HK := Lib.hid (rmore_any 0#32 A l c hl w hb)
  rw [crc_more]
  generalize l.length = n at *
  clear hb
  go_enter Try.func101, Try.ntmps101
  go_wp2_with fail
  refine HK.out.mono ?_
  rintro e w2 ⟨rfl, rfl⟩
  go_wp2
  go_ret
  exact ⟨rfl, rfl⟩

end Go.Proofs.Ytgbfeagoadlhmaa
