/-
  The walk of CrcHoles.
-/
import Derived.Test.YtojgjmkkcadabaaKnownB
set_option linter.unusedVariables false
set_option linter.unusedSimpArgs false
namespace Go.Proofs.Ytojgjmkkcadabaa
open Go.RowKit Pl

theorem crc_hole (a b : List UInt8) (n : Nat) : crc [a, List.replicate n 0, b].flatten = crcJoin (crcZeros (crc a) n) (crc b) b.length := by
  rw [show [a, List.replicate n 0, b].flatten = (a ++ List.replicate n 0) ++ b by simp, crc_app, crc_more (a ++ _), crcMore_app, crcZeros_more, crc_more a]
theorem cells8_noughts (n : Nat) : madeCells #[.int .u8 0] n = cells8 (List.replicate n 0) := by
  apply Array.toList_inj.1
  rw [toList_madeCells_one]
  simp [cells8, u8]

set_option maxHeartbeats 2000000 in
set_option maxRecDepth 100000 in
theorem holes_out (A B : Option Addr) (p q c d : Nat) (n m : Int) (h : 9000 < p ∨ p ≤ 9000 ∧ (9000 < q ∨ q ≤ 9000 ∧ (n < 0 ∨ 0 ≤ n ∧ (m < 0 ∨ 0 ≤ m ∧ (1099511627776 < n ∨ n ≤ 1099511627776 ∧ 1099511627776 < m))))) (hp : p ≤ 9223372036854775807) (hq : q ≤ 9223372036854775807) (w : World) :
    Calls Try.prog 13 #[.slice A p c, .slice B q d, .int .i64 n, .int .i64 m] w fun e w' => e = .returned (.bool true) ∧ Ext w w' := by
  rcases h with h | ⟨h1, h | ⟨h2, h | ⟨h3, h | ⟨h4, h | ⟨h5, h⟩⟩⟩⟩⟩
  all_goals
    go_enter Try.func13, Try.ntmps13
    go_wp2_with (go_at_call 40; refine (known2_any _).mono ?_; rintro e w5 ⟨rfl, hE5⟩)
    go_ret
    exact ⟨rfl, hE5⟩

set_option maxHeartbeats 4000000 in
set_option maxRecDepth 100000 in
theorem holes_in (A B : Option Addr) (a b : List UInt8) (c d : Nat) (n m : Nat) (hp : a.length ≤ 9000) (hq : b.length ≤ 9000) (hn : n ≤ 1099511627776) (hm : m ≤ 1099511627776) (hc : a.length ≤ c) (hd : b.length ≤ d) (hc' : c ≤ 9223372036854775807) (hd' : d ≤ 9223372036854775807) (w : World) (ha : By w A a) (hb : By w B b) :
    Calls Try.prog 13 #[.slice A a.length c, .slice B b.length d, .int .i64 n, .int .i64 m] w fun e w' => e = .returned (.bool true) ∧ Ext w w' := by
  have KA := Lib.hid (csum_one A a c (by omega) hc w ha 23)
  have HH := Lib.hid (crc_hole a b n)
  generalize hna : a.length = p at *
  generalize hnb : b.length = q at *
  have HNA := Lib.hid hna
  have HNB := Lib.hid hnb
  have HA := Lib.hid ha
  have HB := Lib.hid hb
  clear hna hnb ha hb
  have hn0 : decide ((n : Int) < 0) = false := by simp
  have hm0 : decide ((m : Int) < 0) = false := by simp
  by_cases h9 : 9000 < n
  · clear HH
    go_enter Try.func13, Try.ntmps13
    go_wp2_with fail
    refine KA.out.mono ?_
    rintro e w1 ⟨rfl, hE1⟩
    have hx := xor_ones (crc a)
    have HZ := Lib.hid (crcZeros_add (crc a) n m)
    have HD : Hid (~~~ zer (~~~ crc a) n = crcZeros (crc a) n) := Lib.hid rfl
    generalize hy : ~~~ crc a = y at *
    generalize hs : crc a = s at *
    have HS := Lib.hid hs
    clear hy hs KA
    go_wp2_with fail
    refine (czeros_any s n (by omega) _).mono ?_
    rintro e w2 ⟨rfl, hE2⟩
    go_wp2_with fail
    refine (czeros_any (crcZeros s n) m (by omega) _).mono ?_
    rintro e w3 ⟨rfl, hE3⟩
    rw [← HZ.out]
    go_wp2_with fail
    rw [show (n : Int) + (m : Int) = ((n + m : Nat) : Int) by omega]
    refine (czeros_any s (n + m) (by omega) _).mono ?_
    rintro e w4 ⟨rfl, hE4⟩
    go_wp2_with fail
    refine (czeros_any s n (by omega) _).mono ?_
    rintro e w5 ⟨rfl, hE5⟩
    go_wp2_with fail
    refine (far_any y n (by omega) _).mono ?_
    rintro e w6 ⟨rfl, hE6⟩
    have hz := xor_ones (zer y n)
    rw [HD.out] at hz
    generalize zer y n = z at *
    go_wp2_with fail
    refine (czeros_neg s (-(n : Int)) (by omega) _).mono ?_
    rintro e w7 ⟨rfl, rfl⟩
    have hE06 : Ext w w6 := ((((hE1.trans hE2).trans hE3).trans hE4).trans hE5).trans hE6
    have HE6 := Lib.hid hE06
    clear hE06 hE1 hE2 hE3 hE4 hE5 hE6
    go_wp2_with (go_at_call 40; refine (known2_any _).mono ?_; rintro e w8 ⟨rfl, hE8⟩)
    go_ret
    exact ⟨rfl, HE6.out.trans hE8⟩
  · have hmk := make8 n (by omega)
    go_enter Try.func13, Try.ntmps13
    go_wp2_with fail
    refine KA.out.mono ?_
    rintro e w1 ⟨rfl, hE1⟩
    have hx := xor_ones (crc a)
    have HZ := Lib.hid (crcZeros_add (crc a) n m)
    have HD : Hid (~~~ zer (~~~ crc a) n = crcZeros (crc a) n) := Lib.hid rfl
    generalize hy : ~~~ crc a = y at *
    generalize hs : crc a = s at *
    have HS := Lib.hid hs
    clear hy hs KA
    go_wp2_with fail
    refine (czeros_any s n (by omega) _).mono ?_
    rintro e w2 ⟨rfl, hE2⟩
    go_wp2_with fail
    refine (czeros_any (crcZeros s n) m (by omega) _).mono ?_
    rintro e w3 ⟨rfl, hE3⟩
    rw [← HZ.out]
    go_wp2_with fail
    rw [show (n : Int) + (m : Int) = ((n + m : Nat) : Int) by omega]
    refine (czeros_any s (n + m) (by omega) _).mono ?_
    rintro e w4 ⟨rfl, hE4⟩
    go_wp2_with fail
    refine (czeros_any s n (by omega) _).mono ?_
    rintro e w5 ⟨rfl, hE5⟩
    go_wp2_with fail
    refine (far_any y n (by omega) _).mono ?_
    rintro e w6 ⟨rfl, hE6⟩
    have hz := xor_ones (zer y n)
    rw [HD.out] at hz
    generalize zer y n = z at *
    go_wp2_with fail
    refine (czeros_neg s (-(n : Int)) (by omega) _).mono ?_
    rintro e w7 ⟨rfl, rfl⟩
    have hE06 : Ext w w6 := ((((hE1.trans hE2).trans hE3).trans hE4).trans hE5).trans hE6
    have HE6 := Lib.hid hE06
    clear hE06 hE1 hE2 hE3 hE4 hE5 hE6
    go_wp2_with fail
    rw [cells8_noughts]
    have hX : Ext w (w6.alloc (.cells (cells8 (List.replicate n 0)) 5)) := HE6.out.alloc _
    have hN := By.of_blk (Blk.new w6 5 (cells8 (List.replicate n 0)))
    have hB3 := Bys.three (c := c) (d := n) (e := d) (HA.out.ext hX) (by rw [HNA.out]; exact hc) hN (by simp) (HB.out.ext hX) (by rw [HNB.out]; exact hd) 23
    rw [HNA.out, HNB.out, List.length_replicate, World.size_alloc] at hB3
    refine (csum_any _ [a, List.replicate n 0, b] 3 (by simp) (by simp only [List.flatten_cons, List.flatten_nil, List.length_append, List.length_replicate, List.length_nil, HNA.out, HNB.out]; omega) _ hB3).mono ?_
    rintro e w8 ⟨rfl, hE8⟩
    have HN8 := Lib.hid ((hN.ext ((Ext.refl _).alloc _)).ext hE8)
    have hE08 : Ext w w8 := (hX.alloc _).trans hE8
    have HE8 := Lib.hid hE08
    rw [HH.out]
    clear hX hN hB3 hE8 hE08 hmk
    go_wp2_with fail
    refine (czeros_any s n (by omega) _).mono ?_
    rintro e w9 ⟨rfl, hE9⟩
    have KB := Lib.hid (csum_one B b d (by rw [HNB.out]; omega) (by rw [HNB.out]; exact hd) w9 (HB.out.ext (HE8.out.trans hE9)) 23)
    rw [HNB.out] at KB
    go_wp2_with fail
    refine KB.out.mono ?_
    rintro e w10 ⟨rfl, hE10⟩
    go_wp2_with fail
    refine (cjoin_any (crcZeros s n) (crc b) q (by omega) _).mono ?_
    rintro e w11 ⟨rfl, hE11⟩
    go_wp2_with fail
    refine (czeros_any s n (by omega) _).mono ?_
    rintro e w12 ⟨rfl, hE12⟩
    have hE812 : Ext w8 w12 := ((hE9.trans hE10).trans hE11).trans hE12
    have KN := Lib.hid (cmore_any s (some ⟨w6.heap.size, 0, none⟩) (List.replicate n 0) n (by rw [List.length_replicate]; omega) w12 (HN8.out.ext hE812))
    rw [List.length_replicate, ← crcZeros_more] at KN
    have HE12 := Lib.hid (HE8.out.trans hE812)
    clear hE9 hE10 hE11 hE12 hE812 KB
    go_wp2_with fail
    refine KN.out.mono ?_
    rintro e w13 ⟨rfl, hE13⟩
    go_wp2_with fail
    refine (known2_any _).mono ?_
    rintro e w14 ⟨rfl, hE14⟩
    go_wp2
    go_ret
    exact ⟨rfl, (HE12.out.trans hE13).trans hE14⟩

theorem holes_any {w : World} (A B : Option Addr) (a b : List UInt8) (c d : Nat) (n m : Int) (ha : By w A a) (hb : By w B b) (hc : a.length ≤ c) (hd : b.length ≤ d) (hc' : c ≤ 9223372036854775807) (hd' : d ≤ 9223372036854775807) :
    Calls Try.prog 13 #[.slice A a.length c, .slice B b.length d, .int .i64 n, .int .i64 m] w fun e w' => e = .returned (.bool true) ∧ Ext w w' := by
  by_cases h : a.length ≤ 9000 ∧ b.length ≤ 9000 ∧ 0 ≤ n ∧ 0 ≤ m ∧ n ≤ 1099511627776 ∧ m ≤ 1099511627776
  · obtain ⟨h1, h2, h3, h4, h5, h6⟩ := h
    obtain ⟨i, rfl⟩ := Int.eq_ofNat_of_zero_le h3
    obtain ⟨j, rfl⟩ := Int.eq_ofNat_of_zero_le h4
    exact holes_in A B a b c d i j h1 h2 (by omega) (by omega) hc hd hc' hd' w ha hb
  · exact holes_out A B _ _ c d n m (by omega) (by omega) (by omega) w

end Go.Proofs.Ytojgjmkkcadabaa
