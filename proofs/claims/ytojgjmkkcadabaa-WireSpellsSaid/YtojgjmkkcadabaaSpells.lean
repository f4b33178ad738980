/-
  The walk of WireSpells.
-/
import Derived.Test.YtojgjmkkcadabaaHexU
set_option linter.unusedVariables false
set_option linter.unusedSimpArgs false
namespace Go.Proofs.Ytojgjmkkcadabaa
open Go.RowKit Pl

set_option maxHeartbeats 1000000 in
theorem spells_long (A : Option Addr) (n c : Nat) (S : ByteArray) (h : 9000 < n ∨ n ≤ 9000 ∧ 9000 < S.size) (hn : n ≤ 9223372036854775807) (hm : S.size ≤ 9223372036854775807) (w : World) :
    Calls Try.prog 10 #[.slice A n c, .string S] w fun e w' => e = .returned (.bool true) ∧ Ext w w' := by
  rcases h with h | ⟨h1, h⟩
  all_goals
    go_enter Try.func10, Try.ntmps10
    go_wp2_with (go_at_call 18; refine (known_any _).mono ?_; rintro e w5 ⟨rfl, hE5⟩)
    go_ret
    exact ⟨rfl, hE5⟩

set_option maxHeartbeats 4000000 in
set_option maxRecDepth 100000 in
theorem spells_in (A : Option Addr) (l : List UInt8) (c : Nat) (t : List UInt8) (hn : l.length ≤ 9000) (hm : t.length ≤ 9000) (w : World) (hb : By w A l) :
    Calls Try.prog 10 #[.slice A l.length c, .string ⟨t.toArray⟩] w fun e w' => e = .returned (.bool true) ∧ Ext w w' := by
  have K1 := Lib.hid (hex_any A l c hn w hb)
  have K2 := Lib.hid (fun W (hE : Ext w W) => rhex_any A l c hn W (hb.ext hE))
  have SA := Lib.hid (fun W (hE : Ext w W) => str_any (hb.ext hE) c)
  have hxl := hex_length l
  have hsz : (ByteArray.mk t.toArray).size = t.length := by simp [ByteArray.size]
  have hsz2 : (ByteArray.mk (hex l).toArray).size = (hex l).length := by simp [ByteArray.size]
  have HUH := Lib.hid (unhex_hex l)
  have K3 := Lib.hid (fun W => unhex_any (hex l) (by omega) W)
  rw [hxl] at hsz2
  generalize hnl : l.length = n at *
  have HNL := Lib.hid hnl
  clear hnl hb hxl
  generalize hex l = h at *
  have hd1 : decide ((9000 : Int) < (n : Int)) = false := by simp; omega
  have hd2 : decide ((9000 : Int) < (t.length : Int)) = false := by simp; omega
  go_enter Try.func10, Try.ntmps10
  go_wp2_with fail
  refine K1.out.mono ?_
  rintro e w1 ⟨rfl, hE1⟩
  go_wp2_with fail
  refine (K3.out w1).mono ?_
  rintro e w2 ⟨hy, hno, hE2⟩
  obtain ⟨v2, rfl, hO2⟩ := hy l HUH.out
  obtain ⟨A2, c2, rfl, hb2, hc2, hc2'⟩ := hO2.form
  have SB := Lib.hid (fun W (hE : Ext w2 W) => str_any (hb2.ext hE) c2)
  rw [HNL.out] at SB hc2 ⊢
  clear hy hno hO2 hb2 K1 K3
  have hE02 := hE1.trans hE2
  go_wp2_with fail
  refine (K2.out w2 hE02).mono ?_
  rintro e w3 ⟨rfl, hE3⟩
  have hE03 := hE02.trans hE3
  have s1 := SB.out w3 hE3
  have s2 := SA.out w3 hE03
  have HE03 := Lib.hid hE03
  clear SA SB K2 hE02 hE03 hE1 hE2 hE3
  have ne1 : (2 * (n : Int) != 2 * (n : Int)) = false := by simp
  go_wp2_with (go_at_call 17; refine (num_any _ _).mono ?_; rintro e w' ⟨rfl, rfl⟩)
  clear s1 s2
  refine (unhex_any t (by omega) _).mono ?_
  rintro e w4 ⟨hy4, hn4, hE4⟩
  cases hu : unhex t with
  | none =>
    obtain rfl := hn4 hu
    have HU := Lib.hid hu
    clear hy4 hn4 hu
    go_wp2_with fail
    refine (runhex_any t (by omega) _).mono ?_
    rintro e w5 ⟨hy5, hn5, hE5⟩
    obtain rfl := hn5 HU.out
    clear hy5 hn5
    go_wp2_with (first | (go_at_call 17; refine (num_any _ _).mono ?_; rintro e w' ⟨rfl, rfl⟩) | (go_at_call 18; refine (known_any _).mono ?_; rintro e w6 ⟨rfl, hE6⟩))
    go_ret
    exact ⟨rfl, ((HE03.out.trans hE4).trans hE5).trans hE6⟩
  | some l2 =>
    obtain ⟨v4, rfl, hO4⟩ := hy4 l2 hu
    obtain ⟨A4, c4, rfl, hb4, hc4, hc4'⟩ := hO4.form
    have HU := Lib.hid hu
    have HHX := Lib.hid (hex_unhex t l2 hu)
    have hl2 : l2.length ≤ 9000 := by
      have := hex_length l2
      rw [HHX.out] at this
      omega
    clear hy4 hn4 hu hO4
    have S4 := Lib.hid (fun W (hE : Ext w4 W) => str_any (hb4.ext hE) c4)
    have KX := Lib.hid (fun W (hE : Ext w4 W) => hex_any A4 l2 c4 hl2 W (hb4.ext hE))
    rw [HHX.out] at KX
    go_wp2_with fail
    refine (runhex_any t (by omega) _).mono ?_
    rintro e w5 ⟨hy5, hn5, hE5⟩
    obtain ⟨g5, rfl, hB5⟩ := hy5 l2 HU.out
    have s4 := S4.out w5 hE5
    have s5 := str_any (By.of_blk hB5) l2.length
    clear hy5 hn5 hB5 hb4 hc4 hc4'
    generalize l2.length = m2 at *
    go_wp2_with (go_at_call 17; refine (num_any _ _).mono ?_; rintro e w' ⟨rfl, rfl⟩)
    refine (KX.out w5 hE5).mono ?_
    rintro e w6 ⟨rfl, hE6⟩
    go_wp2_with fail
    refine (known_any _).mono ?_
    rintro e w7 ⟨rfl, hE7⟩
    go_wp2
    go_ret
    exact ⟨rfl, (((HE03.out.trans hE4).trans hE5).trans hE6).trans hE7⟩

theorem spells_any {w : World} (A : Option Addr) (l : List UInt8) (c : Nat) (S : ByteArray) (hS : S.size ≤ 9223372036854775807) (hb : By w A l) (hc : l.length ≤ c) (hc' : c ≤ 9223372036854775807) :
    Calls Try.prog 10 #[.slice A l.length c, .string S] w fun e w' => e = .returned (.bool true) ∧ Ext w w' := by
  by_cases h1 : 9000 < l.length
  · exact spells_long A _ c S (.inl h1) (by omega) hS w
  by_cases h2 : 9000 < S.size
  · exact spells_long A _ c S (.inr ⟨by omega, h2⟩) (by omega) hS w
  · have e1 : S.data.toList.length = S.size := Array.length_toList
    have h := spells_in A l c S.data.toList (by omega) (by omega) w hb
    rw [Array.toArray_toList] at h
    exact h

end Go.Proofs.Ytojgjmkkcadabaa
