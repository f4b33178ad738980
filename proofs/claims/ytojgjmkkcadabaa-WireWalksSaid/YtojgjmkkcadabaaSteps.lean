/-
  The walk of WireSteps.
-/
import Derived.Test.YtojgjmkkcadabaaKnownA
import Derived.Test.YtojgjmkkcadabaaEager
set_option linter.unusedVariables false
set_option linter.unusedSimpArgs false
namespace Go.Proofs.Ytojgjmkkcadabaa
open Go.RowKit Pl

/-- a reader that another's step leaves as it is -/
theorem Rd.other {w w' : World} {r q : Nat} {s t : Option (List UInt8)} (h : Rd w r s) (hq : Rd w q t) (hu : Upd w w' q) (hne : r ≠ q) : Rd w' r s := by
  cases s with
  | none => exact Blk.upd h hu hne
  | some l => obtain ⟨A, c, h1, h2, h3⟩ := h; exact ⟨A, c, h1.upd hu hne, h2.rd hq hu, h3⟩

theorem gets_le (l : List UInt8) (n : Int) : (gets (some l) n).1.length ≤ l.length ∧ leftN (gets (some l) n).2 ≤ l.length := by
  unfold gets
  simp only
  split
  · exact ⟨by rw [List.length_take]; omega, by simp only [leftN, List.length_drop]; omega⟩
  · exact ⟨Nat.zero_le _, Nat.zero_le _⟩
theorem gets_le' (s : Option (List UInt8)) (n : Int) : (gets s n).1.length ≤ leftN s := by
  cases s with
  | none => exact Nat.zero_le _
  | some l => exact (gets_le l n).1

theorem steps_plain (l : List UInt8) (n m : Nat) :
    brokenB (gets (some l) ((n : Int) + m)).2 = decide ((l.length : Int) < (n : Int) + m) ∧ brokenB (gets (gets (some l) n).2 m).2 = decide ((l.length : Int) < (n : Int) + m) ∧
      (¬ (l.length : Int) < (n : Int) + m → (gets (some l) ((n : Int) + m)).1 = (gets (some l) n).1 ++ (gets (gets (some l) n).2 m).1 ∧ leftN (gets (some l) ((n : Int) + m)).2 = leftN (gets (gets (some l) n).2 m).2) := by
  have e : (n : Int) + m = ((n + m : Nat) : Int) := by omega
  by_cases h : n + m ≤ l.length
  · rw [e, gets_in l (n + m) h, gets_in l n (by omega)]
    rw [gets_in (l.drop n) m (by rw [List.length_drop]; omega)]
    refine ⟨(decide_eq_false (by omega)).symm, (decide_eq_false (by omega)).symm, fun _ => ⟨?_, ?_⟩⟩
    · show l.take (n + m) = l.take n ++ (l.drop n).take m
      rw [List.take_add]
    · simp [leftN, Nat.sub_sub]
  · rw [gets_out l ((n : Int) + m) (by omega)]
    refine ⟨(decide_eq_true (by omega)).symm, ?_, fun h' => absurd h' (by omega)⟩
    by_cases hn : n ≤ l.length
    · rw [gets_in l n hn, gets_out (l.drop n) m (by right; rw [List.length_drop]; omega)]
      exact (decide_eq_true (by omega)).symm
    · rw [gets_out l n (by omega), gets_none]
      exact (decide_eq_true (by omega)).symm

theorem nums_good (l : List UInt8) (n : Nat) (h1 : 1 ≤ n) (h8 : n ≤ 8) (hn : n ≤ l.length) : nums (some l) n = (num (l.take n), some (l.drop n)) := by
  unfold nums
  rw [if_neg (by omega), gets_in l n hn]
theorem nums_bad (l : List UInt8) (n : Nat) (h : n < 1 ∨ 8 < n ∨ l.length < n) : nums (some l) n = (0, none) := by
  unfold nums
  by_cases hc : (n : Int) < 1 ∨ 8 < (n : Int)
  · rw [if_pos hc, gets_out l (-1) (by omega)]; rfl
  · rw [if_neg hc, gets_out l n (by omega)]; rfl

set_option maxHeartbeats 4000000 in
set_option maxRecDepth 100000 in
theorem steps_long (A : Option Addr) (k c : Nat) (n m : Int) (hk : k ≤ 9223372036854775807) (h : 9000 < k ∨ n < 0 ∨ m < 0 ∨ 9000 < n ∨ 9000 < m) (w : World) :
    Calls Try.prog 8 #[.slice A k c, .int .i64 n, .int .i64 m] w fun e w' => e = .returned (.bool true) ∧ Ext w w' := by
  by_cases h1 : 9000 < k
  · clear h
    go_enter Try.func8, Try.ntmps8
    go_wp2_with (go_at_call 18; refine (known_any _).mono ?_; rintro e w0 ⟨rfl, hE0⟩)
    go_ret
    exact ⟨rfl, hE0⟩
  by_cases h2 : n < 0
  · clear h
    go_enter Try.func8, Try.ntmps8
    go_wp2_with (go_at_call 18; refine (known_any _).mono ?_; rintro e w0 ⟨rfl, hE0⟩)
    go_ret
    exact ⟨rfl, hE0⟩
  by_cases h3 : m < 0
  · clear h
    go_enter Try.func8, Try.ntmps8
    go_wp2_with (go_at_call 18; refine (known_any _).mono ?_; rintro e w0 ⟨rfl, hE0⟩)
    go_ret
    exact ⟨rfl, hE0⟩
  by_cases h4 : 9000 < n
  · clear h
    go_enter Try.func8, Try.ntmps8
    go_wp2_with (go_at_call 18; refine (known_any _).mono ?_; rintro e w0 ⟨rfl, hE0⟩)
    go_ret
    exact ⟨rfl, hE0⟩
  · have h5 : 9000 < m := by omega
    clear h
    go_enter Try.func8, Try.ntmps8
    go_wp2_with (go_at_call 18; refine (known_any _).mono ?_; rintro e w0 ⟨rfl, hE0⟩)
    go_ret
    exact ⟨rfl, hE0⟩

set_option maxHeartbeats 8000000 in
set_option maxRecDepth 100000 in
theorem steps_in (A : Option Addr) (l : List UInt8) (c n m : Nat) (hl : l.length ≤ 9000) (hn9 : n ≤ 9000) (hm9 : m ≤ 9000) (hc : l.length ≤ c) (hc' : c ≤ 9223372036854775807) (w : World) (hb : By w A l) :
    Calls Try.prog 8 #[.slice A l.length c, .int .i64 n, .int .i64 m] w fun e w' => e = .returned (.bool true) ∧ Ext w w' := by
  have HR := Lib.hid (fun W (hE : Ext w W) => read_any A l c (by omega) hc W (hb.ext hE))
  have HG := Lib.hid (fun (h1 : 1 ≤ n) (h8 : n ≤ 8) (hn : n ≤ l.length) W (hE : Ext w W) => get_yes A (l.take n) c (by rw [List.length_take]; omega) (by rw [List.length_take]; omega) W ((hb.take n).ext hE))
  have HS := Lib.hid (steps_plain l n m)
  have HL0 := Lib.hid (gets_le l ((n : Int) + m))
  have HL1 := Lib.hid (gets_le l n)
  have HNG := Lib.hid (nums_good l n)
  have HNB := Lib.hid (nums_bad l n)
  generalize hk : l.length = k at *
  have HK := Lib.hid hk
  clear hb hk
  go_enter Try.func8, Try.ntmps8
  go_wp2_with fail
  refine (HR.out _ (Ext.refl _)).mono ?_
  rintro e w1 ⟨r1, rfl, hR1, hr1, hE1⟩
  go_wp2_with fail
  refine (HR.out _ hE1).mono ?_
  rintro e w2 ⟨r2, rfl, hR2, hr2, hE2⟩
  go_wp2_with fail
  refine (HR.out _ (hE1.trans hE2)).mono ?_
  rintro e w3 ⟨r3, rfl, hR3, hr3, hE3⟩
  have hlt1 := hR1.lt
  have hlt2 := hR2.lt
  have n12 : r1 ≠ r2 := by omega
  have n13 : r1 ≠ r3 := by have := hE2.size; omega
  have n23 : r2 ≠ r3 := by omega
  have s1 := hE1.size
  have s2 := hE2.size
  have hR1 := hR1.ext (hE2.trans hE3)
  have hR2 := hR2.ext hE3
  have hE : Ext w w3 := (hE1.trans hE2).trans hE3
  clear hE1 hE2 hE3
  have HB1 := Lib.hid (bytes_any w3 r1 (some l) ((n : Int) + m) hR1)
  have HR1 := Lib.hid hR1
  have HR2 := Lib.hid hR2
  have HR3 := Lib.hid hR3
  clear hR1 hR2 hR3
  generalize hp1 : gets (some l) ((n : Int) + m) = p1 at *
  clear hp1
  go_wp2_with fail
  refine HB1.out.mono ?_
  rintro e w4 ⟨A1, c1, rfl, hb1, hc1, hR14, hU4⟩
  have HR2 := Lib.hid (HR2.out.other HR1.out hU4 n12.symm)
  have HR3 := Lib.hid (HR3.out.other HR1.out hU4 n13.symm)
  have hE4 : Ext w w4 := hU4.ext hE (by omega)
  have HB2 := Lib.hid (bytes_any w4 r2 (some l) n HR2.out)
  generalize hp2 : gets (some l) (n : Int) = p2 at *
  have HP2 := Lib.hid hp2
  have HR14 := Lib.hid hR14
  have Hb1 := Lib.hid hb1
  clear hp2 hU4 hR14 hb1 hE
  have hl1 : p1.1.length ≤ 9223372036854775807 := by have := HL0.out; omega
  go_wp2_with fail
  refine HB2.out.mono ?_
  rintro e w5 ⟨A2, c2, rfl, hb2, hc2, hR25, hU5⟩
  have HR1 := Lib.hid (HR14.out.other HR2.out hU5 n12)
  have HR3 := Lib.hid (HR3.out.other HR2.out hU5 n23.symm)
  have Hb1 := Lib.hid (Hb1.out.rd HR2.out hU5)
  have hE5 : Ext w w5 := hU5.ext hE4 (by omega)
  have HB3 := Lib.hid (bytes_any w5 r2 p2.2 m hR25)
  have HL2 := Lib.hid (gets_le' p2.2 m)
  generalize hp3 : gets p2.2 (m : Int) = p3 at *
  have HR25 := Lib.hid hR25
  have Hb2 := Lib.hid hb2
  clear hp3 hU5 hR25 hb2 hE4
  go_wp2_with fail
  refine HB3.out.mono ?_
  rintro e w6 ⟨A3, c3, rfl, hb3, hc3, hR26, hU6⟩
  have HR1 := Lib.hid (HR1.out.other HR25.out hU6 n12)
  have HR3 := Lib.hid (HR3.out.other HR25.out hU6 n23.symm)
  have Hb1 := Lib.hid (Hb1.out.rd HR25.out hU6)
  have Hb2 := Hb2.out.rd HR25.out hU6
  have hE6 : Ext w w6 := hU6.ext hE5 (by omega)
  have HJ := Lib.hid (Bys.two (c := c2) (d := c3) Hb2 hc2 hb3 hc3 23)
  have HR26 := Lib.hid hR26
  have hsz := hE6.size
  have hf : [p2.1, p3.1].flatten = p2.1 ++ p3.1 := by simp
  have hfl : (p2.1 ++ p3.1).length ≤ 18000 := by
    have h1 := HL1.out; have h2 := HL2.out
    rw [List.length_append]; omega
  clear hU6 hR26 hb3 hE5 Hb2
  go_wp2_with fail
  refine (join_any _ [p2.1, p3.1] 2 (by simp) (by rw [hf]; omega) _ HJ.out).mono ?_
  rintro e w7 ⟨v, rfl, hO, hE7⟩
  rw [hf] at hO
  obtain ⟨Av, cv, rfl, hbv, hcv, hcv'⟩ := hO.form
  have hX : Ext w6 w7 := ((Ext.refl w6).alloc _).trans hE7
  have HR1 := Lib.hid (HR1.out.ext hX)
  have HR2 := Lib.hid (HR26.out.ext hX)
  have HR3 := Lib.hid (HR3.out.ext hX)
  have hs1 := str_any (Hb1.out.ext hX) c1
  have hs2 := str_any hbv cv
  have hE7 := hE6.trans hX
  have F1 := failed_any w7 r1 p1.2 HR1.out
  have F2 := failed_any w7 r2 p3.2 HR2.out
  have L1 := left_any w7 r1 p1.2 HR1.out
  have L2 := left_any w7 r2 p3.2 HR2.out
  have N3 := Lib.hid (number_any w7 r3 (some l) n HR3.out)
  obtain ⟨S1, S2, S3⟩ := HS.out
  clear hO hbv hX hE6 HJ HR26 HB1 HB2 HB3 HR1 HR2 HR14 HR25
  have hn3 : Hid (Rd w7 r3 (some l)) := HR3.out
  have hin := Lib.hid (show (n < 1 ∨ 8 < n ∨ k < n) ∨ (1 ≤ n ∧ n ≤ 8 ∧ n ≤ k) by omega)
  by_cases hB : (k : Int) < (n : Int) + m
  · have b1 : brokenB p1.2 = true := by rw [S1]; exact decide_eq_true hB
    have b2 : brokenB p3.2 = true := by rw [S2]; exact decide_eq_true hB
    rw [b1] at F1
    rw [b2] at F2
    have g1 : decide ((k : Int) < (n : Int) + m) = true := decide_eq_true hB
    have F1 := Lib.hid F1
    have F2 := Lib.hid F2
    clear S1 S2 S3 b1 b2 hs1 hs2 L1 L2
    go_wp2_with (first | (go_at_call 28; first | (with_reducible refine F1.out.mono ?_; rintro e w' ⟨rfl, rfl⟩) | (with_reducible refine F2.out.mono ?_; rintro e w' ⟨rfl, rfl⟩)))
    refine N3.out.mono ?_
    rintro e w8 ⟨rfl, hR8, hU8⟩
    have hE8 : Ext w w8 := hU8.ext hE7 (by have := hE7.size; omega)
    clear N3 F1 F2 hU8
    rcases hin.out with hbad | ⟨h1, h8, hnk⟩
    · rw [HNB.out hbad] at hR8 ⊢
      have F3 := Lib.hid (failed_any w8 r3 none hR8)
      dsimp only
      clear hR8 HNB HNG HG
      by_cases x1 : n < 1
      · clear hbad
        go_wp2_with (first | (go_at_call 28; refine F3.out.mono ?_; rintro e w' ⟨rfl, rfl⟩; simp only [brokenB]) | (go_at_call 18; refine (known_any _).mono ?_; rintro e w9 ⟨rfl, hE9⟩))
        go_ret
        exact ⟨rfl, hE8.trans hE9⟩
      by_cases x2 : 8 < n
      · clear hbad
        go_wp2_with (first | (go_at_call 28; refine F3.out.mono ?_; rintro e w' ⟨rfl, rfl⟩; simp only [brokenB]) | (go_at_call 18; refine (known_any _).mono ?_; rintro e w9 ⟨rfl, hE9⟩))
        go_ret
        exact ⟨rfl, hE8.trans hE9⟩
      · have x3 : k < n := by omega
        clear hbad
        go_wp2_with (first | (go_at_call 28; refine F3.out.mono ?_; rintro e w' ⟨rfl, rfl⟩; simp only [brokenB]) | (go_at_call 18; refine (known_any _).mono ?_; rintro e w9 ⟨rfl, hE9⟩))
        go_ret
        exact ⟨rfl, hE8.trans hE9⟩
    · rw [HNG.out h1 h8 hnk] at hR8 ⊢
      have L3 := left_any w8 r3 _ hR8
      have hlf : leftN (some (l.drop n)) = k - n := by simp only [leftN, List.length_drop, HK.out]
      have htk : (l.take n).length = n := by rw [List.length_take, HK.out]; omega
      have hg := HG.out h1 h8 hnk w8 hE8
      dsimp only at *
      rw [hlf] at L3
      rw [htk] at hg
      have L3 := Lib.hid L3
      have HGG := Lib.hid hg
      have x1 : ((k : Int) - n) = ((k - n : Nat) : Int) := by omega
      generalize num (l.take n) = z at *
      clear hR8 HNB HNG HG hlf htk hg
      go_wp2_with (first | (go_at_call 19; refine HGG.out.mono ?_; rintro e w' ⟨rfl, rfl⟩) | (go_at_call 17; refine (num_any _ _).mono ?_; rintro e w' ⟨rfl, rfl⟩) | (go_at_call 29; refine L3.out.mono ?_; rintro e w' ⟨rfl, rfl⟩; rw [← x1]) | (go_at_call 18; refine (known_any _).mono ?_; rintro e w9 ⟨rfl, hE9⟩))
      go_ret
      exact ⟨rfl, hE8.trans hE9⟩
  · obtain ⟨e1, e2⟩ := S3 (Int.not_lt.1 hB)
    have b1 : brokenB p1.2 = false := by rw [S1]; exact decide_eq_false hB
    have b2 : brokenB p3.2 = false := by rw [S2]; exact decide_eq_false hB
    rw [b1] at F1
    rw [b2] at F2
    rw [e2] at L1
    rw [e1] at hs1 ⊢
    have g1 : decide ((k : Int) < (n : Int) + m) = false := decide_eq_false hB
    have F1 := Lib.hid F1
    have F2 := Lib.hid F2
    have L1 := Lib.hid L1
    have L2 := Lib.hid L2
    clear S1 S2 S3 b1 b2 e1 e2
    generalize leftN p3.2 = lf at *
    generalize p2.1 ++ p3.1 = q at *
    go_wp2_with (first | (go_at_call 28; first | (with_reducible refine F1.out.mono ?_; rintro e w' ⟨rfl, rfl⟩) | (with_reducible refine F2.out.mono ?_; rintro e w' ⟨rfl, rfl⟩)) | (go_at_call 29; first | (with_reducible refine L1.out.mono ?_; rintro e w' ⟨rfl, rfl⟩) | (with_reducible refine L2.out.mono ?_; rintro e w' ⟨rfl, rfl⟩)))
    refine N3.out.mono ?_
    rintro e w8 ⟨rfl, hR8, hU8⟩
    have hE8 : Ext w w8 := hU8.ext hE7 (by have := hE7.size; omega)
    clear N3 F1 F2 hU8
    rcases hin.out with hbad | ⟨h1, h8, hnk⟩
    · rw [HNB.out hbad] at hR8 ⊢
      have F3 := Lib.hid (failed_any w8 r3 none hR8)
      dsimp only
      clear hR8 HNB HNG HG
      by_cases x1 : n < 1
      · clear hbad
        go_wp2_with (first | (go_at_call 28; refine F3.out.mono ?_; rintro e w' ⟨rfl, rfl⟩; simp only [brokenB]) | (go_at_call 18; refine (known_any _).mono ?_; rintro e w9 ⟨rfl, hE9⟩))
        go_ret
        exact ⟨rfl, hE8.trans hE9⟩
      by_cases x2 : 8 < n
      · clear hbad
        go_wp2_with (first | (go_at_call 28; refine F3.out.mono ?_; rintro e w' ⟨rfl, rfl⟩; simp only [brokenB]) | (go_at_call 18; refine (known_any _).mono ?_; rintro e w9 ⟨rfl, hE9⟩))
        go_ret
        exact ⟨rfl, hE8.trans hE9⟩
      · exfalso; omega
    · rw [HNG.out h1 h8 hnk] at hR8 ⊢
      have L3 := left_any w8 r3 _ hR8
      have hlf : leftN (some (l.drop n)) = k - n := by simp only [leftN, List.length_drop, HK.out]
      have htk : (l.take n).length = n := by rw [List.length_take, HK.out]; omega
      have hg := HG.out h1 h8 hnk w8 hE8
      dsimp only at *
      rw [hlf] at L3
      rw [htk] at hg
      have L3 := Lib.hid L3
      have HGG := Lib.hid hg
      have x1 : ((k : Int) - n) = ((k - n : Nat) : Int) := by omega
      generalize num (l.take n) = z at *
      clear hR8 HNB HNG HG hlf htk hg
      go_wp2_with (first | (go_at_call 19; refine HGG.out.mono ?_; rintro e w' ⟨rfl, rfl⟩) | (go_at_call 17; refine (num_any _ _).mono ?_; rintro e w' ⟨rfl, rfl⟩) | (go_at_call 29; refine L3.out.mono ?_; rintro e w' ⟨rfl, rfl⟩; rw [← x1]) | (go_at_call 18; refine (known_any _).mono ?_; rintro e w9 ⟨rfl, hE9⟩))
      go_ret
      exact ⟨rfl, hE8.trans hE9⟩

theorem steps_any (A : Option Addr) (l : List UInt8) (c : Nat) (n m : Int) (hc : l.length ≤ c) (hc' : c ≤ 9223372036854775807) (w : World) (hb : By w A l) :
    Calls Try.prog 8 #[.slice A l.length c, .int .i64 n, .int .i64 m] w fun e w' => e = .returned (.bool true) ∧ Ext w w' := by
  by_cases h : 9000 < l.length ∨ n < 0 ∨ m < 0 ∨ 9000 < n ∨ 9000 < m
  · exact steps_long A _ c n m (by omega) h w
  · obtain ⟨n', rfl⟩ := Int.eq_ofNat_of_zero_le (a := n) (by omega)
    obtain ⟨m', rfl⟩ := Int.eq_ofNat_of_zero_le (a := m) (by omega)
    exact steps_in A l c n' m' (by omega) (by omega) (by omega) hc hc' w hb

end Go.Proofs.Ytojgjmkkcadabaa
