
/-
  Contracts of record.Size, cut, Of where there is no record, law06.num.
-/
import Derived.Test.YtgbfeagoadlhmaaRecH
set_option linter.unusedVariables false
set_option linter.unusedSimpArgs false
namespace Go.Proofs.Ytgbfeagoadlhmaa
open Go.RowKit Pl

attribute [local go_sem] Oper.semAt_some

theorem num6_any (n : Int) (w : World) : Calls Try.prog 35 #[.int .i64 n] w fun e w' => e = .returned (.int .i64 n) ∧ w = w' := by
  go_enter Try.func35, Try.ntmps35
  go_wp2
  go_ret
  exact ⟨rfl, rfl⟩

set_option maxHeartbeats 1600000 in
set_option maxRecDepth 100000 in
theorem Size_yes (w : World) (r : Rec) (A S : Option Addr) (ca cs : Nat) (hA : By w A r.b) (hS : Nums w S r.subs) (ho : RecOk r) (hca : r.b.length ≤ ca) (hm : mayB r = true) :
    Calls Try.prog 37 #[.agg (recC r A ca S cs)] w fun e w' => e = .returned (.int .i64 ((17 + (bodyR r).length : Nat) : Int)) ∧ Ext w w' := by
  have HP0 := Lib.hid (Blk.new w 65 (recC r A ca S cs))
  have HE0 := Lib.hid (ext_fresh w (.cells (recC r A ca S cs) 65))
  have hl0 := load_rec HP0.out
  have K := Bytes_yes _ r A S ca cs 0 (hA.ext HE0.out) (hS.ext HE0.out) ho hca hm (by omega)
  rw [show ((0 : Nat) : Int) = 0 from rfl] at K
  have K := Lib.hid K
  have HL := Lib.hid (bytesR_length r 0)
  clear hA hS ho hca hm
  generalize recC r A ca S cs = C at *
  generalize bytesR r 0 = D at *
  generalize 17 + (bodyR r).length = n at *
  go_enter Try.func37, Try.ntmps37
  go_wp2_with (refine wpList_load_gR rfl 65 _ rfl _ rfl _ hl0 ?_)
  refine K.out.mono ?_
  rintro e w1 ⟨v, rfl, hO, hE1⟩
  obtain ⟨A1, c1, rfl, _, _, _⟩ := hO.form
  rw [HL.out]
  clear hO
  go_wp2_with fail
  go_ret
  exact ⟨rfl, HE0.out.trans hE1⟩

/-- can bytes begin with a record's, at a place? -/
def cutB (D : List UInt8) (pl : Nat) : Bool :=
  if D.length < 17 then false else if num (D.take 4) < 17 ∨ 2075 < num (D.take 4) ∨ D.length < num (D.take 4) then false
  else decide (num ((D.drop 4).take 8) = pl) && decide (num ((D.drop 12).take 4) = (crc ((D.take (num (D.take 4))).take 12 ++ (D.take (num (D.take 4))).drop 16)).toNat)
theorem By.mid {w : World} {g o : Nat} {D : List UInt8} (h : By w (some ⟨g, o, none⟩) D) (a k : Nat) : By w (some ⟨g, o + a, none⟩) ((D.drop a).take k) := by
  rcases h with rfl | ⟨b, o', e, hc⟩
  · exact .inl (by simp)
  · injection e with e; injection e with e1 e2
    subst e1 e2
    refine .inr ⟨_, _, rfl, fun i hi => ?_⟩
    rw [List.length_take, List.length_drop] at hi
    rw [Nat.add_assoc, hc (a + i) (by omega)]
    have h1 : i < k := by omega
    simp [at8, List.getD_eq_getElem?_getD, h1]

set_option maxHeartbeats 3200000 in
set_option maxRecDepth 100000 in
theorem cut_any (w : World) (g n c : Nat) (D : List UInt8) (pl : Nat) (hD : D.length = n) (hn : n ≤ 1000000) (hc : n ≤ c) (hc2 : c ≤ 9223372036854775807) (hb : By w (some ⟨g, 0, none⟩) D) (hpl : pl < 18446744073709551616) :
    Calls Try.prog 73 #[.slice (some ⟨g, 0, none⟩) n c, .int .u64 (pl : Int)] w fun e w' => ∃ X m c', e = .returned (.tuple #[.slice X m c', .bool (cutB D pl)]) ∧ (cutB D pl = true → X = some ⟨g, 0, none⟩ ∧ m = num (D.take 4) ∧ c' = c) ∧ Ext w w' := by
  have HCB : Hid (cutB D pl = if D.length < 17 then false else if num (D.take 4) < 17 ∨ 2075 < num (D.take 4) ∨ D.length < num (D.take 4) then false
    else decide (num ((D.drop 4).take 8) = pl) && decide (num ((D.drop 12).take 4) = (crc ((D.take (num (D.take 4))).take 12 ++ (D.take (num (D.take 4))).drop 16)).toNat)) := Lib.hid rfl
  have HN := Lib.hid hD
  have HY := Lib.hid hb
  clear hb hD
  by_cases h17 : n < 17
  · have d1 : decide ((n : Int) < 17) = true := decide_eq_true (by omega)
    have HR : Hid (cutB D pl = false) := Lib.hid (by rw [HCB.out, HN.out, if_pos h17])
    clear HCB h17
    rw [HR.out]
    go_enter Try.func73, Try.ntmps73
    go_wp2_with fail
    go_ret2
    exact ⟨_, _, _, rfl, (fun h => by cases h), Ext.refl _⟩
  · have d1 : decide ((n : Int) < 17) = false := decide_eq_false (by omega)
    have h17n : 17 ≤ n := by omega
    have h17c : 17 ≤ c := by omega
    have K4 := get_short (some ⟨g, 0, none⟩) (D.take 4) c (by rw [List.length_take]; omega) w (HY.out.take 4)
    rw [show (D.take 4).length = 4 by rw [List.length_take, HN.out]; omega] at K4
    have K4 := Lib.hid K4
    have hzl := num_lt (D.take 4)
    rw [show (D.take 4).length = 4 by rw [List.length_take, HN.out]; omega] at hzl
    obtain ⟨sz, hsz⟩ : ∃ sz, num (D.take 4) = sz := ⟨_, rfl⟩
    rw [hsz] at K4 hzl HCB ⊢
    have hmn : (n : Int) % 18446744073709551616 = (n : Int) := by omega
    clear hsz
    by_cases hz1 : sz < 17
    · have d2 : decide ((sz : Int) < 17) = true := decide_eq_true (by omega)
      have HR : Hid (cutB D pl = false) := Lib.hid (by rw [HCB.out, HN.out, if_neg h17, if_pos (.inl hz1)])
      rw [HR.out]
      clear HCB h17 hz1
      go_enter Try.func73, Try.ntmps73
      go_wp2_with fail
      refine K4.out.mono ?_
      rintro e w1 ⟨x, rfl, rfl⟩
      go_wp2_with fail
      go_ret2
      exact ⟨_, _, _, rfl, (fun h => by cases h), Ext.refl _⟩
    · have d2 : decide ((sz : Int) < 17) = false := decide_eq_false (by omega)
      by_cases hz2 : 2075 < sz
      · have d3 : decide ((2075 : Int) < (sz : Int)) = true := decide_eq_true (by omega)
        have HR : Hid (cutB D pl = false) := Lib.hid (by rw [HCB.out, HN.out, if_neg h17, if_pos (.inr (.inl hz2))])
        rw [HR.out]
        clear HCB h17 hz1 hz2
        go_enter Try.func73, Try.ntmps73
        go_wp2_with fail
        refine K4.out.mono ?_
        rintro e w1 ⟨x, rfl, rfl⟩
        go_wp2_with fail
        go_ret2
        exact ⟨_, _, _, rfl, (fun h => by cases h), Ext.refl _⟩
      · have d3 : decide ((2075 : Int) < (sz : Int)) = false := decide_eq_false (by omega)
        by_cases hz3 : n < sz
        · have d4 : decide (n < sz) = true := decide_eq_true (by omega)
          have HR : Hid (cutB D pl = false) := Lib.hid (by rw [HCB.out, HN.out, if_neg h17, if_pos (.inr (.inr hz3))])
          rw [HR.out]
          clear HCB h17 hz1 hz2 hz3
          go_enter Try.func73, Try.ntmps73
          go_wp2_with fail
          refine K4.out.mono ?_
          rintro e w1 ⟨x, rfl, rfl⟩
          go_wp2_with fail
          go_ret2
          exact ⟨_, _, _, rfl, (fun h => by cases h), Ext.refl _⟩
        · have d4 : decide (n < sz) = false := decide_eq_false (by omega)
          have HCB2 : Hid (cutB D pl = (decide (num ((D.drop 4).take 8) = pl) && decide (num ((D.drop 12).take 4) = (crc ((D.take sz).take 12 ++ (D.take sz).drop 16)).toNat))) := Lib.hid (by rw [HCB.out, HN.out, if_neg h17, if_neg (by omega)])
          clear HCB
          have l8 : ((D.drop 4).take 8).length = 8 := by rw [List.length_take, List.length_drop, HN.out]; omega
          have l4 : ((D.drop 12).take 4).length = 4 := by rw [List.length_take, List.length_drop, HN.out]; omega
          have K8 := get_short (some ⟨g, 0 + 4, none⟩) ((D.drop 4).take 8) (c - 4) (by rw [l8]; omega) w (HY.out.mid 4 8)
          have K12 := get_short (some ⟨g, 0 + 12, none⟩) ((D.drop 12).take 4) (c - 12) (by rw [l4]; omega) w (HY.out.mid 12 4)
          rw [l8] at K8
          rw [l4] at K12
          rw [Nat.zero_add] at K8 K12
          have hs4 := num_lt ((D.drop 12).take 4)
          rw [l4] at hs4
          have KS := Lib.hid (sumOf_any w g sz c (D.take sz) (by rw [List.length_take, HN.out]; omega) (by omega) (by omega) hc2 (HY.out.take sz))
          have K8 := Lib.hid K8
          have K12 := Lib.hid K12
          have hcr := (crc ((D.take sz).take 12 ++ (D.take sz).drop 16)).isLt
          clear l8 l4
          generalize num ((D.drop 4).take 8) = pl2 at *
          generalize num ((D.drop 12).take 4) = sm at *
          generalize (crc ((D.take sz).take 12 ++ (D.take sz).drop 16)).toNat = cn at *
          have hsm : (sm : Int) % 4294967296 = (sm : Int) := by omega
          have hzn : sz ≤ n := by omega
          have hz17 : 17 ≤ sz := by omega
          clear h17 hz1 hz2 hz3
          by_cases hp : pl2 = pl
          · have e1 : ((pl2 : Int) == (pl : Int)) = true := by rw [beq_iff_eq]; omega
            have e2 : ((sm : Int) == (cn : Int)) = decide (sm = cn) := by
              by_cases h : sm = cn
              · subst h; simp
              · rw [decide_eq_false h, beq_eq_false_iff_ne]; omega
            have HR : Hid (cutB D pl = decide (sm = cn)) := Lib.hid (by rw [HCB2.out, decide_eq_true hp, Bool.true_and])
            rw [HR.out]
            clear HCB2 hp
            generalize decide (sm = cn) = rb at *
            go_enter Try.func73, Try.ntmps73
            go_wp2_with fail
            refine K4.out.mono ?_
            rintro e w1 ⟨x, rfl, rfl⟩
            go_wp2_with fail
            refine K8.out.mono ?_
            rintro e w1 ⟨x8, rfl, rfl⟩
            go_wp2_with fail
            refine K12.out.mono ?_
            rintro e w1 ⟨x12, rfl, rfl⟩
            go_wp2_with fail
            refine KS.out.mono ?_
            rintro e w1 ⟨rfl, hE1⟩
            go_wp2_with fail
            go_ret2
            exact ⟨_, _, _, rfl, fun _ => ⟨rfl, rfl, rfl⟩, hE1⟩
          · have e1 : ((pl2 : Int) == (pl : Int)) = false := by rw [beq_eq_false_iff_ne]; omega
            have HR : Hid (cutB D pl = false) := Lib.hid (by rw [HCB2.out, decide_eq_false hp, Bool.false_and])
            rw [HR.out]
            clear HCB2 hp KS
            go_enter Try.func73, Try.ntmps73
            go_wp2_with fail
            refine K4.out.mono ?_
            rintro e w1 ⟨x, rfl, rfl⟩
            go_wp2_with fail
            refine K8.out.mono ?_
            rintro e w1 ⟨x8, rfl, rfl⟩
            go_wp2_with fail
            refine K12.out.mono ?_
            rintro e w1 ⟨x12, rfl, rfl⟩
            go_wp2_with fail
            go_ret2
            exact ⟨_, _, _, rfl, (fun h => by cases h), Ext.refl _⟩

end Go.Proofs.Ytgbfeagoadlhmaa
