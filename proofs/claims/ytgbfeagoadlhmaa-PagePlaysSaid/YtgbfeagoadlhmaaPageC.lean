
/-
  Contract of page.right.
-/
import Derived.Test.YtgbfeagoadlhmaaPageB
import Derived.WalkMore
import Derived.Deep.WholeRow
set_option linter.unusedVariables false
set_option linter.unusedSimpArgs false
namespace Go.Proofs.Ytgbfeagoadlhmaa
open Go.RowKit Pl

/-- is a byte taken by one of the first n slots? -/
def takenB (P : List UInt8) (n i : Nat) : Bool := (List.range n).any fun k => decide (slotA P k ≤ i) && decide (i < slotA P k + slotS P k)
def emptyB (P : List UInt8) (n : Nat) : Bool := decide (slotA P n = 0) && decide (slotS P n = 0)
/-- does a slot that is not empty point into the page, behind the head? -/
def fitsB (P : List UInt8) (n : Nat) : Bool := decide (1 ≤ slotS P n) && decide (slotS P n ≤ 1000) && decide (num2 P 16 ≤ slotA P n) && decide (slotA P n + slotS P n ≤ 1024)
def freeB (P : List UInt8) (n : Nat) : Bool := (List.range (slotS P n)).all fun i => !takenB P n (slotA P n + i)
def slotOk (P : List UInt8) (n : Nat) : Bool := emptyB P n || (fitsB P n && freeB P n)
/-- is the page right? -/
def rightB (P : List UInt8) : Bool := decide (18 + 4 * num2 P 14 ≤ num2 P 16) && decide (num2 P 16 ≤ 1024) && (List.range (num2 P 14)).all (slotOk P) && (decide (num2 P 14 = 0) || !emptyB P (num2 P 14 - 1))

theorem takenB_step (P : List UInt8) (n i : Nat) : takenB P (n + 1) i = (takenB P n i || (decide (slotA P n ≤ i) && decide (i < slotA P n + slotS P n))) := by
  simp [takenB, List.range_succ, List.any_append]
theorem takenB_zero (P : List UInt8) (i : Nat) : takenB P 0 i = false := by simp [takenB]

/-- 1024 Bools as cells -/
def boolA (f : Nat → Bool) : Array Value := ((List.range 1024).map fun i => Value.bool (f i)).toArray
theorem boolA_get (f : Nat → Bool) (i : Nat) (h : i < 1024) : (boolA f)[i]? = some (.bool (f i)) := by simp [boolA, h]
theorem boolA_size (f : Nat → Bool) : (boolA f).size = 1024 := by simp [boolA]
theorem boolA_set (f : Nat → Bool) (i : Nat) (x : Bool) : (boolA f).setIfInBounds i (.bool x) = boolA (fun k => if k = i then x else f k) := by
  apply Array.ext
  · simp [boolA]
  · intro j h1 h2
    simp [boolA] at h1 h2
    rw [Array.getElem_setIfInBounds (by simpa [boolA] using h1)]
    simp only [boolA, List.getElem_toArray, List.getElem_map, List.getElem_range]
    by_cases hij : i = j
    · subst hij; simp
    · have : ¬ j = i := fun e => hij e.symm
      simp [hij, this]
theorem Try.taken0 : (Try.prog.info? 123).map (fun i => (i.zero, i.size)) = some (some (.agg (boolA fun _ => false)), 1024) := by kernel_rfl

/-- what 'fine' is when k of n slots have been looked at -/
def fineB (P : List UInt8) (n k : Nat) : Bool := decide (k = 0) || !emptyB P (k - 1) || decide (k < n)
theorem right_head {P : List UInt8} (h : num2 P 16 < 18 + 4 * num2 P 14 ∨ 1024 < num2 P 16) : rightB P = false := by
  unfold rightB
  rcases h with h | h
  · rw [decide_eq_false (by omega)]; rfl
  · rw [show decide (num2 P 16 ≤ 1024) = false from decide_eq_false (by omega)]; simp
theorem right_bad {P : List UInt8} {k : Nat} (hk : k < num2 P 14) (h : slotOk P k = false) : rightB P = false := by
  unfold rightB
  have : (List.range (num2 P 14)).all (slotOk P) = false := by
    rw [List.all_eq_false]
    exact ⟨k, by simpa using hk, by rw [h]; simp⟩
  rw [this]; simp
theorem right_all {P : List UInt8} (h1 : 18 + 4 * num2 P 14 ≤ num2 P 16) (h2 : num2 P 16 ≤ 1024) (h : ∀ k, k < num2 P 14 → slotOk P k = true) : rightB P = fineB P (num2 P 14) (num2 P 14) := by
  unfold rightB fineB
  have : (List.range (num2 P 14)).all (slotOk P) = true := by
    rw [List.all_eq_true]
    intro k hk
    exact h k (by simpa using hk)
  rw [this, decide_eq_true h1, decide_eq_true h2]
  simp

set_option maxHeartbeats 8000000 in
set_option maxRecDepth 100000 in
theorem right_pg (w : World) (g : Nat) (P : List UInt8) (h : Pg w g P) :
    Calls Try.prog 41 #[.pointer (some ⟨g, 0, none⟩)] w fun e w' => e = .returned (.bool (rightB P)) ∧ Ext w w' := by
  have HP := Lib.hid h
  have K1 := Lib.hid (slots_pg w g P h)
  have K2 := Lib.hid (begin_pg w g P h)
  clear h
  have hz := (zero_of_info Try.taken0).1
  have HBAD := Lib.hid (fun k hk h => right_bad (P := P) (k := k) hk h)
  have HALL := Lib.hid (fun h1 h2 h => right_all (P := P) h1 h2 h)
  have hlb := num2_lt P 16
  have hln := num2_lt P 14
  by_cases h1 : num2 P 16 < 18 + 4 * num2 P 14 ∨ 1024 < num2 P 16
  · have HR := Lib.hid (right_head h1)
    generalize num2 P 14 = n at *
    generalize num2 P 16 = b at *
    have h1' : b < 18 + 4 * n ∨ 18 + 4 * n ≤ b ∧ 1024 < b := by omega
    clear h1 HALL HBAD
    rcases h1' with h1 | ⟨h1, h2⟩
    all_goals
      go_enter Try.func41, Try.ntmps41
      go_wp2_with fail
      go_step3
      go_wp2_with (first | (go_at_call 42; refine K1.out.mono ?_; rintro e w' ⟨rfl, rfl⟩) | (go_at_call 54; refine K2.out.mono ?_; rintro e w' ⟨rfl, rfl⟩))
      try rw [Exit.noGoto_ret]
      go_ret
      exact ⟨by rw [HR.out]; rfl, Ext.refl _⟩
  · have HFB : Hid (∀ k, fitsB P k = (decide (1 ≤ slotS P k) && decide (slotS P k ≤ 1000) && decide (num2 P 16 ≤ slotA P k) && decide (slotA P k + slotS P k ≤ 1024))) := Lib.hid (fun k => rfl)
    generalize num2 P 14 = n at *
    generalize num2 P 16 = b at *
    have h2 : 18 + 4 * n ≤ b := by omega
    have h3 : b ≤ 1024 := by omega
    have HALL2 := Lib.hid (HALL.out h2 h3)
    clear h1 HALL
    have d1 : decide ((b : Int) < 18 + 4 * (n : Int)) = false := by simp; omega
    have d2 : decide ((1024 : Int) < (b : Int)) = false := by simp; omega
    go_enter Try.func41, Try.ntmps41
    go_wp2_with fail
    go_step3
    go_wp2_with (first | (go_at_call 42; refine K1.out.mono ?_; rintro e w' ⟨rfl, rfl⟩) | (go_at_call 54; refine K2.out.mono ?_; rintro e w' ⟨rfl, rfl⟩))
    refine (finder_pg w g).mono ?_
    rintro e w1 ⟨c, rfl, hB1, hc1, hE1⟩
    have HB1 := Lib.hid (hB1.alloc (.cells (boolA fun _ => false) 123))
    have HP1 := Lib.hid ((HP.out.ext hE1).ext ((Ext.refl w1).alloc (.cells (boolA fun _ => false) 123)))
    have HT1 := Lib.hid (Blk.new w1 123 (boolA fun _ => false))
    have HE1 := Lib.hid (hE1.alloc (.cells (boolA fun _ => false) 123))
    have hcg := hB1.lt
    have hgg := (HP.out.ext hE1).blk.lt
    have hs1 := hE1.size
    clear hB1 hE1 K1 K2
    go_wp2_with fail
    go_step3
    go_wp2_with fail
    generalize w1.alloc (.cells (boolA fun _ => false) 123) = w2 at *
    generalize w1.heap.size = gt at *
    go_loopw [7, 28] (fun f i wr => ∃ k : Nat, k ≤ n ∧ i = .int .i64 k ∧ f = .bool (fineB P n k) ∧ (∀ j, j < k → slotOk P j = true) ∧ Blk wr c 77 #[.pointer (some ⟨g, 0, none⟩)] ∧ Pg wr g P ∧ Blk wr gt 123 (boolA (takenB P k)) ∧ Ext w wr) (fun _ i _ => n - (intOf i).toNat)
    case atStart => exact ⟨0, Nat.zero_le _, rfl, rfl, fun j hj => by omega, HB1.out, HP1.out, HT1.out, HE1.out⟩
    case round =>
      obtain ⟨k, hk, rfl, rfl, hok, hB, hP, hT, hE⟩ := hrel
      have HOK := Lib.hid hok
      have HBr := Lib.hid hB
      have HPr := Lib.hid hP
      have HTr := Lib.hid hT
      have HEr := Lib.hid hE
      clear hok hT hE HB1 HP1 HT1 HE1
      by_cases hlt : k < n
      · have hkd : decide ((k : Int) < (n : Int)) = true := by simp; omega
        have KW := Lib.hid (where_pg wr g c P k (by omega) hP hB)
        have HNX : Hid (slotOk P k = true → ∀ j, j < k + 1 → slotOk P j = true) := Lib.hid (fun h j hj => by
          by_cases hjk : j < k
          · exact HOK.out j hjk
          · obtain rfl : j = k := by omega
            exact h)
        have HFN : Hid (fineB P n (k + 1) = (!emptyB P k || decide (k + 1 < n))) := Lib.hid (by unfold fineB; simp)
        have HTS := Lib.hid (fun i => takenB_step P k i)
        have HFBk := Lib.hid (HFB.out k)
        have HSO : Hid (slotOk P k = (emptyB P k || (fitsB P k && freeB P k))) := Lib.hid rfl
        have HEB : Hid (emptyB P k = (decide (slotA P k = 0) && decide (slotS P k = 0))) := Lib.hid rfl
        have HFR : Hid (freeB P k = (List.range (slotS P k)).all fun i => !takenB P k (slotA P k + i)) := Lib.hid rfl
        have HBADk := Lib.hid (HBAD.out k hlt)
        have hal := slotA_lt P k
        have hsl := slotS_lt P k
        clear hB hP
        generalize slotA P k = ak at *
        generalize slotS P k = sk at *
        by_cases hemp : ak = 0 ∧ sk = 0
        · obtain ⟨rfl, rfl⟩ := hemp
          have HEM : Hid (emptyB P k = true) := Lib.hid (by rw [HEB.out]; rfl)
          have HFV : Hid (fineB P n (k + 1) = decide (k + 1 < n)) := Lib.hid (by rw [HFN.out, HEM.out]; rfl)
          have HTK : Hid (takenB P (k + 1) = takenB P k) := Lib.hid (by
            funext i
            rw [HTS.out i]
            have : (decide (0 ≤ i) && decide (i < 0 + 0)) = false := by simp
            rw [this, Bool.or_false])
          go_wp2_with fail
          refine KW.out.mono ?_
          rintro e w' ⟨rfl, rfl⟩
          go_wp2_with fail
          have hd : decide ((k : Int) < (n : Int) - 1) = decide (k + 1 < n) := by simp only [decide_eq_decide]; omega
          exact ⟨⟨k + 1, by omega, by go_num, by rw [HFV.out, hd], HNX.out (by rw [HSO.out, HEM.out]; rfl), HBr.out.drew, ⟨HPr.out.blk.drew, HPr.out.len⟩, by rw [HTK.out]; exact HTr.out.drew, HEr.out.drew⟩, by simp [intOf]; omega⟩
        · have HNE : Hid (emptyB P k = false) := Lib.hid (by rw [HEB.out]; simp; omega)
          by_cases hfit : 1 ≤ sk ∧ sk ≤ 1000 ∧ b ≤ ak ∧ ak + sk ≤ 1024
          · obtain ⟨q1, q2, q3, q4⟩ := hfit
            have HFT : Hid (fitsB P k = true) := Lib.hid (by rw [HFBk.out]; simp; omega)
            have hA : ((ak : Int) == 0) = false := by rw [beq_eq_false_iff_ne]; omega
            have e1 : decide ((sk : Int) < 1) = false := by simp; omega
            have e2 : decide ((1000 : Int) < (sk : Int)) = false := by simp; omega
            have e3 : decide ((ak : Int) < (b : Int)) = false := by simp; omega
            have e4 : decide ((1024 : Int) < (ak : Int) + (sk : Int)) = false := by simp; omega
            clear hemp
            go_wp2_with fail
            refine KW.out.mono ?_
            rintro e w' ⟨rfl, rfl⟩
            go_wp2_with fail
            obtain ⟨wo, rfl⟩ : ∃ wo : World, wo = wr := ⟨_, rfl⟩
            have hcl := HBr.out.lt
            have hpl := HPr.out.blk.lt
            have hcc : ∀ j, j < gt → j ≠ gt := fun j h => by omega
            go_loopw [7, 11] (fun f i wr => ∃ q : Nat, q ≤ sk ∧ i = .int .i64 ((ak : Int) + (q : Int)) ∧ f = .bool (fineB P n k) ∧ (∀ r, r < q → takenB P k (ak + r) = false) ∧ Blk wr c 77 #[.pointer (some ⟨g, 0, none⟩)] ∧ Pg wr g P ∧ Blk wr gt 123 (boolA (fun x => takenB P k x || (decide (ak ≤ x) && decide (x < ak + q)))) ∧ Ext w wr) (fun _ i _ => (ak + sk) - (intOf i).toNat)
            case atStart =>
              refine ⟨0, Nat.zero_le _, by simp, rfl, fun r hr => by omega, HBr.out.drew, ⟨HPr.out.blk.drew, HPr.out.len⟩, ?_, HEr.out.drew⟩
              have : (fun x => takenB P k x || (decide (ak ≤ x) && decide (x < ak + 0))) = takenB P k := by
                funext x
                have : (decide (ak ≤ x) && decide (x < ak + 0)) = false := by simp
                rw [this, Bool.or_false]
              rw [this]
              exact HTr.out.drew
            case round =>
              obtain ⟨q, hq, rfl, rfl, hfr, hBi, hPi, hTi, hEi⟩ := hrel
              have HFRE := Lib.hid hfr
              have HBi := Lib.hid hBi
              have HPi := Lib.hid hPi
              have HTi := Lib.hid hTi
              have HEi := Lib.hid hEi
              clear hfr hBi hPi hEi
              by_cases hql : q < sk
              · have hqd : decide ((ak : Int) + (q : Int) < (ak : Int) + (sk : Int)) = true := by simp; omega
                have hqd2 : decide ((q : Int) < (sk : Int)) = true := by simp; omega
                have hidx : (((ak : Int) + (q : Int)).toNat) = ak + q := by omega
                have hv : wr.cell? ⟨gt, ak + q, none⟩ = some (.bool (takenB P k (ak + q))) := by
                  rw [hTi.cell, boolA_get _ _ (by omega)]
                  congr 2
                  have : (decide (ak ≤ ak + q) && decide (ak + q < ak + q)) = false := by simp
                  rw [this, Bool.or_false]
                have hf := hTi.frozen (ak + q)
                clear hTi
                cases htk : takenB P k (ak + q) with
                | true =>
                  have HNO : Hid (rightB P = false) := Lib.hid (HBADk.out (by
                    rw [HSO.out, HNE.out, HFT.out, HFR.out]
                    simp only [Bool.false_or, Bool.true_and]
                    rw [List.all_eq_false]
                    exact ⟨q, by simpa using hql, by rw [htk]; simp⟩))
                  rw [htk] at hv
                  clear htk
                  go_wp2_with fail
                  try rw [Exit.noGoto_ret]
                  go_ret
                  exact ⟨by rw [HNO.out]; rfl, HEi.out⟩
                | false =>
                  rw [htk] at hv
                  have HFRN : Hid (∀ r, r < q + 1 → takenB P k (ak + r) = false) := Lib.hid (fun r hr => by
                    by_cases hrq : r < q
                    · exact HFRE.out r hrq
                    · obtain rfl : r = q := by omega
                      exact htk)
                  clear htk
                  go_wp2_with fail
                  have HSB := Lib.hid (boolA_set (fun x => takenB P k x || (decide (ak ≤ x) && decide (x < ak + q))) (ak + q) true)
                  have HFE : Hid ((fun x => if x = ak + q then true else (takenB P k x || (decide (ak ≤ x) && decide (x < ak + q)))) = fun x => takenB P k x || (decide (ak ≤ x) && decide (x < ak + (q + 1)))) := Lib.hid (by
                    funext x
                    by_cases hx : x = ak + q
                    · subst hx; simp
                    · rw [if_neg hx]
                      have : (x < ak + (q + 1)) ↔ x < ak + q := by omega
                      simp [this])
                  refine ⟨⟨q + 1, by omega, by rw [show ((q + 1 : Nat) : Int) = (q : Int) + 1 by omega, Int.add_assoc], rfl, HFRN.out, HBi.out.far (by show c ≠ gt; omega) _, ⟨HPi.out.blk.far (by show g ≠ gt; omega) _, HPi.out.len⟩, ?_, HEi.out.setCell (by show _ ≤ gt; omega) _⟩, by simp [intOf]; omega⟩
                  rw [← HFE.out, ← HSB.out]
                  exact HTi.out.set _ _
              · obtain rfl : q = sk := by omega
                clear hTi
                go_wp2_with fail
                have HTE : Hid ((fun x => takenB P k x || (decide (ak ≤ x) && decide (x < ak + q))) = takenB P (k + 1)) := Lib.hid (by funext x; rw [HTS.out x])
                have HFRB : Hid (freeB P k = true) := Lib.hid (by
                  rw [HFR.out, List.all_eq_true]
                  intro r hr
                  rw [HFRE.out r (by simpa using hr)]; rfl)
                exact ⟨⟨k + 1, by omega, by go_num, by rw [HFN.out, HNE.out]; rfl, HNX.out (by rw [HSO.out, HNE.out, HFT.out, HFRB.out]; rfl), HBi.out, HPi.out, by rw [← HTE.out]; exact HTi.out, HEi.out⟩, by simp [intOf]; omega⟩
          · have HNO : Hid (rightB P = false) := Lib.hid (HBADk.out (by rw [HSO.out, HNE.out, HFBk.out]; simp; omega))
            have hcase : sk < 1 ∧ ak ≠ 0 ∨ 1 ≤ sk ∧ 1000 < sk ∨ 1 ≤ sk ∧ sk ≤ 1000 ∧ ak < b ∨ 1 ≤ sk ∧ sk ≤ 1000 ∧ b ≤ ak ∧ 1024 < ak + sk := by omega
            clear hemp hfit
            by_cases ha0 : ak = 0
            · have hA : ((ak : Int) == 0) = true := by rw [beq_iff_eq]; omega
              have hS : ((sk : Int) == 0) = false := by rw [beq_eq_false_iff_ne]; omega
              have e1 : decide ((sk : Int) < 1) = false := by simp; omega
              rcases hcase with ⟨q1, q2⟩ | ⟨q1, q2⟩ | ⟨q1, q2, q3⟩ | ⟨q1, q2, q3, q4⟩
              · omega
              · have e2 : decide ((1000 : Int) < (sk : Int)) = true := by simp; omega
                go_wp2_with fail
                refine KW.out.mono ?_
                rintro e w' ⟨rfl, rfl⟩
                go_wp2_with fail
                try rw [Exit.noGoto_ret]
                go_ret
                exact ⟨by rw [HNO.out]; rfl, HEr.out.drew⟩
              · have e2 : decide ((1000 : Int) < (sk : Int)) = false := by simp; omega
                have e3 : decide ((ak : Int) < (b : Int)) = true := by simp; omega
                go_wp2_with fail
                refine KW.out.mono ?_
                rintro e w' ⟨rfl, rfl⟩
                go_wp2_with fail
                try rw [Exit.noGoto_ret]
                go_ret
                exact ⟨by rw [HNO.out]; rfl, HEr.out.drew⟩
              · omega
            · have hA : ((ak : Int) == 0) = false := by rw [beq_eq_false_iff_ne]; omega
              rcases hcase with ⟨q1, q2⟩ | ⟨q1, q2⟩ | ⟨q1, q2, q3⟩ | ⟨q1, q2, q3, q4⟩
              · have e1 : decide ((sk : Int) < 1) = true := by simp; omega
                go_wp2_with fail
                refine KW.out.mono ?_
                rintro e w' ⟨rfl, rfl⟩
                go_wp2_with fail
                try rw [Exit.noGoto_ret]
                go_ret
                exact ⟨by rw [HNO.out]; rfl, HEr.out.drew⟩
              · have e1 : decide ((sk : Int) < 1) = false := by simp; omega
                have e2 : decide ((1000 : Int) < (sk : Int)) = true := by simp; omega
                go_wp2_with fail
                refine KW.out.mono ?_
                rintro e w' ⟨rfl, rfl⟩
                go_wp2_with fail
                try rw [Exit.noGoto_ret]
                go_ret
                exact ⟨by rw [HNO.out]; rfl, HEr.out.drew⟩
              · have e1 : decide ((sk : Int) < 1) = false := by simp; omega
                have e2 : decide ((1000 : Int) < (sk : Int)) = false := by simp; omega
                have e3 : decide ((ak : Int) < (b : Int)) = true := by simp; omega
                go_wp2_with fail
                refine KW.out.mono ?_
                rintro e w' ⟨rfl, rfl⟩
                go_wp2_with fail
                try rw [Exit.noGoto_ret]
                go_ret
                exact ⟨by rw [HNO.out]; rfl, HEr.out.drew⟩
              · have e1 : decide ((sk : Int) < 1) = false := by simp; omega
                have e2 : decide ((1000 : Int) < (sk : Int)) = false := by simp; omega
                have e3 : decide ((ak : Int) < (b : Int)) = false := by simp; omega
                have e4 : decide ((1024 : Int) < (ak : Int) + (sk : Int)) = true := by simp; omega
                go_wp2_with fail
                refine KW.out.mono ?_
                rintro e w' ⟨rfl, rfl⟩
                go_wp2_with fail
                try rw [Exit.noGoto_ret]
                go_ret
                exact ⟨by rw [HNO.out]; rfl, HEr.out.drew⟩
      · obtain rfl : k = n := by omega
        have HAL := Lib.hid (HALL2.out HOK.out)
        clear hB hP
        go_wp2_with fail
        try rw [Exit.noGoto_ret]
        go_ret
        exact ⟨by rw [HAL.out]; rfl, HEr.out⟩

end Go.Proofs.Ytgbfeagoadlhmaa
