
/-
  Contracts of page.Item, Insert.
-/
import Derived.Test.YtgbfeagoadlhmaaPageE
set_option linter.unusedVariables false
set_option linter.unusedSimpArgs false
namespace Go.Proofs.Ytgbfeagoadlhmaa
open Go.RowKit Pl

section
variable {P : Program}
theorem results_row2 {fn : Func} {p u : Tmp} {ty : TypeId} (h : fn.results = #[.cell p ty, .tmp u]) (tmps : Array Value) (w : World) (g : Nat) (t : TypeId) (cs : Array Value) (fr : Nat × Nat) (d : TypeDesc)
    (hp : tmps.getD p undef = .pointer (some ⟨g, 0, none⟩)) (hg : w.heap[g]? = some (.cells cs t fr))
    (hu : P.underlying ty = some d) (hd : (match d with | .struct _ | .array _ _ => true | _ => false) = true) (hi : (P.info? ty).map (·.size) = some cs.size) :
    (results fn tmps).run P w = .ok (.tuple #[.agg cs, tmps.getD u undef]) w := by
  have hp' : tmps[p]?.getD undef = .pointer (some ⟨g, 0, none⟩) := by simpa using hp
  simp [results, h, hp', asAddr, run_loadVar_row w g t ty cs fr d hg hu hd hi]
theorem results_row3 {fn : Func} {p u v : Tmp} {ty : TypeId} (h : fn.results = #[.cell p ty, .tmp u, .tmp v]) (tmps : Array Value) (w : World) (g : Nat) (t : TypeId) (cs : Array Value) (fr : Nat × Nat) (d : TypeDesc)
    (hp : tmps.getD p undef = .pointer (some ⟨g, 0, none⟩)) (hg : w.heap[g]? = some (.cells cs t fr))
    (hu : P.underlying ty = some d) (hd : (match d with | .struct _ | .array _ _ => true | _ => false) = true) (hi : (P.info? ty).map (·.size) = some cs.size) :
    (results fn tmps).run P w = .ok (.tuple #[.agg cs, tmps.getD u undef, tmps.getD v undef]) w := by
  have hp' : tmps[p]?.getD undef = .pointer (some ⟨g, 0, none⟩) := by simpa using hp
  simp [results, h, hp', asAddr, run_loadVar_row w g t ty cs fr d hg hu hd hi]
end

theorem right_slot {P : List UInt8} (h : rightB P = true) {n : Nat} (hn : n < num2 P 14) (hs : slotS P n ≠ 0) : 1 ≤ slotS P n ∧ slotS P n ≤ 1000 ∧ num2 P 16 ≤ slotA P n ∧ slotA P n + slotS P n ≤ 1024 := by
  unfold rightB at h
  simp only [Bool.and_eq_true, List.all_eq_true] at h
  have h2 := h.1.2 n (by simpa using hn)
  unfold slotOk emptyB fitsB at h2
  simp only [Bool.or_eq_true, Bool.and_eq_true, decide_eq_true_eq] at h2
  omega

/-- what page.Item answers: the error, the bytes -/
def itemE (P : List UInt8) (z : Int) : Nat := if rightB P then (if z < 0 then 2 else if hasB P z.toNat then 0 else 6) else 4
def itemL (P : List UInt8) (n : Nat) : List UInt8 := (P.drop (slotA P n)).take (slotS P n)
def itemB (P : List UInt8) (z : Int) : List UInt8 := if itemE P z = 0 then itemL P z.toNat else []

set_option maxHeartbeats 1600000 in
set_option maxRecDepth 100000 in
theorem Item_pg (w : World) (P : List UInt8) (z : Int) (h : P.length = 1024) (hz1 : -9223372036854775808 ≤ z) (hz2 : z ≤ 9223372036854775807) :
    Calls Try.prog 17 #[.agg (cells8 P), .int .i64 z] w fun e w' => ∃ v, e = .returned (.tuple #[v, .int .i64 (itemE P z : Int)]) ∧ Own 5 w' w.heap.size v (itemB P z) ∧ Ext w w' := by
  have HP := Lib.hid (Pg.new w P h)
  have KR := Lib.hid (right_pg _ _ P HP.out)
  have HIE : Hid (itemE P z = if rightB P then (if z < 0 then 2 else if hasB P z.toNat then 0 else 6) else 4) := Lib.hid rfl
  have HIB : Hid (itemB P z = if itemE P z = 0 then itemL P z.toNat else []) := Lib.hid rfl
  cases hr : rightB P with
  | false =>
    rw [hr] at KR HIE
    simp only [Bool.false_eq_true, if_false] at HIE
    rw [HIE.out] at HIB
    rw [HIE.out, HIB.out]
    clear hr
    go_enter Try.func17, Try.ntmps17
    go_wp2_with fail
    refine KR.out.mono ?_
    rintro e w' ⟨rfl, hE⟩
    go_wp2_with fail
    go_ret2
    exact ⟨_, rfl, Own.nil _ _ _, (ext_new w _).trans hE⟩
  | true =>
    have hle := right_le hr
    have HSL := Lib.hid (fun n hn hs => right_slot hr (n := n) hn hs)
    rw [hr] at KR HIE
    simp only [if_true] at HIE
    clear hr
    by_cases hz : z < 0
    · rw [if_pos hz] at HIE
      rw [HIE.out] at HIB
      rw [HIE.out, HIB.out]
      have hzd : decide (z < 0) = true := by simpa using hz
      go_enter Try.func17, Try.ntmps17
      go_wp2_with fail
      refine KR.out.mono ?_
      rintro e w' ⟨rfl, hE⟩
      go_wp2_with fail
      go_ret2
      exact ⟨_, rfl, Own.nil _ _ _, (ext_new w _).trans hE⟩
    · rw [if_neg hz] at HIE
      obtain ⟨n, rfl⟩ := Int.eq_ofNat_of_zero_le (show 0 ≤ z by omega)
      have hzd : decide ((n : Int) < 0) = false := by simp
      have KF := Lib.hid (fun W (h : Pg W w.heap.size P) => find_pg W _ P n h (by omega))
      rw [Int.toNat_natCast] at HIE HIB
      have HH : Hid (hasB P n = (decide (n < num2 P 14) && decide (slotS P n ≠ 0))) := Lib.hid rfl
      cases hh : hasB P n with
      | false =>
        rw [hh] at HIE KF
        simp only [Bool.false_eq_true, if_false] at HIE KF
        rw [HIE.out] at HIB
        rw [HIE.out, HIB.out]
        clear hh
        go_enter Try.func17, Try.ntmps17
        go_wp2_with fail
        refine KR.out.mono ?_
        rintro e w' ⟨rfl, hE⟩
        have K2 := Lib.hid (KF.out w' (HP.out.ext hE))
        go_wp2_with fail
        refine K2.out.mono ?_
        rintro e w2 ⟨rfl, hE2⟩
        go_wp2_with fail
        go_ret2
        exact ⟨_, rfl, Own.nil _ _ _, ((ext_new w _).trans hE).trans hE2⟩
      | true =>
        rw [hh] at HIE KF HH
        simp only [if_true] at HIE KF
        rw [HIE.out] at HIB
        rw [HIE.out, HIB.out]
        have hhv := HH.out.symm
        simp only [Bool.and_eq_true, decide_eq_true_eq] at hhv
        obtain ⟨q1, q2, q3, q4⟩ := HSL.out n hhv.1 hhv.2
        have HIL : Hid (itemL P n = (P.drop (slotA P n)).take (slotS P n)) := Lib.hid rfl
        rw [if_pos rfl]
        have hlen := HP.out.sub_len (slotA P n) (slotS P n) q4
        have HLN : Hid ((itemL P n).length = slotS P n) := Lib.hid (by rw [HIL.out]; exact hlen)
        have HBYf := Lib.hid (fun W (h : Pg W w.heap.size P) => h.by_ (slotA P n) (slotS P n) q4)
        rw [← HIL.out] at HBYf
        have hsl := fun W => slice_pg w.heap.size (slotA P n) (slotA P n + slotS P n) (by omega) q4 (by omega) W
        rw [show slotA P n + slotS P n - slotA P n = slotS P n by omega, Int.natCast_add] at hsl
        clear hlen hh hhv HH HSL HIL
        generalize itemL P n = L at *
        generalize slotA P n = an at *
        generalize slotS P n = sn at *
        go_enter Try.func17, Try.ntmps17
        go_wp2_with fail
        refine KR.out.mono ?_
        rintro e w1 ⟨rfl, hE1⟩
        have K2 := Lib.hid (KF.out w1 (HP.out.ext hE1))
        go_wp2_with fail
        refine K2.out.mono ?_
        rintro e w2 ⟨rfl, hE2⟩
        have hP2 := (HP.out.ext hE1).ext hE2
        have hBj := Bys.one (c := 1024 - an) (HBYf.out w2 hP2) (by rw [HLN.out]; omega) 24
        have KJ := Lib.hid (join_any _ [L] 1 (by simp) (by simp [HLN.out]; omega) _ hBj)
        rw [HLN.out, show [L].flatten = L by simp, show [L].length = 1 from rfl] at KJ
        clear hBj
        go_wp2_with fail
        refine KJ.out.mono ?_
        rintro e w3 ⟨v, rfl, hO, hE3⟩
        go_wp2_with fail
        go_ret2
        have hE03 := (((ext_new w _).trans hE1).trans hE2)
        exact ⟨v, rfl, hO.down (by have := hE03.size; simp; omega), (hE03.trans (ext_new _ _)).trans hE3⟩

end Go.Proofs.Ytgbfeagoadlhmaa
