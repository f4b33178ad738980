
/-
  The law RecordMeans, walked.
-/
import Derived.Test.YtgbfeagoadlhmaaRecP
import Derived.Test.YtgbfeagoadlhmaaRecO
import Derived.Test.YtgbfeagoadlhmaaRecK
set_option linter.unusedVariables false
set_option linter.unusedSimpArgs false
namespace Go.Proofs.Ytgbfeagoadlhmaa
open Go.RowKit Pl

attribute [local go_sem] Oper.semAt_some

/-- what Of tells, but for the record -/
def OfP (w : World) (Q : Int → Prop) (e : Ending) (w' : World) : Prop := ∃ (RC : Array Value) (n err : Int), RC.size = 9 ∧ RC.all (·.oneCell') = true ∧ e = .returned (.tuple #[.agg RC, .int .i64 n, .int .i64 err]) ∧ Q err ∧ Ext w w'

set_option maxHeartbeats 1600000 in
set_option maxRecDepth 100000 in
theorem Of_far (w : World) (X : Value) (pl : Nat) (hpl : 4611686018427387904 < pl) :
    Calls Try.prog 36 #[X, .int .u64 (pl : Int)] w fun e w' => e = .returned (.tuple #[.agg (recC (bareR 0) none 0 none 0), .int .i64 0, .int .i64 2]) ∧ Ext w w' := by
  have hzr := Try.recZero
  have hbz := build_rec0
  have HB0 := Lib.hid (Blk.new w 65 #[.int .i64 0, .int .u64 0, .int .i64 0, .int .i64 0, .slice none 0 0, .slice none 0 0, .int .u64 0, .int .u64 0, .int .u64 0])
  have HE0 := Lib.hid (ext_fresh w (.cells #[.int .i64 0, .int .u64 0, .int .i64 0, .int .i64 0, .slice none 0 0, .slice none 0 0, .int .u64 0, .int .u64 0, .int .u64 0] 65))
  have d1 : decide ((4611686018427387904 : Int) < (pl : Int)) = true := decide_eq_true (by omega)
  show Calls _ _ _ _ fun e w' => e = .returned (.tuple #[.agg #[.int .i64 0, .int .u64 0, .int .i64 0, .int .i64 0, .slice none 0 0, .slice none 0 0, .int .u64 0, .int .u64 0, .int .u64 0], .int .i64 0, .int .i64 2]) ∧ _
  clear hpl
  go_enter Try.func36, Try.ntmps36
  go_wp2_with (refine wpList_store_row rfl 65 _ _ rfl _ _ rfl rfl _ _ HB0.out (Try.recSize rfl) rfl (by simp [Value.oneCell']) ?_)
  exact bodyPost_ret (results_rowR3 Try.results36 _ _ w.heap.size _ _ (0, 0) _ rfl (HB0.out.rowE _) Try.underlying65 rfl (Try.recSize rfl)) rfl ⟨rfl, HE0.out.setRowE (Nat.le_refl _) _⟩

theorem Of_no (w : World) (g n c : Nat) (D : List UInt8) (pl : Nat) (hD : D.length = n) (hn : n ≤ 1000000) (hc : n ≤ c) (hc2 : c ≤ 9223372036854775807) (hb : By w (some ⟨g, 0, none⟩) D) (hpl : pl ≤ 4611686018427387904) (hcut : cutB D pl = false) :
    Calls Try.prog 36 #[.slice (some ⟨g, 0, none⟩) n c, .int .u64 (pl : Int)] w (OfP w fun err => err = 4) :=
  (Of_cut w g n c D pl hD hn hc hc2 hb hpl hcut).mono fun e w' ⟨he, hE⟩ => ⟨_, _, _, rfl, recC_one _ _ _ _ _, he, rfl, hE⟩
theorem Of_some (w : World) (g n c : Nat) (r : Rec) (pl : Nat) (ho : RecOk r) (hm : mayB r = true) (hD : (bytesR r pl).length = n) (hn : n ≤ 1000000) (hc : n ≤ c) (hc2 : c ≤ 9223372036854775807) (hb : By w (some ⟨g, 0, none⟩) (bytesR r pl)) (hpl : pl ≤ 4611686018427387904) :
    Calls Try.prog 36 #[.slice (some ⟨g, 0, none⟩) n c, .int .u64 (pl : Int)] w (OfP w fun err => err = 0) := by
  have K := Of_yes w g n c r pl [] ho hm (by rw [List.append_nil]; exact hD) hn hc hc2 (by rw [List.append_nil]; exact hb) hpl
  exact K.mono fun e w' ⟨A4, c4, A5, c5, he, _, _, _, hE⟩ => ⟨_, _, _, rfl, recC_one _ _ _ _ _, he, rfl, hE⟩
theorem Of_other (w : World) (g n c : Nat) (r : Rec) (pl q : Nat) (ho : RecOk r) (hm : mayB r = true) (hD : (bytesR r pl).length = n) (hn : n ≤ 1000000) (hc : n ≤ c) (hc2 : c ≤ 9223372036854775807) (hb : By w (some ⟨g, 0, none⟩) (bytesR r pl)) (hpl : pl ≤ 4611686018427387904) :
    Calls Try.prog 36 #[.slice (some ⟨g, 0, none⟩) n c, .int .u64 (q : Int)] w (OfP w fun err => q ≠ pl → err ≠ 0) := by
  by_cases hq : q = pl
  · subst hq
    exact (Of_some w g n c r q ho hm hD hn hc hc2 hb hpl).mono fun e w' ⟨RC, n, err, h1, h2, h3, h4, h5⟩ => ⟨RC, n, err, h1, h2, h3, fun h => absurd rfl h, h5⟩
  · by_cases hq2 : q ≤ 4611686018427387904
    · exact (Of_no w g n c _ q hD hn hc hc2 hb hq2 (cut_other r pl q (by omega) hq)).mono fun e w' ⟨RC, n, err, h1, h2, h3, h4, h5⟩ => ⟨RC, n, err, h1, h2, h3, fun _ => by rw [h4]; decide, h5⟩
    · exact (Of_far w _ q (by omega)).mono fun e w' ⟨he, hE⟩ => ⟨_, _, _, rfl, recC_one _ _ _ _ _, he, fun _ => by decide, hE⟩
theorem Of_turned (w : World) (g n c : Nat) (r : Rec) (pl : Nat) (T : List UInt8) (ho : RecOk r) (hm : mayB r = true) (hT : T.length = n) (hn : n ≤ 1000000) (hc : n ≤ c) (hc2 : c ≤ 9223372036854775807) (hb : By w (some ⟨g, 0, none⟩) T) (hpl : pl ≤ 4611686018427387904) (h : T = bytesR r pl ∨ cutB T pl = false) :
    Calls Try.prog 36 #[.slice (some ⟨g, 0, none⟩) n c, .int .u64 (pl : Int)] w (OfP w fun err => T ≠ bytesR r pl → err = 4) := by
  rcases h with rfl | h
  · exact (Of_some w g n c r pl ho hm hT hn hc hc2 hb hpl).mono fun e w' ⟨RC, n, err, h1, h2, h3, h4, h5⟩ => ⟨RC, n, err, h1, h2, h3, fun h => absurd rfl h, h5⟩
  · exact (Of_no w g n c T pl hT hn hc hc2 hb hpl h).mono fun e w' ⟨RC, n, err, h1, h2, h3, h4, h5⟩ => ⟨RC, n, err, h1, h2, h3, fun _ => h4, h5⟩
theorem cut_short (r : Rec) (pl q : Nat) (hb : (bodyR r).length ≤ 3000) : cutB ((bytesR r pl).take (16 + (bodyR r).length)) q = false := by
  have hp := parts4 (a := put (17 + (bodyR r).length) 4) (b := put pl 8) (c := put (sumR (17 + (bodyR r).length) pl (UInt8.ofNat r.kind.toNat) (bodyR r)) 4) (d := UInt8.ofNat r.kind.toNat :: bodyR r) (put_length _ _) (put_length _ _) (put_length _ _)
  rw [← bytesR_is] at hp
  have hl := bytesR_length r pl
  have hl2 : ((bytesR r pl).take (16 + (bodyR r).length)).length = 16 + (bodyR r).length := by rw [List.length_take, hl]; omega
  have hz : num (((bytesR r pl).take (16 + (bodyR r).length)).take 4) = 17 + (bodyR r).length := by
    rw [List.take_take, show min 4 (16 + (bodyR r).length) = 4 by omega, hp.1, num_put _ 4 (by omega)]
  unfold cutB
  split
  · rfl
  · rw [if_pos]
    rw [hz, hl2]
    omega

end Go.Proofs.Ytgbfeagoadlhmaa
