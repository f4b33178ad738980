
/-
  Steps in memory; contract of ref05.Much; what steps keep of a page.
-/
import Derived.Test.YtgbfeagoadlhmaaDoB
import Derived.Deep.MidRow
set_option linter.unusedVariables false
set_option linter.unusedSimpArgs false
namespace Go.Proofs.Ytgbfeagoadlhmaa
open Go.RowKit Pl

def stp0 : Stp := ⟨0, 0, [], 0, 0⟩

/-- the slice at A reads as steps -/
def Stps (w : World) (A : Option Addr) (fs : List Stp) : Prop :=
  fs = [] ∨ ∃ b o, A = some ⟨b, o, none⟩ ∧ ∀ i, i < fs.length → w.cell? ⟨b, o + i * 5, none⟩ = some (.int .i64 (fs.getD i stp0).kind) ∧ w.cell? ⟨b, o + i * 5 + 1, none⟩ = some (.int .i64 (fs.getD i stp0).n) ∧
    (∃ Ai ci, w.cell? ⟨b, o + i * 5 + 2, none⟩ = some (.slice Ai (fs.getD i stp0).b.length ci) ∧ By w Ai (fs.getD i stp0).b ∧ (fs.getD i stp0).b.length ≤ ci ∧ ci ≤ 9223372036854775807) ∧
    w.cell? ⟨b, o + i * 5 + 3, none⟩ = some (.int .u8 ((fs.getD i stp0).by_.toNat : Int)) ∧ w.cell? ⟨b, o + i * 5 + 4, none⟩ = some (.int .u64 ((fs.getD i stp0).lsn : Int))
theorem Stps.at_ {w : World} {A : Option Addr} {fs : List Stp} (h : Stps w A fs) {i : Nat} (hi : i < fs.length) : ∃ b o, A = some ⟨b, o, none⟩ ∧ w.cell? ⟨b, o + i * 5, none⟩ = some (.int .i64 (fs.getD i stp0).kind) ∧ w.cell? ⟨b, o + i * 5 + 1, none⟩ = some (.int .i64 (fs.getD i stp0).n) ∧
    (∃ Ai ci, w.cell? ⟨b, o + i * 5 + 2, none⟩ = some (.slice Ai (fs.getD i stp0).b.length ci) ∧ By w Ai (fs.getD i stp0).b ∧ (fs.getD i stp0).b.length ≤ ci ∧ ci ≤ 9223372036854775807) ∧
    w.cell? ⟨b, o + i * 5 + 3, none⟩ = some (.int .u8 ((fs.getD i stp0).by_.toNat : Int)) ∧ w.cell? ⟨b, o + i * 5 + 4, none⟩ = some (.int .u64 ((fs.getD i stp0).lsn : Int)) := by
  rcases h with rfl | ⟨b, o, rfl, hc⟩
  · simp at hi
  · exact ⟨b, o, rfl, hc i hi⟩
theorem Stps.ext {w w' : World} {A : Option Addr} {fs : List Stp} (h : Stps w A fs) (hb : Ext w w') : Stps w' A fs := by
  rcases h with rfl | ⟨b, o, rfl, hc⟩
  · exact .inl rfl
  · refine .inr ⟨b, o, rfl, fun i hi => ?_⟩
    obtain ⟨h1, h2, ⟨Ai, ci, h3, h4, h5⟩, h6, h7⟩ := hc i hi
    exact ⟨hb.cell h1, hb.cell h2, ⟨Ai, ci, hb.cell h3, h4.ext hb, h5⟩, hb.cell h6, hb.cell h7⟩

theorem load_stp {w : World} {b o : Nat} {s : Stp} {A : Option Addr} {c : Nat} (h0 : w.cell? ⟨b, o, none⟩ = some (.int .i64 s.kind)) (h1 : w.cell? ⟨b, o + 1, none⟩ = some (.int .i64 s.n)) (h2 : w.cell? ⟨b, o + 2, none⟩ = some (.slice A s.b.length c))
    (h3 : w.cell? ⟨b, o + 3, none⟩ = some (.int .u8 (s.by_.toNat : Int))) (h4 : w.cell? ⟨b, o + 4, none⟩ = some (.int .u64 (s.lsn : Int))) :
    (Instr.loadAt 45 (.pointer (some ⟨b, o, none⟩))).run Try.prog w = .ok (.agg (stepC s A c)) w := by
  refine run_loadAt_mid w b o 45 [.int .i64 s.kind, .int .i64 s.n, .slice A s.b.length c, .int .u8 (s.by_.toNat : Int), .int .u64 (s.lsn : Int)] _ (fun j v hv => ?_) Try.underlying45 rfl (by kernel_rfl)
  match j, hv with
  | 0, hv => cases hv; exact h0
  | 1, hv => cases hv; exact h1
  | 2, hv => cases hv; exact h2
  | 3, hv => cases hv; exact h3
  | 4, hv => cases hv; exact h4
  | j + 5, hv => simp at hv
theorem do_stp (w : World) (P : List UInt8) (h : P.length = 1024) (s : Stp) (A : Option Addr) (c : Nat) (hb : By w A s.b) (hs : StpOk s) (h5 : s.kind ≠ 5) :
    Calls Try.prog 20 #[.agg (cells8 P), .agg (stepC s A c)] w fun e w' => e = .returned (.tuple #[.agg (cells8 (doQ P s)), .int .i64 (rawN P s : Int), .int .i64 (rawE P s : Int)]) ∧ Ext w w' :=
  do_any w P h s.kind s.n s.b s.by_ s.lsn A c hb hs.n1 hs.n2 hs.b hs.lsn h5

/-- how many bytes the first k steps have, none of them counted beyond 60001 -/
def sumB (fs : List Stp) (k : Nat) : Nat := ((fs.take k).map fun s => min s.b.length 60001).sum
theorem sumB_succ (fs : List Stp) (k : Nat) (h : k < fs.length) : sumB fs (k + 1) = sumB fs k + min (fs.getD k stp0).b.length 60001 := by
  unfold sumB
  rw [List.take_succ_eq_append_getElem h, List.map_append, List.sum_append]
  simp [List.getD_eq_getElem?_getD, h]
theorem sumB_mono (fs : List Stp) {i k : Nat} (h : i ≤ k) (hk : k ≤ fs.length) : sumB fs i ≤ sumB fs k := by
  induction k with
  | zero => obtain rfl : i = 0 := by omega
            exact Nat.le_refl _
  | succ k ih =>
    by_cases hik : i = k + 1
    · subst hik; exact Nat.le_refl _
    · have := ih (by omega) (by omega); rw [sumB_succ _ _ (by omega)]; omega
/-- are they more than is gone through? -/
def muchB (fs : List Stp) (m : Nat) : Bool := decide (60000 < sumB fs (min fs.length (m + 1))) || decide (m < fs.length)
theorem much_yes (fs : List Stp) (m k : Nat) (hk : k ≤ fs.length) (hm : k ≤ m + 1) (h : 60000 < sumB fs k) : muchB fs m = true := by
  unfold muchB
  have := sumB_mono fs (i := k) (k := min fs.length (m + 1)) (by omega) (by omega)
  rw [decide_eq_true (by omega)]; rfl
theorem much_no {fs : List Stp} {m : Nat} (h : muchB fs m = false) : fs.length ≤ m ∧ ∀ i, i < fs.length → (fs.getD i stp0).b.length ≤ 60000 := by
  unfold muchB at h
  simp only [Bool.or_eq_false_iff, decide_eq_false_iff_not] at h
  refine ⟨by omega, fun i hi => ?_⟩
  have h1 := sumB_succ fs i hi
  have h2 := sumB_mono fs (i := i + 1) (k := min fs.length (m + 1)) (by omega) (by omega)
  omega
theorem much_end (fs : List Stp) (m : Nat) (h : sumB fs (min fs.length (m + 1)) ≤ 60000) : muchB fs m = decide (m < fs.length) := by
  unfold muchB; rw [decide_eq_false (by omega)]; rfl

set_option maxHeartbeats 1600000 in
set_option maxRecDepth 100000 in
theorem much_any (w : World) (A : Option Addr) (fs : List Stp) (c m : Nat) (hF : Stps w A fs) (hl : fs.length ≤ 9223372036854775807) (hm : m < 1000) :
    Calls Try.prog 18 #[.slice A fs.length c, .int .i64 (m : Int)] w fun e w' => e = .returned (.bool (muchB fs m)) ∧ Ext w w' := by
  have HF := Lib.hid hF
  have HM1 : Hid (∀ k, k ≤ fs.length → k ≤ m + 1 → 60000 < sumB fs k → muchB fs m = true) := Lib.hid (fun k a b c => much_yes fs m k a b c)
  have HM2 : Hid (sumB fs (min fs.length (m + 1)) ≤ 60000 → muchB fs m = decide (m < fs.length)) := Lib.hid (much_end fs m)
  have HM3 : Hid (∀ k, k < fs.length → sumB fs (k + 1) = sumB fs k + min (fs.getD k stp0).b.length 60001) := Lib.hid (fun k hk => sumB_succ fs k hk)
  have HM0 : Hid (sumB fs 0 = 0) := Lib.hid rfl
  generalize muchB fs m = mb at *
  generalize hn : fs.length = len at *
  clear hF
  go_enter Try.func18, Try.ntmps18
  go_wp2_with fail
  go_loopw [5, 6] (fun s i wr => ∃ k : Nat, k ≤ len ∧ k ≤ m + 1 ∧ i = .int .i64 k ∧ s = .int .i64 (sumB fs k : Int) ∧ sumB fs k ≤ 60000 ∧ Ext w wr) (fun _ i _ => len - (intOf i).toNat)
  case atStart => exact ⟨0, by omega, by omega, rfl, by rw [HM0.out]; rfl, by rw [HM0.out]; omega, Ext.refl _⟩
  case round =>
    obtain ⟨k, hk, hkm, rfl, rfl, hs, hE⟩ := hrel
    have HE := Lib.hid hE
    clear hE HM0
    by_cases h1 : k < len
    · have d1 : decide ((k : Int) < (len : Int)) = true := by simp; omega
      by_cases h2 : k ≤ m
      · have d2 : decide ((k : Int) ≤ (m : Int)) = true := by simp; omega
        obtain ⟨g, o, rfl, _, _, ⟨Ai, ci, c2, _, _⟩, _⟩ := (HF.out.ext HE.out).at_ (i := k) (by omega)
        have h3 := HM3.out k h1
        have h4 := HM1.out (k + 1) (by omega) (by omega)
        have HSU : Hid (∃ s1, sumB fs (k + 1) = s1) := Lib.hid ⟨_, rfl⟩
        obtain ⟨s1, hsu⟩ := HSU.out
        rw [hsu] at h3 h4
        clear HSU
        have HSU := Lib.hid hsu
        clear hsu
        generalize sumB fs k = s0 at *
        generalize (fs.getD k stp0).b.length = bl at *
        obtain ⟨t, ht⟩ : ∃ t : Nat, min bl 60001 = t := ⟨_, rfl⟩
        have hif : (if (60001 : Int) < (bl : Int) then (60001 : Int) else (bl : Int)) = (t : Int) := by split <;> omega
        rw [ht] at h3
        have HS1 := Lib.hid h3
        clear HF HM1 HM2 HM3
        by_cases h5 : 60000 < s1
        · have d3 : decide ((60000 : Int) < (s0 : Int) + (t : Int)) = true := by simp; omega
          have HMB := Lib.hid (h4 h5)
          clear h4 h5
          go_wp2_with fail
          go_ret
          exact ⟨by rw [HMB.out]; rfl, HE.out⟩
        · have d3 : decide ((60000 : Int) < (s0 : Int) + (t : Int)) = false := by simp; omega
          have HS2 := Lib.hid h5
          clear h4 h5
          go_wp2_with fail
          exact ⟨⟨k + 1, by omega, by omega, by go_num, by rw [HSU.out, HS1.out]; go_num, by rw [HSU.out]; have := HS2.out; omega, HE.out⟩, by simp [intOf]; omega⟩
      · have d2 : decide ((k : Int) ≤ (m : Int)) = false := by simp; omega
        have d4 : decide ((m : Int) < (len : Int)) = true := by simp; omega
        have HMB := Lib.hid (HM2.out (by rw [show min len (m + 1) = k by omega]; exact hs))
        clear HF HM1 HM2 HM3
        go_wp2_with fail
        go_ret
        exact ⟨by rw [HMB.out]; first | rfl | (simp; omega) | simp, HE.out⟩
    · obtain rfl : k = len := by omega
      have HMB := Lib.hid (HM2.out (by rw [show min k (m + 1) = k by omega]; exact hs))
      clear HF HM1 HM2 HM3
      go_wp2_with fail
      go_ret
      exact ⟨by rw [HMB.out]; rfl, HE.out⟩

theorem seal_get {P : List UInt8} (hP : P.length = 1024) (n : Nat) {i : Nat} (hi : 12 ≤ i) : (sealP P n).getD i 0 = P.getD i 0 := by
  have hl := lsnP_length P n hP
  unfold sealP
  rw [over_get _ _ _ (by rw [put_length, hl]; omega), put_length, if_neg (by omega)]
  unfold lsnP
  rw [over_get _ _ _ (by rw [put_length, hP]; omega), put_length, if_neg (by omega)]
theorem seal_num {P : List UInt8} (hP : P.length = 1024) (n : Nat) {a : Nat} (ha : 12 ≤ a) (hb : a + 2 ≤ 1024) : num2 (sealP P n) a = num2 P a := by
  rw [num2_get _ _ (by rw [sealP_length P n hP]; omega), num2_get _ _ (by omega), seal_get hP n ha, seal_get hP n (by omega)]
theorem seal_slot {P : List UInt8} (hP : P.length = 1024) (n : Nat) {k : Nat} (hk : 18 + 4 * k + 4 ≤ 1024) : slotA (sealP P n) k = slotA P k ∧ slotS (sealP P n) k = slotS P k :=
  ⟨seal_num hP n (by omega) (by omega), seal_num hP n (by omega) (by omega)⟩
theorem seal_right {P : List UInt8} (hP : P.length = 1024) (hV : RightV P) (n : Nat) : RightV (sealP P n) :=
  right_same hV (seal_num hP n (by omega) (by omega)) (seal_num hP n (by omega) (by omega)) (fun k hk => seal_slot hP n (by have := hV.low; have := hV.high; omega))

/-- what a step, but one that spoils, makes of a page -/
theorem doQ_right {P : List UInt8} (hP : P.length = 1024) (hV : RightV P) (s : Stp) : (doQ P s).length = 1024 ∧ RightV (doQ P s) := by
  unfold doQ
  split
  · rename_i hE
    unfold rawE at hE
    unfold rawQ
    by_cases h1 : s.kind = 1
    · rw [if_pos h1] at hE ⊢
      unfold insR; rw [if_pos hE]
      exact ⟨(ins_view hP hV hE).1, ins_right hP hV hE⟩
    rw [if_neg h1] at hE ⊢
    by_cases h2 : s.kind = 2
    · rw [if_pos h2] at hE ⊢
      unfold dropR; rw [if_pos hE]
      obtain ⟨_, _, hz, _⟩ := item_has hE
      exact ⟨(drop_view hP hV hz).1, drop_right hP hV hz⟩
    rw [if_neg h2] at hE ⊢
    by_cases h3 : s.kind = 3
    · rw [if_pos h3] at hE ⊢
      unfold setR; rw [if_pos hE]
      obtain ⟨_, _, hz, hs, hn⟩ := set_has hE
      obtain ⟨v1, v2, v3, v4, v5⟩ := set_view hP hV hz hs hn.symm
      exact ⟨v1, right_same hV (v2 14 (by omega)) (v2 16 (by omega)) v3⟩
    rw [if_neg h3] at hE ⊢
    by_cases h4 : s.kind = 4
    · rw [if_pos h4] at hE ⊢
      have hI := packP_is hP hV
      unfold packR; rw [(right_iff P).2 hV, if_pos rfl]
      exact ⟨hI.len, hI.right hP hV⟩
    rw [if_neg h4] at hE ⊢
    by_cases h6 : s.kind = 6
    · rw [if_pos h6]
      exact ⟨sealP_length _ _ hP, seal_right hP hV _⟩
    · rw [if_neg h6]; exact ⟨hP, hV⟩
  · exact ⟨hP, hV⟩

/-- the page behind the first k steps, none of them one that spoils -/
def runP (P : List UInt8) (fs : List Stp) : List UInt8 := fs.foldl (fun Q s => if s.kind = 5 then Q else doQ Q s) P
theorem runP_succ (P : List UInt8) (fs : List Stp) (k : Nat) (h : k < fs.length) : runP P (fs.take (k + 1)) = if (fs.getD k stp0).kind = 5 then runP P (fs.take k) else doQ (runP P (fs.take k)) (fs.getD k stp0) := by
  unfold runP
  rw [List.take_succ_eq_append_getElem h, List.foldl_append]
  simp [List.getD_eq_getElem?_getD, h]
theorem runP_right {P : List UInt8} (hP : P.length = 1024) (hV : RightV P) (fs : List Stp) : (runP P fs).length = 1024 ∧ RightV (runP P fs) := by
  unfold runP
  induction fs generalizing P with
  | nil => exact ⟨hP, hV⟩
  | cons s fs ih =>
    rw [List.foldl_cons]
    by_cases h5 : s.kind = 5
    · rw [if_pos h5]; exact ih hP hV
    · rw [if_neg h5]
      obtain ⟨a, b⟩ := doQ_right hP hV s
      exact ih a b
theorem init_right : RightV (initP 1) := (right_iff _).1 (by decide +kernel)

end Go.Proofs.Ytgbfeagoadlhmaa
