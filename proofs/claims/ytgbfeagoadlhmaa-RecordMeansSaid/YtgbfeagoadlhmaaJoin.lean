
/-
  Contract of wire.Join.
-/
import Derived.Test.YtgbfeagoadlhmaaWireE
set_option linter.unusedVariables false
set_option linter.unusedSimpArgs false
namespace Go.Proofs.Ytgbfeagoadlhmaa
open Go.RowKit Pl

/-- the slice at A reads as lists of bytes -/
def Bys (w : World) (A : Option Addr) (L : List (List UInt8)) : Prop :=
  L = [] ∨ ∃ b o, A = some ⟨b, o, none⟩ ∧ ∀ i, i < L.length → ∃ Ai ci, w.cell? ⟨b, o + i, none⟩ = some (.slice Ai (L.getD i []).length ci) ∧ By w Ai (L.getD i []) ∧ (L.getD i []).length ≤ ci

theorem Bys.ext {w w' : World} {A : Option Addr} {L : List (List UInt8)} (h : Bys w A L) (hb : Ext w w') : Bys w' A L := by
  rcases h with rfl | ⟨b, o, rfl, hc⟩
  · exact .inl rfl
  · refine .inr ⟨b, o, rfl, fun i hi => ?_⟩
    obtain ⟨Ai, ci, h1, h2, h3⟩ := hc i hi
    exact ⟨Ai, ci, hb.cell h1, h2.ext hb, h3⟩
theorem Bys.at_ {w : World} {A : Option Addr} {L : List (List UInt8)} (h : Bys w A L) {i : Nat} (hi : i < L.length) : ∃ b o, A = some ⟨b, o, none⟩ ∧
    ∃ Ai ci, w.cell? ⟨b, o + i, none⟩ = some (.slice Ai (L.getD i []).length ci) ∧ By w Ai (L.getD i []) ∧ (L.getD i []).length ≤ ci := by
  rcases h with rfl | ⟨b, o, rfl, hc⟩
  · simp at hi
  · exact ⟨b, o, rfl, hc i hi⟩

/-- how many bytes the first j lists have -/
def lenI (L : List (List UInt8)) (j : Nat) : Int := ((L.take j).flatten.length : Int)
theorem take_next (L : List (List UInt8)) (j : Nat) (h : j < L.length) : (L.take (j + 1)).flatten = (L.take j).flatten ++ L.getD j [] := by
  rw [List.take_succ_eq_append_getElem h, List.flatten_append]
  simp [List.getD_eq_getElem?_getD, h]
theorem lenI_zero (L : List (List UInt8)) : lenI L 0 = 0 := by simp [lenI]
theorem lenI_step (L : List (List UInt8)) (j : Nat) (h : j < L.length) : lenI L j + ((L.getD j []).length : Int) = lenI L (j + 1) := by
  unfold lenI; rw [take_next L j h, List.length_append]; omega
theorem lenI_lo (L : List (List UInt8)) (j : Nat) : 0 ≤ lenI L j := by unfold lenI; omega
theorem flat_le (L : List (List UInt8)) (j : Nat) : (L.take j).flatten.length ≤ L.flatten.length := by
  conv => rhs; rw [← List.take_append_drop j L]
  rw [List.flatten_append, List.length_append]; omega
theorem lenI_hi (L : List (List UInt8)) (j : Nat) : lenI L j ≤ (L.flatten.length : Int) := by
  unfold lenI; have := flat_le L j; omega

theorem make8c (k : Nat) (hk : k ≤ 70368744177664) (w : World) :
    (Instr.makeSlice 24 (.int .i64 0) (.int .i64 (k : Int))).run Try.prog w = .ok (.slice (some ⟨w.heap.size, 0, none⟩) 0 k) (w.alloc (.cells (madeCells #[.int .u8 0] k) 5)) := by
  obtain ⟨i0, hi, hz0, hz1, hz2⟩ := info_parts Try.info8
  have h := run_make (P := Try.prog) w 24 5 i0 (.int .u8 0) Try.underlying24 hi hz0 .i64 .i64 0 k (by omega) (by omega) (by rw [hz2]; omega) (by omega)
  simp only [Int.toNat_natCast, hz1, Nat.mul_one, Int.toNat_zero] at h
  exact h
theorem own_made (w : World) (k : Nat) (hk : k ≤ 70368744177664) (B : Nat) (hB : B ≤ w.heap.size) : Own 5 (w.alloc (.cells (madeCells #[.int .u8 0] k) 5)) B (.slice (some ⟨w.heap.size, 0, none⟩) 0 k) [] :=
  World.ownsRow_made w _ k hB (by unfold maxLen; omega) (by rw [size_madeCells]; omega)

set_option maxHeartbeats 800000 in
theorem join_any (A : Option Addr) (L : List (List UInt8)) (c : Nat) (hL : L.length ≤ 70368744177664) (hsz : L.flatten.length ≤ 70368744177664) (w : World) (hb : Bys w A L) :
    Calls Try.prog 38 #[.slice A L.length c] w fun e w' => ∃ v, e = .returned v ∧ Own 5 w' w.heap.size v L.flatten ∧ Ext w w' := by
  generalize hn : L.length = n at *
  have HN := Lib.hid hn
  have HB := Lib.hid hb
  clear hb hn
  go_enter Try.func38, Try.ntmps38
  go_wp2
  go_loop [3, 11] (fun s i => ∃ j : Nat, j ≤ n ∧ i = .int .i64 j ∧ s = .int .i64 (lenI L j)) (fun _ i => n - (intOf i).toNat)
  case atStart => exact ⟨0, Nat.zero_le _, rfl, by rw [lenI_zero]⟩
  case round =>
    obtain ⟨j, hj, rfl, rfl⟩ := hrel
    by_cases hlt : j < n
    · obtain ⟨b, o, rfl, Ai, ci, h1, h2, h3⟩ := HB.out.at_ (i := j) (by rw [HN.out]; exact hlt)
      clear h2 h3
      have b1 := lenI_lo L j
      have b2 := lenI_hi L (j + 1)
      have e1 := lenI_step L j (by rw [HN.out]; exact hlt)
      have b3 : lenI L j + ((L.getD j []).length : Int) ≤ 70368744177664 := by omega
      have HE := Lib.hid e1
      clear e1 b2
      generalize (L.getD j []).length = m at *
      go_wp2
      exact ⟨⟨j + 1, by omega, by go_num, by rw [HE.out]⟩, by simp [intOf]; omega⟩
    · obtain rfl : j = n := by omega
      have hmk := make8c L.flatten.length hsz
      have e0 : lenI L j = (L.flatten.length : Int) := by unfold lenI; rw [List.take_of_length_le (by rw [HN.out]; omega)]
      rw [e0]
      have HM := Lib.hid e0
      clear e0
      generalize hf : L.flatten.length = f at *
      have HF := Lib.hid hf
      clear hf
      go_wp2
      go_loopw [6, 24] (fun v i wr => ∃ k : Nat, k ≤ j ∧ i = .int .i64 k ∧ Own 5 wr w.heap.size v (L.take k).flatten ∧ Ext w wr) (fun _ i _ => j - (intOf i).toNat)
      case atStart => exact ⟨0, Nat.zero_le _, rfl, own_made w f (by omega) _ (Nat.le_refl _), (Ext.refl _).alloc _⟩
      case round =>
        obtain ⟨k, hk, rfl, hO, hE⟩ := hrel
        by_cases hlt2 : k < j
        · obtain ⟨b, o, rfl, Ai, ci, h1, h2, h3⟩ := (HB.out.ext hE).at_ (i := k) (by rw [HN.out]; exact hlt2)
          have hbound : (L.take k).flatten.length + (L.getD k []).length ≤ 70368744177664 := by
            have := flat_le L (k + 1)
            rw [take_next L k (by rw [HN.out]; exact hlt2), List.length_append] at this
            rw [HF.out] at this
            omega
          have HT := Lib.hid (take_next L k (by rw [HN.out]; exact hlt2))
          have H2 := Lib.hid h2
          clear h2 h3
          generalize hm : (L.getD k []).length = m at *
          have HMM := Lib.hid hm
          clear hm
          go_wp2_with (at_builtin; refine wpList_append8 Try.byt rfl _ _ rfl rfl hO _ _ _ rfl (L.getD k []) H2.out HMM.out.symm ?c1 ?c2 ?_)
          case c1 => rw [HMM.out]; exact hbound
          case c2 => exact hE.size
          intro v' w1 hO' hg hl
          have hE' : Ext w w1 := hE.append hg hO
          go_wp2
          exact ⟨⟨k + 1, by omega, by go_num, by rw [HT.out]; exact hO', hE'⟩, by simp [intOf]; omega⟩
        · obtain rfl : k = j := by omega
          go_wp2
          go_ret
          rw [List.take_of_length_le (by rw [HN.out]; omega)] at hO
          exact ⟨_, rfl, hO, hE⟩

end Go.Proofs.Ytgbfeagoadlhmaa
