/-
  Contract of the reference's Unhex.
-/
import Derived.Test.YtojgjmkkcadabaaHexR
import Derived.Test.YtojgjmkkcadabaaHexC
set_option linter.unusedVariables false
set_option linter.unusedSimpArgs false
namespace Go.Proofs.Ytojgjmkkcadabaa
open Go.RowKit Pl

def outA (t : List UInt8) (h i : Nat) : Array Value := ((List.range h).map fun j => Value.int .u8 ((outC t i j : Nat) : Int)).toArray
theorem outA_size (t : List UInt8) (h i : Nat) : (outA t h i).size = h := by simp [outA]
theorem outA_get (t : List UInt8) (h i j : Nat) (hj : j < h) : (outA t h i)[j]? = some (.int .u8 ((outC t i j : Nat) : Int)) := by simp [outA, hj]
theorem outA_zero (t : List UInt8) (h : Nat) : madeCells #[.int .u8 0] h = outA t h 0 := by
  apply Array.toList_inj.1
  rw [toList_madeCells_one]
  simp only [outA, List.toList_toArray]
  rw [List.map_congr_left (g := fun _ => Value.int .u8 0) (by intro i _; simp [outC])]
  exact (List.map_const' .. |>.trans (by simp)).symm
theorem outA_step (t : List UInt8) (h i : Nat) : (outA t h i).setIfInBounds (i / 2) (.int .u8 ((outC t (i + 1) (i / 2) : Nat) : Int)) = outA t h (i + 1) := by
  apply Array.ext
  · simp [outA]
  · intro j h1 h2
    simp [outA] at h1 h2
    rw [Array.getElem_setIfInBounds (by simpa [outA] using h1)]
    simp only [outA, List.getElem_toArray, List.getElem_map, List.getElem_range]
    by_cases hij : i / 2 = j
    · subst hij; simp
    · simp only [hij, if_false]
      rw [outC_other t i j (fun e => hij e.symm)]
theorem outA_skip (t : List UInt8) (h i : Nat) (hi : h ≤ i / 2) : outA t h i = outA t h (i + 1) := by
  unfold outA
  rw [List.map_congr_left]
  intro j hj
  simp at hj
  rw [outC_other t i j (by omega)]
theorem outA_all (t : List UInt8) (h i : Nat) : outA t h i = cells8 ((List.range h).map fun j => UInt8.ofNat (outC t i j)) := by
  unfold outA cells8
  rw [List.map_map]
  congr 1
  apply List.map_congr_left
  intro j hj
  simp only [Function.comp, u8]
  rw [UInt8.toNat_ofNat', Nat.mod_eq_of_lt (outC_lt t i j)]

def RUnhexPost (t : List UInt8) (w : World) (e : Ending) (w' : World) : Prop :=
  (∀ l, unhex t = some l → ∃ g, e = .returned (.tuple #[.slice (some ⟨g, 0, none⟩) l.length l.length, .bool true]) ∧ Blk w' g 5 (cells8 l)) ∧ (unhex t = none → e = .returned (.tuple #[.slice none 0 0, .bool false])) ∧ Ext w w'
theorem RUnhexPost.no {t : List UInt8} {w w' : World} (h : unhex t = none) (hE : Ext w w') : RUnhexPost t w (.returned (.tuple #[.slice none 0 0, .bool false])) w' := ⟨fun l hl => (by rw [h] at hl; cases hl), fun _ => rfl, hE⟩
theorem RUnhexPost.yes {t l : List UInt8} {w w' : World} {g n : Nat} (h : unhex t = some l) (hl : l.length = n) (hB : Blk w' g 5 (cells8 l)) (hE : Ext w w') : RUnhexPost t w (.returned (.tuple #[.slice (some ⟨g, 0, none⟩) n n, .bool true])) w' := by
  subst hl
  exact ⟨fun l' hl => (by rw [h] at hl; cases hl; exact ⟨g, rfl, hB⟩), fun hn => (by rw [h] at hn; cases hn), hE⟩

set_option maxHeartbeats 4000000 in
set_option maxRecDepth 100000 in
theorem runhex_any (t : List UInt8) (hl : t.length ≤ 18000) (w : World) : Calls Try.prog 39 #[.string ⟨t.toArray⟩] w (RUnhexPost t w) := by
  generalize hn : t.length = n at *
  have HN := Lib.hid hn
  clear hn
  have hsz : (ByteArray.mk t.toArray).size = n := by rw [← HN.out]; simp [ByteArray.size]
  have hmk := fun w => make8 (n / 2) (by omega) w
  have hmk2 : ∀ w, (Instr.makeSlice 23 (.int .i64 ((n : Int) / 2)) (.int .i64 ((n : Int) / 2))).run Try.prog w = .ok (.slice (some ⟨w.heap.size, 0, none⟩) (n / 2) (n / 2)) (w.alloc (.cells (madeCells #[.int .u8 0] (n / 2)) 5)) := fun w => hmk w
  clear hmk
  go_enter Try.func39, Try.ntmps39
  go_wp2_with fail
  clear hmk2
  rw [outA_zero t]
  go_loopw [5] (fun i wr => ∃ k : Nat, k ≤ n ∧ i = .int .i64 k ∧ (∀ j, j < k → spell (t.getD j 0) ≠ none) ∧ Blk wr w.heap.size 5 (outA t (n / 2) k) ∧ Ext w wr) (fun i _ => n - (intOf i).toNat)
  case atStart => exact ⟨0, Nat.zero_le _, rfl, fun j hj => by omega, Blk.new _ _ _, (Ext.refl w).alloc _⟩
  case round =>
    obtain ⟨k, hk, rfl, hno, hB, hE⟩ := hrel
    have HNO := Lib.hid hno
    have HB := Lib.hid hB
    have HE := Lib.hid hE
    clear hno hB hE
    by_cases hlt : k < n
    · have hkd : decide ((k : Int) < (n : Int)) = true := by simp; omega
      have ix := fun w => index_str t k (by rw [HN.out]; exact hlt) w
      have hX : at8 t k = ((t.getD k 0).toNat : Int) := rfl
      rw [hX] at ix
      clear hX
      have HBAD := Lib.hid (unhex_bad t k (by rw [HN.out]; exact hlt))
      have HHERE := Lib.hid (outC_here t k)
      have hout := outC_lt t k (k / 2)
      have hout2 := outC_lt t (k + 1) (k / 2)
      have HSK := Lib.hid (outA_skip t (n / 2) k)
      have HST := Lib.hid (outA_step t (n / 2) k)
      have HNX : Hid (spell (t.getD k 0) ≠ none → ∀ j, j < k + 1 → spell (t.getD j 0) ≠ none) := Lib.hid (fun h j hj => by
        by_cases hjk : j < k
        · exact HNO.out j hjk
        · obtain rfl : j = k := by omega
          exact h)
      generalize t.getD k 0 = x at *
      cases hs : spell x with
      | none =>
        have hsi := spI_none hs
        have HUN := Lib.hid (HBAD.out hs)
        clear hs
        go_wp2_with (go_at_call 57; refine (spelled_any _ _).mono ?_; rintro e w' ⟨rfl, rfl⟩)
        go_ret2
        exact RUnhexPost.no HUN.out HE.out
      | some q =>
        have hsi := spI_some hs
        have hq := spell_lt hs
        have hspq := sp_some hs
        have HNX2 := Lib.hid (HNX.out (by rw [hs]; simp))
        rw [hspq] at HHERE
        clear hs hspq
        by_cases hin : k / 2 < n / 2
        · have hind : decide ((k : Int) / 2 < ((n / 2 : Nat) : Int)) = true := by simp; omega
          have hv : wr.cell? ⟨w.heap.size, k / 2, none⟩ = some (.int .u8 ((outC t k (k / 2) : Nat) : Int)) := by rw [HB.out.cell]; exact outA_get _ _ _ _ hin
          have hf := HB.out.frozen (k / 2)
          generalize hoc : outC t k (k / 2) = oc at *
          clear hoc
          go_wp2_with (go_at_call 57; refine (spelled_any _ _).mono ?_; rintro e w' ⟨rfl, rfl⟩; rw [hsi])
          have e1 := HHERE.out
          refine ⟨⟨k + 1, by omega, by go_num, HNX2.out, ?_, HE.out.setCell (Nat.le_refl _) _⟩, by simp [intOf]; omega⟩
          rw [show ((oc : Int) * 16 % 256 + (q : Int)) = ((outC t (k + 1) (k / 2) : Nat) : Int) by omega, ← HST.out]
          exact HB.out.set _ _
        · have hind : decide ((k : Int) / 2 < ((n / 2 : Nat) : Int)) = false := by simp; omega
          have hind2 : decide ((k : Int) / 2 < (n : Int) / 2) = false := by simp; omega
          go_wp2_with (go_at_call 57; refine (spelled_any _ _).mono ?_; rintro e w' ⟨rfl, rfl⟩; rw [hsi])
          refine ⟨⟨k + 1, by omega, by go_num, HNX2.out, ?_, HE.out⟩, by simp [intOf]; omega⟩
          rw [← HSK.out (by omega)]
          exact HB.out
    · obtain rfl : k = n := by omega
      by_cases hodd : k % 2 = 1
      · have hpar : ((k : Int) % 2 == 1) = true := by simp; omega
        have HUO := Lib.hid (unhex_odd t (by rw [HN.out]; exact hodd))
        go_wp2_with fail
        go_ret2
        exact RUnhexPost.no HUO.out HE.out
      · have hpar : ((k : Int) % 2 == 1) = false := by simp; omega
        have HUA := Lib.hid (unhex_all t (by rw [HN.out]; omega) (by rw [HN.out]; exact HNO.out))
        rw [HN.out] at HUA
        go_wp2_with fail
        go_ret2
        exact RUnhexPost.yes HUA.out (by simp) (by rw [← outA_all]; exact HB.out) HE.out

end Go.Proofs.Ytojgjmkkcadabaa
