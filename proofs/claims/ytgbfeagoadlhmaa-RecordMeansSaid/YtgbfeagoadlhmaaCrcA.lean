
/-
  Contracts of crc.shift, crc.nibbles, crc.take.
-/
import Derived.Test.YtgbfeagoadlhmaaRows
import Derived.Test.YtgbfeagoadlhmaaBase
import Derived.Test.YtgbfeagoadlhmaaCrcP
import Derived.Laws.BitsAllLaws
import Derived.Laws.Rows
import Derived.Outline
set_option linter.unusedVariables false
set_option linter.unusedSimpArgs false
namespace Go.Proofs.Ytgbfeagoadlhmaa
open Go.RowKit Pl

theorem xor32 (a b : BitVec 32) : bits .xor .u32 (a.toNat : Int) (b.toNat : Int) = ((a ^^^ b).toNat : Int) := by
  rw [u32_xor_nat _ _ a.isLt b.isLt, BitVec.toNat_xor]
theorem and32 (a b : BitVec 32) : bits .and .u32 (a.toNat : Int) (b.toNat : Int) = ((a &&& b).toNat : Int) := by
  rw [u32_and_nat _ _ a.isLt b.isLt, BitVec.toNat_and]
theorem shr1 (a : BitVec 32) : (a.toNat : Int) / (2 : Int) = ((a >>> 1).toNat : Int) := by
  rw [BitVec.toNat_ushiftRight, Nat.shiftRight_eq_div_pow]; omega
theorem shr4 (a : BitVec 32) : (a.toNat : Int) / (16 : Int) = ((a >>> 4).toNat : Int) := by
  rw [BitVec.toNat_ushiftRight, Nat.shiftRight_eq_div_pow]; omega
theorem low1 (r : BitVec 32) : (bits .and .u32 (r.toNat : Int) 1 != 0) = r.getLsbD 0 := by
  have h : bits .and .u32 (r.toNat : Int) 1 = ((r &&& 1#32).toNat : Int) := and32 r 1#32
  rw [h, BitVec.toNat_and]
  have e : r.getLsbD 0 = decide (r.toNat % 2 = 1) := by rw [BitVec.getLsbD, Nat.testBit_zero]
  rw [e, show (1#32).toNat = 1 from rfl, Nat.and_one_is_mod]
  rcases Nat.mod_two_eq_zero_or_one r.toNat with h | h <;> rw [h] <;> rfl

set_option maxHeartbeats 400000 in
theorem shift_any (r : BitVec 32) (w : World) : Calls Try.prog 110 #[.int .u32 (r.toNat : Int)] w fun e w' => e = .returned (.int .u32 ((sh r).toNat : Int)) ∧ w = w' := by
  have hr := r.isLt
  have H := Lib.hid (low1 r)
  cases hb : r.getLsbD 0 with
  | false =>
    have hs : sh r = r >>> 1 := by unfold sh; rw [hb]; simp
    have ht : (bits .and .u32 (r.toNat : Int) 1 != 0) = false := by rw [H.out, hb]
    have HS := Lib.hid hs
    clear hs hb H
    go_enter Try.func110, Try.ntmps110
    go_wp2
    go_ret
    exact ⟨by rw [HS.out, ← shr1]; rfl, rfl⟩
  | true =>
    have hs : sh r = r >>> 1 ^^^ poly := by unfold sh; rw [hb]; simp
    have ht : (bits .and .u32 (r.toNat : Int) 1 != 0) = true := by rw [H.out, hb]
    have HS := Lib.hid hs
    clear hs hb H
    go_enter Try.func110, Try.ntmps110
    go_wp2
    go_ret
    have h2 : bits .xor .u32 ((r >>> 1).toNat : Int) 2197175160 = ((r >>> 1 ^^^ poly).toNat : Int) := xor32 (r >>> 1) poly
    exact ⟨by rw [HS.out, ← h2, ← shr1]; rfl, rfl⟩

theorem Blk.row {w : World} {g : Nat} {t : TypeId} {cs : Array Value} (h : Blk w g t cs) (cells : Array Value) : Blk (w.setRow g cells) g t cells := setRow_heap w g cs _ t _ h
theorem Blk.rowFar {w : World} {g k : Nat} {t : TypeId} {cs : Array Value} (h : Blk w g t cs) (cells : Array Value) (hk : g ≠ k) : Blk (w.setRow k cells) g t cs := (setRow_other w k g cells hk).trans h
theorem Ext.setRow {a w : World} (h : Ext a w) {g : Nat} (hg : a.heap.size ≤ g) (cells : Array Value) : Ext a (w.setRow g cells) :=
  ⟨(show _ = _ from Below.os (w' := w) h), Below.tape (w' := w) h, Below.output (w' := w) h, by rw [size_setRow]; exact h.size, fun k hk => (setRow_other w g k cells (by omega)).trans (h.block hk)⟩

/-- a register's value -/
def v32 (r : BitVec 32) : Value := .int .u32 (r.toNat : Int)
/-- what becomes of four bits -/
def nib (i : Nat) : BitVec 32 := its 4 (BitVec.ofNat 32 i)
/-- the table of them; the first k are laid -/
def nibTo (k : Nat) : Array Value := ((List.range 16).map fun i => if i < k then v32 (nib i) else .int .u32 0).toArray
def nibs : Array Value := ((List.range 16).map fun i => v32 (nib i)).toArray
theorem nibs_get (i : Nat) (h : i < 16) : nibs[i]? = some (.int .u32 ((nib i).toNat : Int)) := by simp [nibs, h, v32]

theorem xor_byte (r : BitVec 32) (l : List UInt8) (j : Nat) : bits .xor .u32 (r.toNat : Int) (at8 l j) = ((r ^^^ b32 (l.getD j 0)).toNat : Int) := by
  have h := xor32 r (b32 (l.getD j 0))
  have e : ((b32 (l.getD j 0)).toNat : Int) = at8 l j := by
    have := (l.getD j 0).toNat_lt
    unfold b32 at8
    rw [BitVec.toNat_ofNat, Nat.mod_eq_of_lt (by omega)]
  rw [← h, e]
theorem reg_step (r : BitVec 32) (l : List UInt8) (j : Nat) (h : j < l.length) : reg r (l.take (j + 1)) = its 8 (reg r (l.take j) ^^^ b32 (l.getD j 0)) := by
  rw [at8_take l j h, reg_snoc]; rfl
theorem low4 (y : BitVec 32) : bits .and .u32 (y.toNat : Int) 15 = ((y &&& 15#32).toNat : Int) := and32 y 15#32
theorem low4_lt (y : BitVec 32) : (y &&& 15#32).toNat < 16 := by
  rw [BitVec.toNat_and]
  exact Nat.lt_of_le_of_lt Nat.and_le_right (by decide)
theorem nib_step (k : Nat) (x : BitVec 32) : its (4 * (k + 1)) x = (its (4 * k) x) >>> 4 ^^^ nib ((its (4 * k) x) &&& 15#32).toNat := by
  rw [Nat.mul_add, its_add, its_low]
  unfold nib
  rw [BitVec.ofNat_toNat, BitVec.setWidth_eq]

set_option maxHeartbeats 800000 in
theorem take_any (r : BitVec 32) (A : Option Addr) (l : List UInt8) (c : Nat) (hl : l.length ≤ 9223372036854775807) (w : World) (hb : By w A l) :
    Calls Try.prog 99 #[.int .u32 (r.toNat : Int), .agg nibs, .slice A l.length c] w fun e w' => e = .returned (.int .u32 ((reg r l).toNat : Int)) ∧ Ext w w' := by
  generalize hn : l.length = n at *
  have HN := Lib.hid hn
  have HB := Lib.hid hb
  clear hb hn
  have hE := (Ext.refl w).alloc (.cells nibs 141)
  have hT := Blk.new w 141 nibs
  have HT := Lib.hid hT
  clear hT
  go_enter Try.func99, Try.ntmps99
  go_wp2
  go_loop [0, 12] (fun s i => ∃ j : Nat, j ≤ n ∧ i = .int .i64 j ∧ s = .int .u32 ((reg r (l.take j)).toNat : Int)) (fun _ i => n - (intOf i).toNat)
  case atStart => exact ⟨0, Nat.zero_le _, rfl, rfl⟩
  case round =>
    obtain ⟨j, hj, rfl, rfl⟩ := hrel
    by_cases hlt : j < n
    · obtain ⟨b, o, rfl, hc⟩ := HB.out.at_ (by rw [HN.out]; omega)
      have hv := hc j (by rw [HN.out]; exact hlt)
      have hvE : (w.alloc (.cells nibs 141)).cell? ⟨b, o + j, none⟩ = some (.int .u8 (at8 l j)) := hE.cell hv
      have b1 := at8_lo l j
      have b2 := at8_hi l j
      clear hc hv
      have hx := xor_byte (reg r (l.take j)) l j
      have HX := Lib.hid hx
      have hs := reg_step r l j (by rw [HN.out]; exact hlt)
      have HS := Lib.hid hs
      clear hx hs
      generalize reg r (l.take j) = x0 at *
      go_wp2
      go_loop [0, 20] (fun s i => ∃ k : Nat, k ≤ 2 ∧ i = .int .i64 k ∧ s = .int .u32 ((its (4 * k) (x0 ^^^ b32 (l.getD j 0))).toNat : Int)) (fun _ i => 2 - (intOf i).toNat)
      case atStart => exact ⟨0, by omega, rfl, by rw [HX.out]; rfl⟩
      case round =>
        obtain ⟨k, hk, rfl, rfl⟩ := hrel
        by_cases hlt2 : k < 2
        · have hn4 := nib_step k (x0 ^^^ b32 (l.getD j 0))
          generalize its (4 * k) (x0 ^^^ b32 (l.getD j 0)) = y at *
          have hlow := low4 y
          have hk16 := low4_lt y
          generalize (y &&& 15#32).toNat = q at *
          have hcell : (w.alloc (.cells nibs 141)).cell? ⟨w.heap.size, q, none⟩ = some (.int .u32 ((nib q).toNat : Int)) := by rw [HT.out.cell]; exact nibs_get q hk16
          have HN4 := Lib.hid hn4
          clear hn4
          go_wp2
          exact ⟨⟨k + 1, by omega, by go_num, by rw [shr4, xor32, HN4.out]⟩, by simp [intOf]; omega⟩
        · obtain rfl : k = 2 := by omega
          go_wp2
          exact ⟨⟨j + 1, by omega, by go_num, by rw [HS.out]⟩, by simp [intOf]; omega⟩
    · obtain rfl : j = n := by omega
      go_wp2
      go_ret
      exact ⟨by rw [List.take_of_length_le (by rw [HN.out]; omega)]; rfl, hE⟩

theorem nibTo_zero : nibTo 0 = #[.int .u32 0, .int .u32 0, .int .u32 0, .int .u32 0, .int .u32 0, .int .u32 0, .int .u32 0, .int .u32 0, .int .u32 0, .int .u32 0, .int .u32 0, .int .u32 0, .int .u32 0, .int .u32 0, .int .u32 0, .int .u32 0] := by
  simp [nibTo, List.range_succ]
theorem nibTo_size (k : Nat) : (nibTo k).size = 16 := by simp [nibTo]
theorem nibTo_step (k : Nat) : (nibTo k).setIfInBounds k (v32 (nib k)) = nibTo (k + 1) := by
  apply Array.ext
  · simp [nibTo]
  · intro i h1 h2
    simp [nibTo] at h1 h2
    rw [Array.getElem_setIfInBounds (by simpa [nibTo] using h1)]
    simp only [nibTo, List.getElem_toArray, List.getElem_map, List.getElem_range]
    by_cases hik : k = i
    · subst hik; simp
    · simp only [hik, if_false]
      have : i < k ↔ i < k + 1 := by omega
      simp [this]
theorem nibTo_all : nibTo 16 = nibs := by
  unfold nibTo nibs
  rw [List.map_congr_left]
  intro i hi
  simp at hi
  simp [hi]
theorem nibs_size : nibs.size = 16 := by simp [nibs]
theorem nibs_one : nibs.all (·.oneCell') = true := by
  simp [nibs, v32, Value.oneCell']

set_option maxHeartbeats 800000 in
theorem nibbles_any (w : World) : Calls Try.prog 98 #[] w fun e w' => e = .returned (.agg nibs) ∧ Ext w w' := by
  go_enter Try.func98, Try.ntmps98
  go_wp2
  rw [← nibTo_zero]
  go_loopw [4] (fun i wr => ∃ j : Nat, j ≤ 16 ∧ i = .int .i64 j ∧ Blk wr w.heap.size 141 (nibTo 0) ∧ Blk wr (w.heap.size + 1) 141 (nibTo j) ∧ Ext w wr) (fun i _ => 16 - (intOf i).toNat)
  case atStart => exact ⟨0, Nat.zero_le _, rfl, (Blk.new _ _ _).alloc _, (by have h := Blk.new (w.alloc (.cells (nibTo 0) 141)) 141 (nibTo 0); rw [World.size_alloc] at h; exact h), ((Ext.refl w).alloc _).alloc _⟩
  case round =>
    obtain ⟨j, hj, rfl, hB0, hB, hE⟩ := hrel
    by_cases hlt : j < 16
    · obtain ⟨v, hv⟩ : ∃ v, wr.cell? ⟨w.heap.size + 1, j, none⟩ = some v := by
        rw [hB.cell]
        exact ⟨_, Array.getElem?_eq_getElem (by rw [nibTo_size]; exact hlt)⟩
      have hf := hB.frozen j
      have HB := Lib.hid hB
      have HB0 := Lib.hid hB0
      have HE := Lib.hid hE
      clear hB hB0 hE
      have hd : decide ((j : Int) < 16) = true := by simp; omega
      go_wp2
      go_loop [3, 9] (fun s i => ∃ k : Nat, k ≤ 4 ∧ i = .int .i64 k ∧ s = .int .u32 ((its k (BitVec.ofNat 32 j)).toNat : Int)) (fun _ i => 4 - (intOf i).toNat)
      case atStart => exact ⟨0, Nat.zero_le _, rfl, by simp [its]; omega⟩
      case round =>
        obtain ⟨k, hk, rfl, rfl⟩ := hrel
        by_cases hlt2 : k < 4
        · have hs := its_succ k (BitVec.ofNat 32 j)
          have HS := Lib.hid hs
          clear hs
          go_wp2_with (go_at_call 110; refine (shift_any _ _).mono ?_; rintro e w' ⟨rfl, rfl⟩)
          exact ⟨⟨k + 1, by omega, by go_num, by rw [HS.out]⟩, by simp [intOf]; omega⟩
        · obtain rfl : k = 4 := by omega
          go_wp2
          refine ⟨⟨j + 1, by omega, by go_num, HB0.out.far (by simp) _, ?_, HE.out.setCell (by simp) _⟩, by simp [intOf]; omega⟩
          rw [← nibTo_step]
          exact HB.out.set _ _
    · obtain rfl : j = 16 := by omega
      rw [nibTo_all] at hB
      have HB := Lib.hid hB
      have HB0 := Lib.hid hB0
      have HE := Lib.hid hE
      clear hB hB0 hE
      go_wp2_with (first | (refine wpList_load_row rfl 141 _ rfl _ rfl _ _ _ _ HB.out Try.underlying141 rfl (by rw [nibs_size]; kernel_rfl) ?_) | (refine wpList_store_row rfl 141 _ _ rfl _ _ rfl rfl _ _ HB0.out (by rw [nibs_size]; kernel_rfl) (by rw [nibs_size, nibTo_size]) nibs_one ?_))
      refine bodyPost_ret (v := .agg nibs) (results_cell_row Try.results98 _ _ w.heap.size _ nibs (0, 0) _ rfl (HB0.out.row nibs) Try.underlying141 rfl (by rw [nibs_size]; kernel_rfl)) rfl ⟨rfl, HE.out.setRow (Nat.le_refl _) _⟩

end Go.Proofs.Ytgbfeagoadlhmaa
