/-
  Contracts of crc.times, oneByte, twice, zeros, Zeros, Join.
-/
import Derived.Test.YtojgjmkkcadabaaCrcB
import Derived.Test.YtojgjmkkcadabaaEager
set_option linter.unusedVariables false
set_option linter.unusedSimpArgs false
namespace Go.Proofs.Ytojgjmkkcadabaa
open Go.RowKit Pl

/-- the table of what n shifts make of each bit; the first k are laid -/
def sqTo (n k : Nat) : Array Value := ((List.range 32).map fun i => if i < k then v32 (img n i) else .int .u32 0).toArray
def sq (n : Nat) : Array Value := ((List.range 32).map fun i => v32 (img n i)).toArray
theorem sq_get (n i : Nat) (h : i < 32) : (sq n)[i]? = some (.int .u32 ((img n i).toNat : Int)) := by simp [sq, h, v32]
theorem sq_size (n : Nat) : (sq n).size = 32 := by simp [sq]
theorem sq_one (n : Nat) : (sq n).all (·.oneCell') = true := by
  simp [sq, v32, Value.oneCell']
theorem sqTo_size (n k : Nat) : (sqTo n k).size = 32 := by simp [sqTo]
theorem sqTo_step (n k : Nat) : (sqTo n k).setIfInBounds k (v32 (img n k)) = sqTo n (k + 1) := by
  apply Array.ext
  · simp [sqTo]
  · intro i h1 h2
    simp [sqTo] at h1 h2
    rw [Array.getElem_setIfInBounds (by simpa [sqTo] using h1)]
    simp only [sqTo, List.getElem_toArray, List.getElem_map, List.getElem_range]
    by_cases hik : k = i
    · subst hik; simp
    · simp only [hik, if_false]
      have : i < k ↔ i < k + 1 := by omega
      simp [this]
theorem sqTo_all (n : Nat) : sqTo n 32 = sq n := by
  unfold sqTo sq
  rw [List.map_congr_left]
  intro i hi
  simp at hi
  simp [hi]
theorem sqTo_zero (n : Nat) : sqTo n 0 = #[.int .u32 0, .int .u32 0, .int .u32 0, .int .u32 0, .int .u32 0, .int .u32 0, .int .u32 0, .int .u32 0, .int .u32 0, .int .u32 0, .int .u32 0, .int .u32 0, .int .u32 0, .int .u32 0, .int .u32 0, .int .u32 0,
    .int .u32 0, .int .u32 0, .int .u32 0, .int .u32 0, .int .u32 0, .int .u32 0, .int .u32 0, .int .u32 0, .int .u32 0, .int .u32 0, .int .u32 0, .int .u32 0, .int .u32 0, .int .u32 0, .int .u32 0, .int .u32 0] := by
  simp [sqTo, List.range_succ]

set_option maxHeartbeats 800000 in
theorem times_any (n : Nat) (x : BitVec 32) (w : World) : Calls Try.prog 65 #[.agg (sq n), .int .u32 (x.toNat : Int)] w fun e w' => e = .returned (.int .u32 ((its n x).toNat : Int)) ∧ Ext w w' := by
  have hE := (Ext.refl w).alloc (.cells (sq n) 92)
  have HT := Lib.hid (Blk.new w 92 (sq n))
  go_enter Try.func65, Try.ntmps65
  go_wp2
  go_loop [1, 5, 6] (fun r p i => ∃ k : Nat, k ≤ 32 ∧ i = .int .i64 k ∧ r = .int .u32 ((x >>> k).toNat : Int) ∧ p = .int .u32 ((its n (low x k)).toNat : Int)) (fun _ _ i => 32 - (intOf i).toNat)
  case atStart => exact ⟨0, Nat.zero_le _, rfl, by simp, by show _ = Value.int _ ((its n 0#32).toNat : Int); rw [its_zero]; rfl⟩
  case round =>
    obtain ⟨k, hk, rfl, rfl, rfl⟩ := hrel
    by_cases hz : x >>> k = 0#32
    · have h0 : (((x >>> k).toNat : Int) != 0) = false := by rw [hz]; rfl
      have HZ := Lib.hid (low_all x k hz)
      clear hz
      generalize x >>> k = y at *
      go_wp2
      go_ret
      exact ⟨by rw [HZ.out]; rfl, hE⟩
    · have hk32 : k < 32 := by
        rcases Nat.lt_or_ge k 32 with h | h
        · exact h
        · exact absurd (shr_out x k h) hz
      have h0 : (((x >>> k).toNat : Int) != 0) = true := by
        rw [bne_iff_ne]
        intro e
        exact hz (BitVec.eq_of_toNat_eq (by rw [show (0#32).toNat = 0 from rfl]; omega))
      have hl := low1 (x >>> k)
      rw [BitVec.getLsbD_ushiftRight, Nat.add_zero] at hl
      have HS := Lib.hid (its_low_step n x k)
      have HX : Hid ((x >>> (k + 1)) = (x >>> k) >>> 1) := Lib.hid (BitVec.shiftRight_add x k 1)
      clear hz
      have hcell : (w.alloc (.cells (sq n) 92)).cell? ⟨w.heap.size, k, none⟩ = some (.int .u32 ((img n k).toNat : Int)) := by rw [HT.out.cell]; exact sq_get n k hk32
      generalize x >>> k = y at *
      have hy := y.isLt
      cases hb : x.getLsbD k with
      | false =>
        rw [hb] at hl HS
        clear hb
        go_wp2
        exact ⟨⟨k + 1, by omega, by go_num, by rw [HX.out, ← shr1], by rw [HS.out]; simp⟩, by simp [intOf]; omega⟩
      | true =>
        rw [hb] at hl HS
        clear hb
        go_wp2
        exact ⟨⟨k + 1, by omega, by go_num, by rw [HX.out, ← shr1], by rw [HS.out, if_pos rfl, ← xor32]⟩, by simp [intOf]; omega⟩

theorem shl_one (j : Nat) : ((1#32 <<< j).toNat : Int) = (2 : Int) ^ j % 4294967296 := by
  rw [BitVec.toNat_shiftLeft, Nat.shiftLeft_eq]
  simp

theorem load_row {P : Program} {w : World} {g : Nat} {t ty : TypeId} {cs : Array Value} {d : TypeDesc} (h : Blk w g t cs) (hu : P.underlying ty = some d) (hd : (match d with | .struct _ | .array _ _ => true | _ => false) = true) (hi : (P.info? ty).map (·.size) = some cs.size) :
    (Instr.loadAt ty (.pointer (some ⟨g, 0, none⟩))).run P w = .ok (.agg cs) w := by
  simp only [Instr.loadAt, Instr.sureAddr, Sem.run_bind, Sem.run_pure, Result.andThen_ok, run_loadVar_row w g t ty cs (0, 0) d h hu hd hi]
theorem load_u32 {w : World} {p : Addr} {x : Int} (h : w.cell? p = some (.int .u32 x)) : (Instr.loadAt 66 (.pointer (some p))).run Try.prog w = .ok (.int .u32 x) w := by
  simp [go_sem, h]
theorem Blk.below {w w' : World} {B g : Nat} {t : TypeId} {cs : Array Value} (h : Blk w g t cs) (hb : Below B w w') (hg : g < B) : Blk w' g t cs := (Below.block hb g hg).trans h

set_option maxHeartbeats 800000 in
theorem oneByte_any (w : World) : Calls Try.prog 64 #[] w fun e w' => e = .returned (.agg (sq 8)) ∧ Ext w w' := by
  go_enter Try.func64, Try.ntmps64
  go_wp2
  rw [← sqTo_zero 8]
  go_loopw [4] (fun i wr => ∃ j : Nat, j ≤ 32 ∧ i = .int .i64 j ∧ Blk wr w.heap.size 92 (sqTo 8 0) ∧ Blk wr (w.heap.size + 1) 92 (sqTo 8 j) ∧ Ext w wr) (fun i _ => 32 - (intOf i).toNat)
  case atStart => exact ⟨0, Nat.zero_le _, rfl, (Blk.new _ _ _).alloc _, (by have h := Blk.new (w.alloc (.cells (sqTo 8 0) 92)) 92 (sqTo 8 0); rw [World.size_alloc] at h; exact h), ((Ext.refl w).alloc _).alloc _⟩
  case round =>
    obtain ⟨j, hj, rfl, hB0, hB, hE⟩ := hrel
    by_cases hlt : j < 32
    · obtain ⟨v, hv⟩ : ∃ v, wr.cell? ⟨w.heap.size + 1, j, none⟩ = some v := by
        rw [hB.cell]
        exact ⟨_, Array.getElem?_eq_getElem (by rw [sqTo_size]; exact hlt)⟩
      have hf := hB.frozen j
      have HB := Lib.hid hB
      have HB0 := Lib.hid hB0
      have HE := Lib.hid hE
      clear hB hB0 hE
      have hd : decide ((j : Int) < 32) = true := by simp; omega
      go_wp2
      go_loop [3, 9] (fun s i => ∃ k : Nat, k ≤ 8 ∧ i = .int .i64 k ∧ s = .int .u32 ((its k (1#32 <<< j)).toNat : Int)) (fun _ i => 8 - (intOf i).toNat)
      case atStart => exact ⟨0, Nat.zero_le _, rfl, by rw [← shl_one]; rfl⟩
      case round =>
        obtain ⟨k, hk, rfl, rfl⟩ := hrel
        by_cases hlt2 : k < 8
        · have hs := its_succ k (1#32 <<< j)
          have HS := Lib.hid hs
          clear hs
          go_wp2_with (go_at_call 63; refine (shift_any _ _).mono ?_; rintro e w' ⟨rfl, rfl⟩)
          exact ⟨⟨k + 1, by omega, by go_num, by rw [HS.out]⟩, by simp [intOf]; omega⟩
        · obtain rfl : k = 8 := by omega
          go_wp2
          refine ⟨⟨j + 1, by omega, by go_num, HB0.out.far (by simp) _, ?_, HE.out.setCell (by simp) _⟩, by simp [intOf]; omega⟩
          rw [← sqTo_step]
          exact HB.out.set _ _
    · obtain rfl : j = 32 := by omega
      rw [sqTo_all] at hB
      have HB := Lib.hid hB
      have HB0 := Lib.hid hB0
      have HE := Lib.hid hE
      clear hB hB0 hE
      go_wp2_with (first | (refine wpList_load_row rfl 92 _ rfl _ rfl _ _ _ _ HB.out Try.underlying92 rfl (by rw [sq_size]; kernel_rfl) ?_) | (refine wpList_store_row rfl 92 _ _ rfl _ _ rfl rfl _ _ HB0.out (by rw [sq_size]; kernel_rfl) (by rw [sq_size, sqTo_size]) (sq_one _) ?_))
      refine bodyPost_ret (v := .agg (sq 8)) (results_cell_row Try.results64 _ _ w.heap.size _ (sq 8) (0, 0) _ rfl (HB0.out.row (sq 8)) Try.underlying92 rfl (by rw [sq_size]; kernel_rfl)) rfl ⟨rfl, HE.out.setRow (Nat.le_refl _) _⟩

set_option maxHeartbeats 800000 in
theorem twice_any (n : Nat) (w : World) : Calls Try.prog 66 #[.agg (sq n)] w fun e w' => e = .returned (.agg (sq (2 * n))) ∧ Ext w w' := by
  go_enter Try.func66, Try.ntmps66
  go_wp2
  rw [← sqTo_zero (2 * n)]
  go_loopw [5] (fun i wr => ∃ j : Nat, j ≤ 32 ∧ i = .int .i64 j ∧ Blk wr w.heap.size 92 (sq n) ∧ Blk wr (w.heap.size + 1) 92 (sqTo (2 * n) 0) ∧ Blk wr (w.heap.size + 2) 92 (sqTo (2 * n) j) ∧ Ext w wr) (fun i _ => 32 - (intOf i).toNat)
  case atStart => exact ⟨0, Nat.zero_le _, rfl, ((Blk.new _ _ _).alloc _).alloc _, (by have h := (Blk.new (w.alloc (.cells (sq n) 92)) 92 (sqTo (2 * n) 0)).alloc (.cells (sqTo (2 * n) 0) 92); rw [World.size_alloc] at h; exact h), (by have h := Blk.new ((w.alloc (.cells (sq n) 92)).alloc (.cells (sqTo (2 * n) 0) 92)) 92 (sqTo (2 * n) 0); rw [World.size_alloc, World.size_alloc] at h; exact h), (((Ext.refl w).alloc _).alloc _).alloc _⟩
  case round =>
    obtain ⟨j, hj, rfl, hB0, hB1, hB, hE⟩ := hrel
    have hsz := hB.lt
    by_cases hlt : j < 32
    · have hd : decide ((j : Int) < 32) = true := by simp; omega
      have HB := Lib.hid hB
      have HB0 := Lib.hid hB0
      have HB1 := Lib.hid hB1
      have HE := Lib.hid hE
      clear hB hB0 hB1 hE
      have hc0 : wr.cell? ⟨w.heap.size, j, none⟩ = some (.int .u32 ((img n j).toNat : Int)) := by rw [HB0.out.cell]; exact sq_get n j hlt
      go_wp2_with fail
      refine wp_eager (below_pre (w.heap.size + 2)) (n := 8) (by kernel_rfl) (by kernel_rfl) ?_
      refine Eg.batchK (below_pre (w.heap.size + 2)) (by intro c a d v w h; cases d <;> exact h) (by kernel_rfl) (n := 5) [0, 2, 3] [] _ (by kernel_rfl) (fun K hK => ?_); (simp only [pickOps, List.getElem?_toArray, List.getElem?_cons_zero, List.getElem?_cons_succ, Option.toList_some, List.cons_append, List.nil_append]); (repeat (first | go_big_quiet_step (fail) | quiet_step (fail))); refine wpQuiet_nil (hK _ ?_); clear hK K
      (refine Eg.read (below_pre (w.heap.size + 2)) (by intro c a d v w h; cases d <;> exact h) (by kernel_rfl) (i := 1) (n := 4) (l := [0, 2, 3]) rfl (by kernel_rfl) (by kernel_rfl) rfl ⟨_, fun w' hR => load_run rfl (load_row (Blk.below (B := w.heap.size + 2) (w := wr.drew) HB0.out.drew hR (by omega)) Try.underlying92 rfl (by rw [sq_size]; kernel_rfl)), ?_⟩); (simp only [Act.put, List.setIfInBounds_toArray])
      (refine Eg.read (below_pre (w.heap.size + 2)) (by intro c a d v w h; cases d <;> exact h) (by kernel_rfl) (i := 4) (n := 3) (l := [0, 2, 3, 1]) rfl (by kernel_rfl) (by kernel_rfl) rfl ⟨_, fun w' hR => load_run rfl (load_u32 ((Below.cell (B := w.heap.size + 2) (w := wr.drew) hR (p := ⟨w.heap.size, j, none⟩) (by show w.heap.size < _; omega)).trans hc0)), ?_⟩); (simp only [Act.put, List.setIfInBounds_toArray])
      refine Eg.act (below_pre (w.heap.size + 2)) (i := 5) (n := 2) (l := [0, 2, 3, 1, 4]) rfl (by kernel_rfl) ?_
      go_wp2_with fail
      refine (times_any n _ _).mono ?_
      rintro e w2 ⟨rfl, hE2⟩
      go_wp2_with fail
      refine ⟨Below.mono hE2 (by show _ ≤ wr.heap.size; omega), ?_⟩
      have HB2 := Lib.hid (Blk.ext HB.out.drew hE2)
      (have hv : ∃ v, w2.cell? ⟨w.heap.size + 2, j, none⟩ = some v := by rw [HB2.out.cell]; exact ⟨_, Array.getElem?_eq_getElem (by rw [sqTo_size]; exact hlt)⟩)
      obtain ⟨v, hv⟩ := hv
      have hf := HB2.out.frozen j
      refine Eg.batchK (below_pre (w.heap.size + 2)) (by intro c a d v w h; cases d <;> exact h) (by kernel_rfl) (n := 1) [6] [0, 2, 3, 1, 4, 5] _ (by kernel_rfl) (fun K hK => ?_); (simp only [pickOps, List.getElem?_toArray, List.getElem?_cons_zero, List.getElem?_cons_succ, Option.toList_some, List.cons_append, List.nil_append]); (repeat (first | go_big_quiet_step (fail) | quiet_step (fail))); refine wpQuiet_nil (hK _ ?_); clear hK K
      refine Eg.act (below_pre (w.heap.size + 2)) (i := 7) (n := 0) (l := [0, 2, 3, 1, 4, 5, 6]) rfl (by kernel_rfl) ?_
      go_wp2_with fail
      refine ⟨Below.setCell (Below.refl _ _) (by simp) _, ?_⟩
      refine Eg.finish (by kernel_rfl) ?_
      go_wp2_with fail
      have HE2 := HE.out.drew.trans hE2
      rw [img_twice]
      refine ⟨⟨j + 1, by omega, by go_num, (Blk.ext HB0.out.drew hE2).far (by simp; omega) _, (Blk.ext HB1.out.drew hE2).far (by simp) _, ?_, HE2.setCell (by simp; omega) _⟩, by simp [intOf]; omega⟩
      rw [← sqTo_step]
      exact HB2.out.set _ _
    · obtain rfl : j = 32 := by omega
      rw [sqTo_all] at hB
      have HB := Lib.hid hB
      have HB1 := Lib.hid hB1
      have HE := Lib.hid hE
      clear hB hB0 hB1 hE
      go_wp2_with (first | (refine wpList_load_row rfl 92 _ rfl _ rfl _ _ _ _ HB.out Try.underlying92 rfl (by rw [sq_size]; kernel_rfl) ?_) | (refine wpList_store_row rfl 92 _ _ rfl _ _ rfl rfl _ _ HB1.out (by rw [sq_size]; kernel_rfl) (by rw [sq_size, sqTo_size]) (sq_one _) ?_))
      refine bodyPost_ret (v := .agg (sq (2 * n))) (results_cell_row Try.results66 _ _ (w.heap.size + 1) _ (sq (2 * n)) (0, 0) _ rfl (HB1.out.row (sq (2 * n))) Try.underlying92 rfl (by rw [sq_size]; kernel_rfl)) rfl ⟨rfl, HE.out.setRow (by omega) _⟩

/-- noughts, halved: what was taken, and what the table does -/
theorem zer_odd (r : BitVec 32) (m k : Nat) : its (m * (2 * k + 1)) r = its (2 * m * k) (its m r) := by
  rw [← its_add]; congr 1; rw [Nat.mul_add, Nat.mul_one, ← Nat.mul_assoc, Nat.mul_comm m 2]; omega
theorem zer_even (r : BitVec 32) (m k : Nat) : its (m * (2 * k)) r = its (2 * m * k) r := by
  congr 1; rw [← Nat.mul_assoc, Nat.mul_comm m 2]

theorem and_one_i64 (n : Nat) : bits .and .i64 (n : Int) 1 = ((n % 2 : Nat) : Int) := by
  have h1 : (BitVec.ofInt 64 1).toNat = 2 ^ 1 - 1 := by decide
  have key : (BitVec.ofInt 64 (n : Int) &&& BitVec.ofInt 64 1).toNat = ((n : Int) % ((2 ^ 64 : Nat) : Int)).toNat % 2 ^ 1 := by
    rw [BitVec.toNat_and, BitVec.toNat_ofInt, h1, Nat.and_two_pow_sub_one_eq_mod]
  show IntKind.i64.wrap ((BitVec.ofInt 64 (n : Int) &&& BitVec.ofInt 64 1).toNat : Nat) = _
  rw [key, IntKind.wrap_i64]
  omega

set_option maxHeartbeats 800000 in
theorem zeros_neg (r : BitVec 32) (n : Int) (h : n ≤ 0) (w : World) : Calls Try.prog 60 #[.int .u32 (r.toNat : Int), .int .i64 n] w fun e w' => e = .returned (.int .u32 (r.toNat : Int)) ∧ w = w' := by
  go_enter Try.func60, Try.ntmps60
  go_wp2
  go_ret
  exact ⟨rfl, rfl⟩

set_option maxHeartbeats 800000 in
theorem zeros_any (r : BitVec 32) (n : Nat) (hn : n < 9223372036854775808) (w : World) : Calls Try.prog 60 #[.int .u32 (r.toNat : Int), .int .i64 n] w fun e w' => e = .returned (.int .u32 ((zer r n).toNat : Int)) ∧ Ext w w' := by
  by_cases h0 : n = 0
  · subst h0
    exact (zeros_neg r 0 (by omega) w).mono fun e w' ⟨h1, h2⟩ => ⟨h1, h2 ▸ Ext.refl w⟩
  have hn1 : 0 < n := by omega
  have hnd : decide ((n : Int) ≤ 0) = false := by simp; omega
  clear h0
  go_enter Try.func60, Try.ntmps60
  go_wp2_with fail
  refine (oneByte_any _).mono ?_
  rintro e w1 ⟨rfl, hE1⟩
  have HB0 := Lib.hid (Blk.new w1 92 (sqTo 8 0))
  rw [sqTo_zero] at HB0
  go_wp2_with (first | (refine wpList_store_row rfl 92 _ _ rfl _ _ rfl rfl _ _ HB0.out (by rw [sq_size]; kernel_rfl) (by rw [sq_size]; rfl) (sq_one _) ?_))
  rw [World.setRow_alloc_new]
  have HB2 := Lib.hid (Blk.new w1 92 (sq 8))
  have HE2 := Lib.hid (hE1.alloc (.cells (sq 8) 92))
  have hg : w.heap.size ≤ w1.heap.size := hE1.size
  clear HB0 hE1
  generalize w1.alloc (.cells (sq 8) 92) = w2 at *
  generalize w1.heap.size = g at *
  simp only [Act.put, List.setIfInBounds_toArray, List.set_cons_succ, List.set_cons_zero]
  go_loopw [0, 1] (fun s i wr => ∃ (k m : Nat) (x : BitVec 32), 0 < k ∧ k ≤ n ∧ i = .int .i64 k ∧ s = .int .u32 (x.toNat : Int) ∧ its (8 * n) r = its (m * k) x ∧ Blk wr g 92 (sq m) ∧ Ext w wr) (fun _ i _ => (intOf i).toNat)
  case atStart => exact ⟨n, 8, r, hn1, Nat.le_refl _, rfl, rfl, rfl, HB2.out, HE2.out⟩
  case round =>
    obtain ⟨k, m, x, hk0, hkn, rfl, rfl, hz, hB, hE⟩ := hrel
    have HBj := Lib.hid hB
    have HEj := Lib.hid hE
    have HZ := Lib.hid hz
    clear hB hE HB2 HE2 hz
    have ha := and_one_i64 k
    rcases Nat.mod_two_eq_zero_or_one k with hm | hm
    · rw [hm] at ha
      have hk2 : 1 < k := by omega
      have hq : ((k : Int) / 2 == 0) = false := by simp; omega
      have HM := Lib.hid hm
      clear hm
      go_wp2_with (refine wpList_load_row rfl 92 _ rfl _ rfl _ _ _ _ HBj.out Try.underlying92 rfl (by rw [sq_size]; kernel_rfl) ?_)
      refine (twice_any m _).mono ?_
      rintro e w3 ⟨rfl, hE3⟩
      have HB3 := Lib.hid (HBj.out.ext hE3)
      have HE3 := Lib.hid (HEj.out.trans hE3)
      clear hE3
      go_wp2_with (refine wpList_store_row rfl 92 _ _ rfl _ _ rfl rfl _ _ HB3.out (by rw [sq_size]; kernel_rfl) (by rw [sq_size, sq_size]) (sq_one _) ?_)
      simp only [Act.put, List.setIfInBounds_toArray, List.set_cons_succ, List.set_cons_zero]
      go_wp2
      refine ⟨⟨k / 2, 2 * m, x, by omega, by omega, by go_num, rfl, ?_, HB3.out.row _, HE3.out.setRow hg _⟩, by simp [intOf]; omega⟩
      rw [HZ.out, show m * k = m * (2 * (k / 2)) by congr 1; have := HM.out; omega, zer_even]
    · rw [hm] at ha
      have HM := Lib.hid hm
      clear hm
      by_cases hk2 : 1 < k
      · have hq : ((k : Int) / 2 == 0) = false := by simp; omega
        go_wp2_with (refine wpList_load_row rfl 92 _ rfl _ rfl _ _ _ _ HBj.out Try.underlying92 rfl (by rw [sq_size]; kernel_rfl) ?_)
        refine (times_any m _ _).mono ?_
        rintro e w3 ⟨rfl, hE3⟩
        have HB3 := Lib.hid (HBj.out.ext hE3)
        have HE3 := Lib.hid (HEj.out.trans hE3)
        clear hE3
        go_wp2_with (refine wpList_load_row rfl 92 _ rfl _ rfl _ _ _ _ HB3.out Try.underlying92 rfl (by rw [sq_size]; kernel_rfl) ?_)
        refine (twice_any m _).mono ?_
        rintro e w4 ⟨rfl, hE4⟩
        have HB4 := Lib.hid (HB3.out.ext hE4)
        have HE4 := Lib.hid (HE3.out.trans hE4)
        clear hE4
        go_wp2_with (refine wpList_store_row rfl 92 _ _ rfl _ _ rfl rfl _ _ HB4.out (by rw [sq_size]; kernel_rfl) (by rw [sq_size, sq_size]) (sq_one _) ?_)
        simp only [Act.put, List.setIfInBounds_toArray, List.set_cons_succ, List.set_cons_zero]
        go_wp2
        refine ⟨⟨k / 2, 2 * m, its m x, by omega, by omega, by go_num, rfl, ?_, HB4.out.row _, HE4.out.setRow hg _⟩, by simp [intOf]; omega⟩
        rw [HZ.out, show m * k = m * (2 * (k / 2) + 1) by congr 1; have := HM.out; omega, zer_odd]
      · obtain rfl : k = 1 := by omega
        go_wp2_with (refine wpList_load_row rfl 92 _ rfl _ rfl _ _ _ _ HBj.out Try.underlying92 rfl (by rw [sq_size]; kernel_rfl) ?_)
        refine (times_any m _ _).mono ?_
        rintro e w3 ⟨rfl, hE3⟩
        have HE3 := Lib.hid (HEj.out.trans hE3)
        clear hE3
        go_wp2
        go_ret
        refine ⟨?_, HE3.out⟩
        unfold zer
        rw [HZ.out, Nat.mul_one]
        rfl

end Go.Proofs.Ytojgjmkkcadabaa
