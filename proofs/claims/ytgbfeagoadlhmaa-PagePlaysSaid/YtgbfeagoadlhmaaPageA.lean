
/-
  A page in memory; contracts of page.number, set, slots, begin.
-/
import Derived.Test.YtgbfeagoadlhmaaCrcB
import Derived.Test.YtgbfeagoadlhmaaCopyB
import Derived.Test.YtgbfeagoadlhmaaEager
set_option linter.unusedVariables false
set_option linter.unusedSimpArgs false
namespace Go.Proofs.Ytgbfeagoadlhmaa
open Go.RowKit Pl

/-- a page stands in block g -/
structure Pg (w : World) (g : Nat) (P : List UInt8) : Prop where
  blk : Blk w g 23 (cells8 P)
  len : P.length = 1024
/-- the number in two bytes at a place -/
def num2 (P : List UInt8) (a : Nat) : Nat := num ((P.drop a).take 2)
theorem num2_lt (P : List UInt8) (a : Nat) : num2 P a < 65536 := by
  unfold num2
  have h := num_lt ((P.drop a).take 2)
  have h2 : ((P.drop a).take 2).length ≤ 2 := by simp; omega
  have h3 := Nat.pow_le_pow_right (n := 256) (by decide) h2
  omega
theorem Pg.by_ {w : World} {g : Nat} {P : List UInt8} (h : Pg w g P) (a k : Nat) (ha : a + k ≤ 1024) : By w (some ⟨g, a, none⟩) ((P.drop a).take k) := by
  refine .inr ⟨g, a, rfl, fun i hi => ?_⟩
  have hl := h.len
  rw [List.length_take, List.length_drop, hl] at hi
  rw [h.blk.cell, cells8_get P (a + i) (by omega)]
  congr 2
  have h1 : i < k := by omega
  simp [at8, List.getD_eq_getElem?_getD, h1]
theorem Pg.sub_len {w : World} {g : Nat} {P : List UInt8} (h : Pg w g P) (a k : Nat) (ha : a + k ≤ 1024) : ((P.drop a).take k).length = k := by
  have hl := h.len
  rw [List.length_take, List.length_drop]; omega
theorem Pg.ext {w w' : World} {g : Nat} {P : List UInt8} (h : Pg w g P) (hE : Ext w w') : Pg w' g P := ⟨h.blk.ext hE, h.len⟩

theorem Try.pgLen : Try.prog.arrayLen 23 = 1024 := by kernel_rfl
theorem Try.pgUnd : Try.prog.underlying 23 = some (.array (Try.prog.arrayLen 23) (Try.prog.elem 23)) := by kernel_rfl
theorem Try.pgElem (w : World) : (sizeOf (Try.prog.elem 23)).run Try.prog w = .ok 1 w := by
  rw [show Try.prog.elem 23 = 5 by kernel_rfl]
  obtain ⟨i0, hi, hz0, hz1, hz2⟩ := info_parts Try.info8
  simp [sizeOf, typeInfo, hi, hz1]
/-- p[a:b] -/
theorem slice_pg (g a b : Nat) (h1 : a ≤ b) (h2 : b ≤ 1024) (h3 : a < 1024) (w : World) : (Instr.sliceAt 23 (.pointer (some ⟨g, 0, none⟩)) (some (.int .i64 (a : Int))) (some (.int .i64 (b : Int))) none).run Try.prog w = .ok (.slice (some ⟨g, a, none⟩) (b - a) (1024 - a)) w := by
  rw [run_sliceAt_array_lh w 23 ⟨g, 0, none⟩ Try.pgUnd .i64 .i64 a b (by omega) (by omega) (by rw [Try.pgLen]; omega), Try.pgElem, Try.pgLen]
  simp only [Result.andThen_ok, slicedAt, Int.toNat_natCast, Nat.mul_one]
  rw [if_neg (by omega), Addr.add]
  by_cases h0 : a = 0
  · subst h0; rfl
  · rw [if_neg h0]
    simp

set_option maxHeartbeats 800000 in
set_option maxRecDepth 100000 in
theorem number_pg (w : World) (g : Nat) (P : List UInt8) (a : Nat) (ha : a + 2 ≤ 1024) (h : Pg w g P) :
    Calls Try.prog 76 #[.pointer (some ⟨g, 0, none⟩), .int .i64 (a : Int)] w fun e w' => e = .returned (.int .i64 (num2 P a : Int)) ∧ w = w' := by
  have hl := h.sub_len a 2 ha
  have K := Lib.hid (get_yes (some ⟨g, a, none⟩) ((P.drop a).take 2) (1024 - a) (by rw [hl]; omega) (by rw [hl]; omega) w (h.by_ a 2 ha))
  rw [hl] at K
  have hlt := num2_lt P a
  have HU : Hid (num ((P.drop a).take 2) = num2 P a) := Lib.hid rfl
  rw [HU.out] at K
  clear hl
  have hsl := fun w => slice_pg g a (a + 2) (by omega) ha (by omega) w
  rw [show ((a + 2 : Nat) : Int) = (a : Int) + 2 by omega, show a + 2 - a = 2 by omega] at hsl
  go_enter Try.func76, Try.ntmps76
  go_wp2_with fail
  refine K.out.mono ?_
  rintro e w' ⟨rfl, rfl⟩
  go_wp2
  go_ret
  exact ⟨rfl, rfl⟩

theorem slots_pg (w : World) (g : Nat) (P : List UInt8) (h : Pg w g P) : Calls Try.prog 42 #[.pointer (some ⟨g, 0, none⟩)] w fun e w' => e = .returned (.int .i64 (num2 P 14 : Int)) ∧ w = w' := by
  have K := Lib.hid (number_pg w g P 14 (by omega) h)
  clear h
  go_enter Try.func42, Try.ntmps42
  go_wp2_with (go_at_call 76; refine K.out.mono ?_; rintro e w' ⟨rfl, rfl⟩)
  go_ret
  exact ⟨rfl, rfl⟩
theorem begin_pg (w : World) (g : Nat) (P : List UInt8) (h : Pg w g P) : Calls Try.prog 54 #[.pointer (some ⟨g, 0, none⟩)] w fun e w' => e = .returned (.int .i64 (num2 P 16 : Int)) ∧ w = w' := by
  have K := Lib.hid (number_pg w g P 16 (by omega) h)
  clear h
  go_enter Try.func54, Try.ntmps54
  go_wp2_with (go_at_call 76; refine K.out.mono ?_; rintro e w' ⟨rfl, rfl⟩)
  go_ret
  exact ⟨rfl, rfl⟩

/-- a page with bytes laid over it -/
theorem Pg.over {w w' : World} {g : Nat} {P : List UInt8} (h : Pg w g P) {o : Nat} {l : List UInt8} (hB : Blk w' g 23 (cells8 (over P o l))) (hl : o + l.length ≤ 1024) : Pg w' g (over P o l) :=
  ⟨hB, by rw [over_length _ _ _ (by rw [h.len]; exact hl), h.len]⟩

end Go.Proofs.Ytgbfeagoadlhmaa
