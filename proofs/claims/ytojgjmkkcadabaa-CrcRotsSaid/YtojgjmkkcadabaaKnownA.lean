/-
  Contract of layer 1's known: the chapter's rows.
-/
import Derived.Test.YtojgjmkkcadabaaReadC
import Derived.Lib.SlBytesConst
set_option linter.unusedVariables false
set_option linter.unusedSimpArgs false
namespace Go.Proofs.Ytojgjmkkcadabaa
open Go.RowKit Pl

theorem By.lit (w : World) (l : List UInt8) (t : TypeId) (fr : Nat × Nat) : By (w.alloc (.cells (cells8 l) t fr)) (some ⟨w.heap.size, 0, none⟩) l := by
  refine .inr ⟨w.heap.size, 0, rfl, fun i hi => ?_⟩
  rw [Nat.zero_add, cell_of_row _ _ i (cells8 l) t fr (heap_alloc_new w _)]
  exact cells8_get l i hi

theorem str_any {w : World} {A : Option Addr} {l : List UInt8} (h : By w A l) (c : Nat) : (convert 23 9 (.slice A l.length c)).run Try.prog w = .ok (.string ⟨l.toArray⟩) w :=
  run_string h _ _ _ Try.underlying23 Try.underlying5 Try.underlying9 c

theorem By.rd {w w' : World} {A : Option Addr} {l : List UInt8} {r : Nat} {s : Option (List UInt8)} (h : By w A l) (hr : Rd w r s) (hu : Upd w w' r) : By w' A l := by
  cases s with
  | none => exact h.upd (show Blk w r _ _ from hr) (noByte2 (by intro n h; cases h) (by intro n h; cases h)) hu
  | some m => obtain ⟨B, c, h1, _⟩ := hr; exact h.upd h1 (noByte2 (by intro n h; cases h) (by intro n h; cases h)) hu

set_option maxHeartbeats 2000000 in
set_option maxRecDepth 100000 in
theorem known_any (w : World) : Calls Try.prog 18 #[] w fun e w' => e = .returned (.bool true) ∧ Ext w w' := by
  have kc := fun (w : World) (C : Array Value) (n c : Nat) => Lib.run_convert_bytes_const (P := Try.prog) w 23 5 C n c Try.underlying23 Try.underlying5
  go_enter Try.func18, Try.ntmps18
  go_wp2_with fail
  refine (put_yes 258 2 (by decide) (by decide) (by decide) _).mono ?_
  rintro e w1 ⟨g, rfl, hB1, hg1, hE1⟩
  go_wp2_with fail
  refine (put_no 256 (by decide) 1 (by decide) _).mono ?_
  rintro e w2 ⟨rfl, rfl⟩
  go_wp2_with fail
  have hby : By (w1.alloc (.cells (cells8 [97, 98]) 5 (2, 3))) (some ⟨w1.heap.size, 0, none⟩) [97, 98] := By.lit _ _ _ _
  refine (blob_yes (some ⟨w1.heap.size, 0, none⟩) [97, 98] 2 (by decide) (by decide) _ hby).mono ?_
  rintro e w3 ⟨v, rfl, hO3, hE3⟩
  rw [show blob [97, 98] = [0, 2, 97, 98] by decide] at hO3
  obtain ⟨A3, c3, rfl, hb3, _⟩ := hO3.form
  have hE13 : Ext w1 w3 := ((Ext.refl w1).alloc _).trans hE3
  rw [show put 258 2 = [1, 2] by decide] at hB1
  have s1 := str_any (By.of_blk (hB1.ext hE13)) 2
  have s2 := str_any hb3 c3
  have hE03 := hE1.trans hE13
  clear hB1 hO3 hb3 hby hE3 hg1 hE1 hE13
  simp only [List.length_cons, List.length_nil, Nat.zero_add, Nat.reduceAdd] at s1 s2
  go_wp2_with (go_at_call 17; refine (num_any _ _).mono ?_; rintro e w' ⟨rfl, rfl⟩)
  have hr0 : By (w3.alloc (.cells (cells8 [0, 1, 7, 9]) 5)) (some ⟨w3.heap.size, 0, none⟩) [0, 1, 7, 9] := By.lit _ _ _ _
  refine (read_any (some ⟨w3.heap.size, 0, none⟩) [0, 1, 7, 9] 4 (by decide) (by decide) _ hr0).mono ?_
  rintro e w4 ⟨r, rfl, hR4, hr4, hE4⟩
  have hE04 : Ext w w4 := (hE03.alloc _).trans hE4
  have hrw : w.heap.size ≤ r := by have := hE03.size; simp at hr4; omega
  clear s1 s2 hr0 hE4 hr4 hE03
  go_wp2_with fail
  refine (rblob_any w4 r _ hR4).mono ?_
  rintro e w5 ⟨A5, c5, rfl, hb5, hc5, hR5, hU5⟩
  rw [show blobs (some [0, 1, 7, 9]) = ([7], some [9]) by decide] at *
  go_wp2_with fail
  refine (left_any w5 r _ hR5).mono ?_
  rintro e w6 ⟨rfl, rfl⟩
  rw [show ((leftN (some [9]) : Nat) : Int) = 1 by decide]
  go_wp2_with fail
  refine (number_any w5 r _ 2 hR5).mono ?_
  rintro e w6 ⟨rfl, hR6, hU6⟩
  rw [show nums (some [9]) 2 = (0, none) by decide] at *
  dsimp only at hR6
  have s3 := str_any (hb5.rd hR5 hU6) c5
  simp only [List.length_cons, List.length_nil, Nat.zero_add] at s3
  have hE6 : Ext w w6 := hU6.ext (hU5.ext hE04 hrw) hrw
  have K1 := Lib.hid (failed_any w6 r none hR6)
  have K2 := Lib.hid (left_any w6 r none hR6)
  have K3 := Lib.hid (end_any w6 r none hR6)
  clear hR4 hR5 hR6 hb5 hc5 hU5 hU6 hE04
  go_wp2_with (first | (go_at_call 17; refine (num_any _ _).mono ?_; rintro e w' ⟨rfl, rfl⟩) | (go_at_call 28; refine K1.out.mono ?_; rintro e w' ⟨rfl, rfl⟩; simp only [brokenB]) | (go_at_call 29; refine K2.out.mono ?_; rintro e w' ⟨rfl, rfl⟩; simp only [leftN]) | (go_at_call 27; refine K3.out.mono ?_; rintro e w' ⟨rfl, rfl⟩; simp only [reduceCtorEq, if_false]))
  go_ret
  exact ⟨rfl, hE6⟩

end Go.Proofs.Ytojgjmkkcadabaa
