/-
  Contract of layer 2's known: the chapter's rows.
-/
import Derived.Test.YtojgjmkkcadabaaCrcD
import Derived.Test.YtojgjmkkcadabaaKnownA
set_option linter.unusedVariables false
set_option linter.unusedSimpArgs false
namespace Go.Proofs.Ytojgjmkkcadabaa
open Go.RowKit Pl

theorem as32 (s : Int) (hs : 0 ≤ s ∧ s ≤ 4294967295) : ∃ r : BitVec 32, s = (r.toNat : Int) := by
  refine ⟨BitVec.ofNat 32 s.toNat, ?_⟩
  rw [BitVec.toNat_ofNat, Nat.mod_eq_of_lt (by omega)]
  omega

theorem k2_a : ((crc ([] : List (List UInt8)).flatten).toNat : Int) = 0 := by decide +kernel
theorem k2_b : ((crc [[49, 50, 51, 52], [53, 54, 55, 56, 57]].flatten).toNat : Int) = 3808858755 := by decide +kernel
theorem k2_c : ((crcMore (crc [49, 50, 51, 52, 53]) [54, 55, 56, 57]).toNat : Int) = 3808858755 := by decide +kernel
theorem k2_d : ((crcZeros 0#32 4).toNat : Int) = 1214729159 := by decide +kernel
theorem k2_e : ((crcJoin 9#32 0#32 0).toNat : Int) = 9 := by decide +kernel
theorem k2_f : decide (crc [97] = 3251651376#32) = true := by decide +kernel

set_option maxHeartbeats 2000000 in
set_option maxRecDepth 100000 in
theorem known2_any (w : World) : Calls Try.prog 40 #[] w fun e w' => e = .returned (.bool true) ∧ Ext w w' := by
  have kc := fun (w : World) (C : Array Value) (n c : Nat) => Lib.run_convert_bytes_const (P := Try.prog) w 23 5 C n c Try.underlying23 Try.underlying5
  have kc2 := fun (w : World) (o : Obj) (C : Array Value) (n c : Nat) => (by have h := kc (w.alloc o) C n c; rwa [World.size_alloc] at h : (convert 23 23 (.slice (some ⟨w.heap.size + 1, 0, none⟩) n c)).run Try.prog ((w.alloc o).alloc (.cells C 5)) = .ok (.slice (some ⟨w.heap.size + 1, 0, none⟩) n c) ((w.alloc o).alloc (.cells C 5 (C.size, C.size + 1))))
  go_enter Try.func40, Try.ntmps40
  go_wp2_with fail
  refine (csum_any none [] 0 (by decide) (by decide) _ (.inl rfl)).mono ?_
  rintro e w1 ⟨rfl, hE1⟩
  rw [k2_a]
  go_wp2_with fail
  have hby1 : By ((w1.alloc (.cells (cells8 [49, 50, 51, 52]) 5 (4, 5))).alloc (.cells (cells8 [53, 54, 55, 56, 57]) 5 (5, 6))) (some ⟨w1.heap.size, 0, none⟩) [49, 50, 51, 52] := (By.lit _ _ _ _).ext ((Ext.refl _).alloc _)
  have hby2 := By.lit (w1.alloc (.cells (cells8 [49, 50, 51, 52]) 5 (4, 5))) [53, 54, 55, 56, 57] 5 (5, 6)
  have HB2 := Bys.two (c := 4) (d := 5) hby1 (by decide) hby2 (by decide) 23
  rw [World.size_alloc, World.size_alloc, World.size_alloc] at HB2
  refine (csum_any _ [[49, 50, 51, 52], [53, 54, 55, 56, 57]] 2 (by decide) (by decide) _ HB2).mono ?_
  rintro e w2 ⟨rfl, hE2⟩
  have hE02 : Ext w w2 := (((hE1.alloc _).alloc _).alloc _).trans hE2
  clear hby1 hby2 HB2 hE1 hE2
  rw [k2_b]
  go_wp2_with fail
  have hby3 := By.lit w2 [49, 50, 51, 52, 53] 5 (5, 6)
  have K3 := csum_one _ [49, 50, 51, 52, 53] 5 (by decide) (by decide) _ hby3 23
  rw [World.size_alloc] at K3
  refine K3.mono ?_
  rintro e w3 ⟨rfl, hE3⟩
  have hE03 : Ext w w3 := (hE02.alloc _).trans hE3
  clear hby3 hE02 hE3 K3
  go_wp2_with fail
  have hby4 := By.lit w3 [54, 55, 56, 57] 5 (4, 5)
  refine (cmore_any _ _ [54, 55, 56, 57] 4 (by decide) _ hby4).mono ?_
  rintro e w4 ⟨rfl, hE4⟩
  have hE04 : Ext w w4 := (hE03.alloc _).trans hE4
  clear hby4 hE03 hE4
  rw [k2_c]
  go_wp2_with fail
  refine (czeros_any 0#32 4 (by decide) _).mono ?_
  rintro e w5 ⟨rfl, hE5⟩
  have hE05 : Ext w w5 := hE04.trans hE5
  clear hE04 hE5
  rw [k2_d]
  go_wp2_with fail
  refine (czeros_neg 7#32 (-3) (by decide) _).mono ?_
  rintro e w6 ⟨rfl, rfl⟩
  rw [show ((7#32).toNat : Int) = 7 from rfl]
  go_wp2_with fail
  refine (cjoin_any 9#32 0#32 0 (by decide) _).mono ?_
  rintro e w7 ⟨rfl, hE7⟩
  have hE07 : Ext w w7 := hE05.trans hE7
  clear hE05 hE7
  rw [k2_e]
  go_wp2_with fail
  have hby8 := By.lit w7 [97] 5 (1, 2)
  refine (holds_any _ [97] 1 3251651376#32 (by decide) (by decide) _ hby8).mono ?_
  rintro e w8 ⟨rfl, hE8⟩
  have hE08 : Ext w w8 := (hE07.alloc _).trans hE8
  clear hby8 hE07 hE8
  rw [k2_f]
  go_wp2
  go_ret
  exact ⟨rfl, hE08⟩

end Go.Proofs.Ytojgjmkkcadabaa
