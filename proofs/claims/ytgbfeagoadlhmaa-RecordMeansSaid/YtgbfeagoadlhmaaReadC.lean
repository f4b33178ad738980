
/-
  Contracts of wire.Read and wire.Blob.
-/
import Derived.Test.YtgbfeagoadlhmaaReadB
set_option linter.unusedVariables false
set_option linter.unusedSimpArgs false
namespace Go.Proofs.Ytgbfeagoadlhmaa
open Go.RowKit Pl

theorem Bys.one {w : World} {A : Option Addr} {l : List UInt8} {c : Nat} (h : By w A l) (hc : l.length ≤ c) (t : TypeId) : Bys (w.alloc (.cells #[.slice A l.length c] t)) (some ⟨w.heap.size, 0, none⟩) [l] := by
  refine .inr ⟨w.heap.size, 0, rfl, fun i hi => ?_⟩
  obtain rfl : i = 0 := by simp at hi; omega
  exact ⟨A, c, by rw [(Blk.new w t _).cell]; rfl, h.ext ((Ext.refl w).alloc _), hc⟩
theorem Bys.two {w : World} {A B : Option Addr} {l m : List UInt8} {c d : Nat} (h : By w A l) (hc : l.length ≤ c) (k : By w B m) (hd : m.length ≤ d) (t : TypeId) :
    Bys (w.alloc (.cells #[.slice A l.length c, .slice B m.length d] t)) (some ⟨w.heap.size, 0, none⟩) [l, m] := by
  refine .inr ⟨w.heap.size, 0, rfl, fun i hi => ?_⟩
  match i, hi with
  | 0, _ => exact ⟨A, c, by rw [(Blk.new w t _).cell]; rfl, h.ext ((Ext.refl w).alloc _), hc⟩
  | 1, _ => exact ⟨B, d, by rw [(Blk.new w t _).cell]; rfl, k.ext ((Ext.refl w).alloc _), hd⟩
theorem Bys.three {w : World} {A B C : Option Addr} {l m n : List UInt8} {c d e : Nat} (h : By w A l) (hc : l.length ≤ c) (k : By w B m) (hd : m.length ≤ d) (j : By w C n) (he : n.length ≤ e) (t : TypeId) :
    Bys (w.alloc (.cells #[.slice A l.length c, .slice B m.length d, .slice C n.length e] t)) (some ⟨w.heap.size, 0, none⟩) [l, m, n] := by
  refine .inr ⟨w.heap.size, 0, rfl, fun i hi => ?_⟩
  match i, hi with
  | 0, _ => exact ⟨A, c, by rw [(Blk.new w t _).cell]; rfl, h.ext ((Ext.refl w).alloc _), hc⟩
  | 1, _ => exact ⟨B, d, by rw [(Blk.new w t _).cell]; rfl, k.ext ((Ext.refl w).alloc _), hd⟩
  | 2, _ => exact ⟨C, e, by rw [(Blk.new w t _).cell]; rfl, j.ext ((Ext.refl w).alloc _), he⟩

set_option maxHeartbeats 800000 in
theorem read_any (A : Option Addr) (l : List UInt8) (c : Nat) (hl : l.length ≤ 70368744177664) (hlc : l.length ≤ c) (w : World) (hb : By w A l) :
    Calls Try.prog 74 #[.slice A l.length c] w fun e w' => ∃ r, e = .returned (.pointer (some ⟨r, 0, none⟩)) ∧ Rd w' r (some l) ∧ w.heap.size ≤ r ∧ Ext w w' := by
  have HB := Lib.hid (Bys.one hb hlc 24)
  have hl1 : [l].flatten.length ≤ 70368744177664 := by simpa using hl
  generalize hn : l.length = n at *
  have HN := Lib.hid hn
  clear hb hn
  go_enter Try.func74, Try.ntmps74
  go_wp2_with fail
  refine (join_any _ [l] 1 (by simp) hl1 _ HB.out).mono ?_
  rintro e w1 ⟨v, rfl, hO, hE⟩
  rw [show [l].flatten = l by simp] at hO
  obtain ⟨A', c', rfl, hby, hc1, hc2⟩ := hO.form
  go_wp2
  go_ret
  refine ⟨w1.heap.size, rfl, ⟨A', c', Blk.new _ _ _, hby.ext ((Ext.refl _).alloc _), hc1, by unfold maxLen at hc2; omega⟩, ?_, (((Ext.refl w).alloc _).trans hE).alloc _⟩
  have := hE.size
  simp at this
  omega

theorem blob_no (A : Option Addr) (n c : Nat) (h : 65535 < n) (hn : n ≤ 140737488355328) (w : World) :
    Calls Try.prog 114 #[.slice A n c] w fun e w' => e = .returned (.tuple #[.slice none 0 0, .int .i64 3]) ∧ w = w' := by
  go_enter Try.func114, Try.ntmps114
  go_wp2
  go_ret2
  exact ⟨rfl, rfl⟩

theorem len_bytes (n : Nat) (h : n ≤ 65535) : (#[Value.int .u8 ((n : Int) / 256), Value.int .u8 ((n : Int) % 256)] : Array Value) = cells8 (put n 2) := by
  have e : put n 2 = [UInt8.ofNat (n / 256), UInt8.ofNat n] := by
    simp [put, List.range_succ]
  rw [e]
  have h1 : ((UInt8.ofNat (n / 256)).toNat : Int) = (n : Int) / 256 := by rw [UInt8.toNat_ofNat']; omega
  have h2 : ((UInt8.ofNat n).toNat : Int) = (n : Int) % 256 := by rw [UInt8.toNat_ofNat']; omega
  simp only [cells8, List.map_cons, List.map_nil, u8, h1, h2]

set_option maxHeartbeats 800000 in
theorem blob_yes (A : Option Addr) (l : List UInt8) (c : Nat) (hl : l.length ≤ 65535) (hlc : l.length ≤ c) (w : World) (hb : By w A l) :
    Calls Try.prog 114 #[.slice A l.length c] w fun e w' => ∃ v, e = .returned (.tuple #[v, .int .i64 0]) ∧ Own 5 w' w.heap.size v (blob l) ∧ Ext w w' := by
  generalize hn : l.length = n at *
  have HN := Lib.hid hn
  have HB := Lib.hid hb
  clear hb hn
  go_enter Try.func114, Try.ntmps114
  go_wp2_with fail
  have HC := Lib.hid (len_bytes n hl)
  rw [HC.out]
  have hp : By (w.alloc (.cells (cells8 (put n 2)) 5)) (some ⟨w.heap.size, 0, none⟩) (put n 2) := By.of_blk (Blk.new _ _ _)
  have h2 : By (w.alloc (.cells (cells8 (put n 2)) 5)) A l := HB.out.ext ((Ext.refl w).alloc _)
  have HB2 := Bys.two (c := 2) (d := c) hp (by rw [put_length]; omega) h2 (by rw [HN.out]; omega) 24
  rw [put_length, HN.out, World.size_alloc] at HB2
  have hf : [put n 2, l].flatten = blob l := by simp [blob, HN.out]
  refine (join_any _ [put n 2, l] 2 (by simp) (by rw [hf, blob_length, HN.out]; omega) _ HB2).mono ?_
  rintro e w1 ⟨v, rfl, hO, hE⟩
  rw [hf] at hO
  have HO := Lib.hid hO
  have hE2 : Ext w w1 := (((Ext.refl w).alloc _).alloc _).trans hE
  clear hO HB2 hp h2 hE hf
  go_wp2
  go_ret2
  exact ⟨v, rfl, HO.out.down (by simp; omega), hE2⟩

end Go.Proofs.Ytgbfeagoadlhmaa
