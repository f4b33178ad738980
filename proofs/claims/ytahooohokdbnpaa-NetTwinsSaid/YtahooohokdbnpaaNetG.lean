
/-
  slices.Delete of one flight, out of a line.
-/
import Derived.Test.YtahooohokdbnpaaNetF
import Derived.Shelf.SlicesE.Delete
set_option linter.unusedVariables false
set_option linter.unusedSimpArgs false
namespace Go.Proofs.Ytahooohokdbnpaa
open Go.RowKit Go.Shelf Go.Maps Pl

def delRen : Go.Shelf.Ren := ⟨fun | 45 => 40 | n => n, fun | 22 => 30 | 23 => 36 | n => n, fun n => n⟩
theorem delLays : Go.Proofs.SlLaysE.n45 Try.prog delRen := {
  mixed := by kernel_rfl
  f45 := ⟨Try.f40.name, by decide, Try.func40.trans (congrArg some (by kernel_rfl))⟩
  t0 := Try.underlying0
  a0 := fun w => by kernel_rfl
  z0 := fun w => by kernel_rfl
  v0 := fun w => by kernel_rfl
  t3 := Try.underlying3
  a3 := fun w => by kernel_rfl
  z3 := fun w => by kernel_rfl
  v3 := fun w => by kernel_rfl
  t4 := Try.underlying4
  a4 := fun w => by kernel_rfl
  z4 := fun w => by kernel_rfl
  v4 := fun w => by kernel_rfl
  t22 := Try.underlying30
  a22 := fun w => by kernel_rfl
  z22 := fun w => by kernel_rfl
  v22 := fun w => by kernel_rfl
  a23 := fun w => by kernel_rfl
  z23 := fun w => by kernel_rfl }

/-- a slice's header -/
structure SlH where
  A : Option Addr
  n : Nat
  c : Nat
instance : Inhabited SlH := ⟨⟨none, 0, 0⟩⟩
def encH (h : SlH) : Value := .slice h.A h.n h.c
def decH : Value → SlH
  | .slice A n c => ⟨A, n, c⟩
  | _ => ⟨none, 0, 0⟩
theorem enc_dec (A : Option Addr) (n c : Nat) : encH (decH (.slice A n c)) = .slice A n c := rfl
section
variable {α : Type} [Inhabited α]
open Go.Sort
theorem blk_putRow {w : World} {g : Nat} {t : TypeId} {cur : Array Value} (enc : α → Value) (D : Array α) (h : Blk w g t cur) : Blk (putRow enc w g 0 D) g t (putCells enc 0 D cur) := by
  unfold Blk at *
  unfold putRow mapBlock
  show (w.heap.modify g _)[g]? = _
  rw [Array.getElem?_modify, if_pos rfl, h]
  rfl
theorem grown_putRow (w : World) (g : Nat) (enc : α → Value) (D : Array α) : w.grownBy (putRow enc w g 0 D) (some g) :=
  ⟨rfl, rfl, rfl, by simp, fun k hk hne => by
    unfold putRow mapBlock
    show (w.heap.modify g _)[k]? = _
    rw [Array.getElem?_modify, if_neg (fun e => hne (by rw [e]))]⟩
theorem putCells_size (enc : α → Value) (D : Array α) (cur : Array Value) : (putCells enc 0 D cur).size = cur.size := by simp [putCells]
theorem putCells_take (enc : α → Value) (D : Array α) (cur : Array Value) {m : Nat} (h1 : m ≤ D.size) (h2 : m ≤ cur.size) : (putCells enc 0 D cur).toList.take m = (D.toList.take m).map enc := by
  apply List.ext_getElem?
  intro k
  by_cases hk : k < m
  · rw [List.getElem?_take_of_lt hk, List.getElem?_map, List.getElem?_take_of_lt hk, Array.getElem?_toList, Array.getElem?_toList]
    unfold putCells
    rw [Array.getElem?_mapIdx, Array.getElem?_eq_getElem (by omega), Array.getElem?_eq_getElem (by omega)]
    simp only [Option.map_some, Nat.zero_le, Nat.zero_add, Nat.sub_zero, true_and]
    rw [if_pos (by omega), getElem!_pos D k (by omega)]
  · rw [List.getElem?_eq_none (by rw [List.length_take]; omega), List.getElem?_eq_none (by rw [List.length_map, List.length_take]; omega)]
theorem grown_ahead (w : World) (q : Nat) (row : Option Nat) : w.grownBy (Go.Sort.ahead w q) row := ⟨rfl, rfl, rfl, Nat.le_refl _, fun _ _ _ => rfl⟩
end

theorem delete_row (w : World) (g : Nat) (cur : Array Value) (n i : Nat) (hb : Blk w g 36 cur) (hn : n ≤ cur.size) (hcm : cur.size ≤ 9223372036854775807) (hi : i < n) (hsl : ∀ v ∈ cur.toList.take n, ∃ A m k, v = .slice A m k) :
    Calls Try.prog 40 #[.slice (some ⟨g, 0, none⟩) n cur.size, .int .i64 (i : Int), .int .i64 ((i : Int) + 1)] w fun e w' => e = .returned (.slice (some ⟨g, 0, none⟩) (n - 1) cur.size) ∧
      ∃ cur', Blk w' g 36 cur' ∧ cur'.size = cur.size ∧ cur'.toList.take (n - 1) = (cur.toList.take n).eraseIdx i ∧ w.grownBy w' (some g) := by
  obtain ⟨d, hd⟩ : ∃ d : Array SlH, d = ((cur.toList.take n).map decH).toArray := ⟨_, rfl⟩
  have hds : d.size = n := by rw [hd]; simp; omega
  have hmap : d.toList.map encH = cur.toList.take n := by
    rw [hd]
    simp only [List.map_map]
    conv => rhs; rw [← List.map_id (cur.toList.take n)]
    apply List.map_congr_left
    intro v hv
    obtain ⟨A, m, k, rfl⟩ := hsl v hv
    rfl
  have hget : ∀ j, j < n → cur[j]? = some (encH d[j]!) := fun j hj => by
    have h1 : (d.toList.map encH)[j]? = (cur.toList.take n)[j]? := by rw [hmap]
    rw [List.getElem?_map, Array.getElem?_toList, Array.getElem?_eq_getElem (by omega), List.getElem?_take_of_lt hj, Array.getElem?_toList] at h1
    rw [← h1, getElem!_pos d j (by omega)]
    rfl
  have hH : Go.Sort.Holds encH w g 0 d := fun j hj => ⟨by rw [Nat.zero_add, hb.cell]; exact hget j (by omega), hb.frozen _⟩
  obtain ⟨i0, q1, q2, q3, q4⟩ := info_parts Try.infoRow
  have K := Go.Proofs.AnyE.slices_Delete delLays encH (fun x => rfl) ⟨none, 0, 0⟩ (fun w => by kernel_rfl) i0 q1 q3 g 0 cur.size i (i + 1) d w hH (by omega) hcm (by omega) (by omega)
  rw [hds, show n - (i + 1 - i) = n - 1 by omega, show i + 1 - i = 1 by omega] at K
  refine (show Calls Try.prog 40 #[.slice (some ⟨g, 0, none⟩) n cur.size, .int .i64 (i : Int), .int .i64 ((i : Int) + 1)] w _ from K).mono ?_
  rintro e w' ⟨rfl, q, rfl⟩
  have hDs : ((d.toList.take i ++ d.toList.drop (i + 1) ++ List.replicate 1 (⟨none, 0, 0⟩ : SlH)).toArray).size = n := by
    simp
    omega
  refine ⟨rfl, _, blk_putRow encH _ (show Blk (Go.Sort.ahead w q) g 36 cur from hb), putCells_size _ _ _, ?_, (grown_ahead w q (some g)).trans (grown_putRow _ g encH _)⟩
  rw [putCells_take encH _ cur (by omega) (by omega)]
  have hl : (d.toList.take i ++ d.toList.drop (i + 1)).length = n - 1 := by
    rw [List.length_append, List.length_take, List.length_drop, Array.length_toList, hds]
    omega
  rw [List.take_append_of_le_length (by omega), List.take_of_length_le (by omega), ← List.eraseIdx_eq_take_drop_succ, ← hmap]
  exact Go.ChangeMaps.map_eraseIdx _ _ _

end Go.Proofs.Ytahooohokdbnpaa
