/-
  The walk of WireWalks.
-/
import Derived.Test.YtojgjmkkcadabaaAlike
set_option linter.unusedVariables false
set_option linter.unusedSimpArgs false
namespace Go.Proofs.Ytojgjmkkcadabaa
open Go.RowKit Pl

/-- a step's kind and number -/
structure Stp where
  kind : Int
  n : Int
def stp0 : Stp := ⟨0, 0⟩
/-- the slice at A reads as steps -/
def Stps (w : World) (A : Option Addr) (l : List Stp) : Prop :=
  l = [] ∨ ∃ b o, A = some ⟨b, o, none⟩ ∧ ∀ i, i < l.length → w.cell? ⟨b, o + i * 2, none⟩ = some (.int .i64 (l.getD i stp0).kind) ∧ w.cell? ⟨b, o + i * 2 + 1, none⟩ = some (.int .i64 (l.getD i stp0).n)
theorem Stps.at_ {w : World} {A : Option Addr} {l : List Stp} (h : Stps w A l) {i : Nat} (hi : i < l.length) : ∃ b o, A = some ⟨b, o, none⟩ ∧ w.cell? ⟨b, o + i * 2, none⟩ = some (.int .i64 (l.getD i stp0).kind) ∧ w.cell? ⟨b, o + i * 2 + 1, none⟩ = some (.int .i64 (l.getD i stp0).n) := by
  rcases h with rfl | ⟨b, o, rfl, hc⟩
  · simp at hi
  · exact ⟨b, o, rfl, hc i hi⟩

theorem load_step {w : World} {b o : Nat} {x y : Value} (h0 : w.cell? ⟨b, o, none⟩ = some x) (h1 : w.cell? ⟨b, o + 1, none⟩ = some y) : (Instr.loadAt 53 (.pointer (some ⟨b, o, none⟩))).run Try.prog w = .ok (.agg #[x, y]) w := by
  simp [go_sem, h0, h1]
theorem load_bool {w : World} {p : Addr} {x : Bool} (h : w.cell? p = some (.bool x)) : (Instr.loadAt 4 (.pointer (some p))).run Try.prog w = .ok (.bool x) w := by
  simp [go_sem, h]

set_option maxHeartbeats 800000 in
theorem read_own (A : Option Addr) (l : List UInt8) (c : Nat) (hl : l.length ≤ 70368744177664) (hlc : l.length ≤ c) (w : World) (hb : By w A l) :
    Calls Try.prog 25 #[.slice A l.length c] w fun e w' => ∃ r A' c', e = .returned (.pointer (some ⟨r, 0, none⟩)) ∧ Blk w' r 81 #[.slice A' l.length c', .bool true] ∧
      Own 5 w' w.heap.size (.slice A' l.length c') l ∧ l.length ≤ c' ∧ c' ≤ 9223372036854775807 ∧ w.heap.size ≤ r ∧ Ext w w' := by
  have HB := Lib.hid (Bys.one hb hlc 23)
  have hl1 : [l].flatten.length ≤ 70368744177664 := by simpa using hl
  generalize hn : l.length = n at *
  have HN := Lib.hid hn
  clear hb hn
  go_enter Try.func25, Try.ntmps25
  go_wp2_with fail
  refine (join_any _ [l] 1 (by simp) hl1 _ HB.out).mono ?_
  rintro e w1 ⟨v, rfl, hO, hE⟩
  rw [show [l].flatten = l by simp] at hO
  obtain ⟨A', c', rfl, hby, hc1, hc2⟩ := hO.form
  go_wp2
  go_ret
  rw [HN.out] at *
  have hsz := hE.size
  simp at hsz
  refine ⟨w1.heap.size, A', c', rfl, Blk.new _ _ _, (hO.down (by simp)).alloc _, hc1, by unfold maxLen at hc2; omega, by omega, (((Ext.refl w).alloc _).trans hE).alloc _⟩

/-- what the law's round may turn: the readers; and behind the step nothing -/
def WR (B r q : Nat) (w w' : World) : Prop := Two r q w w' ∧ (B < w.heap.size → Same w w')
theorem Same.size {w w' : World} (h : Same w w') : w'.heap.size = w.heap.size := by obtain ⟨n, rfl⟩ := h; rfl
theorem wr_pre (B r q : Nat) : Pre (WR B r q) :=
  ⟨fun w => ⟨Two.refl r q w, fun _ => same_pre.refl w⟩, fun h k => ⟨h.1.trans k.1, fun hb => same_pre.trans (h.2 hb) (k.2 (by rw [(h.2 hb).size]; exact hb))⟩⟩

end Go.Proofs.Ytojgjmkkcadabaa
