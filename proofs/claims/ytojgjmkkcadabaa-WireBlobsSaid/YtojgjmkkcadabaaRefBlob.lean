/-
  Contract of the reference's Blob.
-/
import Derived.Test.YtojgjmkkcadabaaRefJoin
set_option linter.unusedVariables false
namespace Go.Proofs.Ytojgjmkkcadabaa
open Go.RowKit Pl

set_option maxHeartbeats 1600000 in
theorem refblob_any (A : Option Addr) (l : List UInt8) (c : Nat) (hl : l.length ≤ 65535) (hlc : l.length ≤ c) (w : World) (hb : By w A l) :
    Calls Try.prog 23 #[.slice A l.length c] w fun e w' => ∃ g, e = .returned (.slice (some ⟨g, 0, none⟩) (l.length + 2) (l.length + 2)) ∧ Blk w' g 5 (cells8 (blob l)) ∧ w.heap.size ≤ g ∧ Ext w w' := by
  generalize hn : l.length = n at *
  have HN := Lib.hid hn
  have HB := Lib.hid hb
  clear hb hn
  go_enter Try.func23, Try.ntmps23
  go_wp2_with fail
  refine (rput_any n 2 (by show n < 65536; omega) (by omega) _).mono ?_
  rintro e w1 ⟨A1, c1, rfl, hb1, hc1, hE1⟩
  go_wp2_with fail
  have h2 : By w1 A l := HB.out.ext hE1
  have HB2 := Bys.two (c := c1) (d := c) hb1 (by rw [put_length]; omega) h2 (by rw [HN.out]; omega) 23
  rw [put_length, HN.out] at HB2
  have hf : [put n 2, l].flatten = blob l := by simp [blob, HN.out]
  have hj := rjoin_any _ [put n 2, l] 2 (by simp) (by rw [hf, blob_length, HN.out]; omega) _ HB2
  rw [hf, blob_length, HN.out] at hj
  refine hj.mono ?_
  rintro e w2 ⟨g, rfl, hB, hg, hE⟩
  have HO := Lib.hid hB
  have hE2 : Ext w w2 := (hE1.alloc _).trans hE
  have hgw : w.heap.size ≤ g := by have := hE1.size; simp at hg; omega
  clear hj HB2 h2 hE hf hB hb1
  go_wp2
  go_ret
  exact ⟨g, rfl, HO.out, hgw, hE2⟩

end Go.Proofs.Ytojgjmkkcadabaa
