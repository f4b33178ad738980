
/-
  The law RecordMeans, walked.
-/
import Derived.Test.YtgbfeagoadlhmaaRecS
set_option linter.unusedVariables false
set_option linter.unusedSimpArgs false
namespace Go.Proofs.Ytgbfeagoadlhmaa
open Go.RowKit Pl

attribute [local go_sem] Oper.semAt_some

set_option maxHeartbeats 12800000 in
set_option maxRecDepth 100000 in
theorem means_law (w : World) (r : Rec) (A S : Option Addr) (ca cs pl ot : Nat) (Bh : Option Addr) (beh : List UInt8) (cb : Nat) (z0 z1 z2 : Int) (hA : By w A r.b) (hS : Nums w S r.subs) (hBh : By w Bh beh) (hcb : beh.length ≤ cb) (hca : r.b.length ≤ ca) (hpl : pl < 18446744073709551616) (hot : ot < 18446744073709551616)
    (hk : -9223372036854775808 ≤ r.kind ∧ r.kind ≤ 9223372036854775807) (hx : r.xid < 18446744073709551616) (hnx : r.next < 18446744073709551616) (hrd : r.redo < 18446744073709551616) (htl : r.tml < 18446744073709551616) (hsu : ∀ i, i < r.subs.length → r.subs.getD i 0 < 18446744073709551616) :
    Calls Try.prog 9 #[.agg (recC r A ca S cs), .int .u64 (pl : Int), .int .u64 (ot : Int), .slice Bh beh.length cb, .agg #[.int .i64 z0, .int .i64 z1, .int .i64 z2]] w fun e w' => e = .returned (.bool true) ∧ Ext w w' := by
  have HM := Lib.hid (fun h1 h2 h3 h4 h5 => means_main w r A S ca cs pl ot Bh beh cb z0 z1 z2 hA hS hBh hca h1 h2 h3 h4 h5)
  have HP0 := Lib.hid ((Blk.new w 65 (recC r A ca S cs)).alloc (.cells #[.int .i64 z0, .int .i64 z1, .int .i64 z2] 40))
  have HZ0 := Lib.hid (Blk.new (w.alloc (.cells (recC r A ca S cs) 65)) 40 #[.int .i64 z0, .int .i64 z1, .int .i64 z2])
  have HE0 := Lib.hid ((ext_fresh w (.cells (recC r A ca S cs) 65)).alloc (.cells #[.int .i64 z0, .int .i64 z1, .int .i64 z2] 40))
  rw [World.size_alloc] at HZ0
  have HA0 := Lib.hid (hA.ext HE0.out)
  have HS0 := Lib.hid (hS.ext HE0.out)
  have HH0 := Lib.hid (hBh.ext HE0.out)
  have KM := Lib.hid (fun W => Much6_any W r A S ca cs)
  have HLR := Lib.hid (fun W (h : Blk W w.heap.size 65 (recC r A ca S cs)) => load_rec h)
  have KBN := Lib.hid (fun W a b ho h => Bytes_no W r A S ca cs pl a b ho h)
  have KBY := Lib.hid (fun W a b ho h1 h2 h3 => Bytes_yes W r A S ca cs pl a b ho h1 h2 h3)
  have KSZ := Lib.hid (fun W a b ho h1 h2 => Size_yes W r A S ca cs a b ho h1 h2)
  have KSR := Lib.hid (fun W A4 A5 c4 c5 a b c d e => Same_ref W r r A4 A A5 S c4 ca c5 cs a b c d e)
  have KSA := Lib.hid (fun W A4 A5 c4 c5 a b c d e => Same_any W r r A4 A A5 S c4 ca c5 cs a b c d e)
  rw [sameR_self r] at KSR KSA
  have HCA := Lib.hid hca
  have HOK : Hid ((decide (70000 < r.b.length) || decide (9000 < r.subs.length)) = false → RecOk r) := Lib.hid (fun h => by
    simp only [Bool.or_eq_false_iff, decide_eq_false_iff_not] at h
    exact ⟨hk.1, hk.2, hx, hnx, hrd, htl, by omega, by omega, hsu⟩)
  clear hA hS hBh hk hx hnx hrd htl hsu hca
  generalize recC r A ca S cs = C at *
  cases hmu : (decide (70000 < r.b.length) || decide (9000 < r.subs.length)) with
  | true =>
    rw [hmu] at KM
    clear hmu HOK
    go_enter Try.func9, Try.ntmps9
    go_wp2_with fail
    refine (known6_any _).mono ?_
    rintro e w1 ⟨rfl, hE1⟩
    have hl1 := HLR.out _ (HP0.out.ext hE1)
    go_wp2_with (refine wpList_load_gR rfl 65 _ rfl _ rfl _ hl1 ?_)
    refine (KM.out _).mono ?_
    rintro e w2 ⟨rfl, hE2⟩
    go_wp2_with fail
    go_ret
    exact ⟨rfl, (HE0.out.trans hE1).trans hE2⟩
  | false =>
    rw [hmu] at KM
    have HOK2 := Lib.hid (HOK.out hmu)
    have HMU := Lib.hid hmu
    have hsl : r.subs.length < 2 ^ 62 := HOK2.out.subs
    have HSL := Lib.hid hsl
    clear hmu HOK hsl
    by_cases hbe : 9000 < beh.length
    · have d1 : decide ((9000 : Int) < (beh.length : Int)) = true := decide_eq_true (by omega)
      clear hbe
      go_enter Try.func9, Try.ntmps9
      go_wp2_with fail
      refine (known6_any _).mono ?_
      rintro e w1 ⟨rfl, hE1⟩
      have hl1 := HLR.out _ (HP0.out.ext hE1)
      go_wp2_with (refine wpList_load_gR rfl 65 _ rfl _ rfl _ hl1 ?_)
      refine (KM.out _).mono ?_
      rintro e w2 ⟨rfl, hE2⟩
      go_wp2_with fail
      go_ret
      exact ⟨rfl, (HE0.out.trans hE1).trans hE2⟩
    · have d1 : decide ((9000 : Int) < (beh.length : Int)) = false := decide_eq_false (by omega)
      by_cases hmay : mayB r = true ∧ pl ≤ 4611686018427387904
      · exact HM.out HMU.out HOK2.out hmay.1 hbe hmay.2
      · have hno : mayB r = false ∨ 4611686018427387904 < pl := by
          cases hm : mayB r with
          | false => exact .inl rfl
          | true => right; rcases Nat.lt_or_ge 4611686018427387904 pl with h | h; exact h; exact absurd ⟨hm, h⟩ hmay
        have HNO := Lib.hid hno
        clear hbe hmay hno
        go_enter Try.func9, Try.ntmps9
        go_wp2_with fail
        refine (known6_any _).mono ?_
        rintro e w1 ⟨rfl, hE1⟩
        have hl1 := HLR.out _ (HP0.out.ext hE1)
        go_wp2_with (refine wpList_load_gR rfl 65 _ rfl _ rfl _ hl1 ?_)
        refine (KM.out _).mono ?_
        rintro e w2 ⟨rfl, hE2⟩
        have hl2 := HLR.out _ ((HP0.out.ext hE1).ext hE2)
        go_wp2_with (refine wpList_load_gR rfl 65 _ rfl _ rfl _ hl2 ?_)
        refine (KBN.out _ ((HA0.out.ext hE1).ext hE2) ((HS0.out.ext hE1).ext hE2) HOK2.out HNO.out).mono ?_
        rintro e w3 ⟨rfl, hE3⟩
        go_wp2_with fail
        refine (num6_any _ _).mono ?_
        rintro e w4 ⟨rfl, rfl⟩
        go_wp2_with fail
        go_ret
        exact ⟨rfl, ((HE0.out.trans hE1).trans hE2).trans hE3⟩

end Go.Proofs.Ytgbfeagoadlhmaa
