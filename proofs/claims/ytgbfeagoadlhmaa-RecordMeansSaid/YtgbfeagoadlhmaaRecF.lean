
/-
  Contract of record.May.
-/
import Derived.Test.YtgbfeagoadlhmaaRecE
set_option linter.unusedVariables false
set_option linter.unusedSimpArgs false
namespace Go.Proofs.Ytgbfeagoadlhmaa
open Go.RowKit Pl

attribute [local go_sem] Oper.semAt_some

section
variable {P : Program}
theorem load_rowR {w : World} {g : Nat} {t ty : TypeId} {cs : Array Value} {d : TypeDesc} (h : Blk w g t cs) (hu : P.underlying ty = some d) (hd : (match d with | .struct _ | .array _ _ => true | _ => false) = true) (hi : (P.info? ty).map (·.size) = some cs.size) :
    (Instr.loadAt ty (.pointer (some ⟨g, 0, none⟩))).run P w = .ok (.agg cs) w := by
  simp only [Instr.loadAt, Instr.sureAddr, Sem.run_bind, Sem.run_pure, Result.andThen_ok, run_loadVar_row w g t ty cs (0, 0) d h hu hd hi]
theorem wpList_load_gR {ops : Array Oper} {rest : List Oper} {o : Oper} {a : Act} {w : World} {Q : Exit → Act → World → Prop} (hw : Region.wanted o (yielded ops a.tmps) = true) (ty : TypeId) (x : Operand) (ho : o.op = .load ty x)
    (p : Addr) (hx : a.eval x = .pointer (some p)) (u : Value) (hr : (Instr.loadAt ty (.pointer (some p))).run P w = .ok u w) (h : wpList P ops Q rest (a.put o.dst u) w) : wpList P ops Q (o :: rest) a w :=
  wpList_step fun K hK => by
    rw [if_pos hw]
    unfold Oper.wp
    rw [load_run ho (by rw [hx]; exact hr)]
    exact hK _ _ h
end
theorem recC_size (r : Rec) (A S : Option Addr) (ca cs : Nat) : (recC r A ca S cs).size = 9 := rfl
theorem load_rec {w : World} {g : Nat} {r : Rec} {A S : Option Addr} {ca cs : Nat} (h : Blk w g 65 (recC r A ca S cs)) : (Instr.loadAt 65 (.pointer (some ⟨g, 0, none⟩))).run Try.prog w = .ok (.agg (recC r A ca S cs)) w :=
  load_rowR h Try.underlying65 rfl (Try.recSize rfl)
theorem recC_one (r : Rec) (A S : Option Addr) (ca cs : Nat) : (recC r A ca S cs).all (·.oneCell') = true := by unfold recC; simp [Value.oneCell']
/-- a record of a kind with nothing else -/
def bareR (k : Int) : Rec := ⟨k, 0, 0, 0, [], [], 0, 0, 0⟩
theorem build_rec (k : Int) (W : World) : (Instr.build 65 #[(0, .int .i64 k)]).run Try.prog W = .ok (.agg (recC (bareR k) none 0 none 0)) W := by kernel_rfl
/-- P6.1 -/
def mayB (r : Rec) : Bool := isKindB r.kind && (namedB r && sameR (unnR r) (bareR r.kind))

set_option maxHeartbeats 3200000 in
set_option maxRecDepth 100000 in
theorem May_any (w : World) (r : Rec) (A S : Option Addr) (ca cs : Nat) (hA : By w A r.b) (hS : Nums w S r.subs) (hl : r.subs.length < 2 ^ 62) (hx : r.xid < 18446744073709551616) (hn : r.next < 18446744073709551616) (hb : r.b.length ≤ 2 ^ 62) :
    Calls Try.prog 70 #[.agg (recC r A ca S cs)] w fun e w' => e = .returned (.bool (mayB r)) ∧ Ext w w' := by
  have HP0 := Lib.hid (Blk.new w 65 (recC r A ca S cs))
  have HE0 := Lib.hid (ext_fresh w (.cells (recC r A ca S cs) 65))
  have HA0 := Lib.hid (hA.ext HE0.out)
  have HS0 := Lib.hid (hS.ext HE0.out)
  have hl0 := load_rec HP0.out
  have hzr := Try.recZero
  have HUL : Hid ((unnR r).subs.length < 2 ^ 62) := Lib.hid (by
    unfold unnR
    repeat' split
    all_goals first | exact hl | (show (0 : Nat) < 2 ^ 62; decide))
  have KU := Lib.hid (fun W a b => unnamed_any W r A S ca cs a b)
  have KN := Lib.hid (fun W a b => named_any W r A S ca cs a b (by omega) hx hn hb)
  have HMB : Hid (mayB r = (isKindB r.kind && (namedB r && sameR (unnR r) (bareR r.kind)))) := Lib.hid rfl
  have HC0 : Hid (∀ W, Blk W w.heap.size 65 (recC r A ca S cs) → W.cell? ⟨w.heap.size, 0, none⟩ = some (.int .i64 r.kind)) := Lib.hid (fun W hb => by rw [hb.cell]; rfl)
  clear hA hS
  generalize hC : recC r A ca S cs = C at *
  have HSZ : Hid (C.size = 9) := Lib.hid (by rw [← hC]; rfl)
  clear hC
  go_enter Try.func70, Try.ntmps70
  go_wp2_with (refine wpList_load_gR rfl 65 _ rfl _ rfl _ hl0 ?_)
  refine (KU.out _ HA0.out HS0.out).mono ?_
  rintro e w1 ⟨A1, ca1, S1, cs1, rfl, hA1, hS1, hE1⟩
  have HP1 := Lib.hid (HP0.out.ext hE1)
  have HE1 := Lib.hid (HE0.out.trans hE1)
  have HA1 := Lib.hid (HA0.out.ext hE1)
  have HS1 := Lib.hid (HS0.out.ext hE1)
  have HUA := Lib.hid hA1
  have HUS := Lib.hid hS1
  have HBn := Lib.hid (Blk.new w1 65 #[.int .i64 0, .int .u64 0, .int .i64 0, .int .i64 0, .slice none 0 0, .slice none 0 0, .int .u64 0, .int .u64 0, .int .u64 0])
  have HX2 := Lib.hid ((ext_fresh w1 (.cells #[.int .i64 0, .int .u64 0, .int .i64 0, .int .i64 0, .slice none 0 0, .slice none 0 0, .int .u64 0, .int .u64 0, .int .u64 0] 65)).setRowE (Nat.le_refl w1.heap.size) (recC (unnR r) A1 ca1 S1 cs1))
  have HQ2 := Lib.hid (HBn.out.rowE (recC (unnR r) A1 ca1 S1 cs1))
  obtain ⟨w2, hw2⟩ : ∃ w2, (w1.alloc (.cells #[.int .i64 0, .int .u64 0, .int .i64 0, .int .i64 0, .slice none 0 0, .slice none 0 0, .int .u64 0, .int .u64 0, .int .u64 0] 65)).setRow w1.heap.size (recC (unnR r) A1 ca1 S1 cs1) = w2 := ⟨_, rfl⟩
  rw [hw2] at HX2 HQ2
  have HP2 := Lib.hid (HP1.out.ext HX2.out)
  have HE2 := Lib.hid (HE1.out.trans HX2.out)
  have HUA2 := Lib.hid (HUA.out.ext HX2.out)
  have HUS2 := Lib.hid (HUS.out.ext HX2.out)
  have KN2 := Lib.hid (KN.out w2 (HA1.out.ext HX2.out) (HS1.out.ext HX2.out))
  have hl2 := load_rowR (P := Try.prog) (ty := 65) HP2.out Try.underlying65 rfl (Try.recSize HSZ.out)
  clear hA1 hS1 hE1 HP1 HA1 HS1 HUA HUS HX2 HP0 HE0 HA0 HS0 HE1 hl0 KU KN
  have hrs := recC_size (unnR r) A1 S1 ca1 cs1
  have hro := recC_one (unnR r) A1 S1 ca1 cs1
  generalize hU : recC (unnR r) A1 ca1 S1 cs1 = U at *
  have HU := Lib.hid hU
  clear hU
  cases hk : isKindB r.kind with
  | false =>
    have HM : Hid (mayB r = false) := Lib.hid (by rw [HMB.out, hk]; rfl)
    clear hk HMB
    go_wp2_with (refine wpList_store_row rfl 65 _ _ rfl _ _ rfl rfl _ _ HBn.out (Try.recSize hrs) (by rw [hrs]; rfl) hro ?_; rw [hw2]; clear hw2 HBn)
    go_ret
    exact ⟨by rw [HM.out]; rfl, HE2.out⟩
  | true =>
    have HMB2 : Hid (mayB r = (namedB r && sameR (unnR r) (bareR r.kind))) := Lib.hid (by rw [HMB.out, hk]; rfl)
    clear hk HMB
    cases hnb : namedB r with
    | false =>
      rw [hnb] at KN2
      have HM : Hid (mayB r = false) := Lib.hid (by rw [HMB2.out, hnb]; rfl)
      clear hnb HMB2
      go_wp2_with (first | (refine wpList_store_row rfl 65 _ _ rfl _ _ rfl rfl _ _ HBn.out (Try.recSize hrs) (by rw [hrs]; rfl) hro ?_; rw [hw2]; clear hw2 HBn) | (refine wpList_load_gR rfl 65 _ rfl _ rfl _ hl2 ?_))
      refine KN2.out.mono ?_
      rintro e w3 ⟨rfl, hE3⟩
      go_wp2_with fail
      go_ret
      exact ⟨by rw [HM.out]; rfl, HE2.out.trans hE3⟩
    | true =>
      rw [hnb] at KN2
      have HM : Hid (mayB r = sameR (unnR r) (bareR r.kind)) := Lib.hid (by rw [HMB2.out, hnb]; rfl)
      clear hnb HMB2
      obtain ⟨sb, hsb⟩ : ∃ b, sameR (unnR r) (bareR r.kind) = b := ⟨_, rfl⟩
      have HSB := Lib.hid hsb
      clear hsb
      go_wp2_with (first | (refine wpList_store_row rfl 65 _ _ rfl _ _ rfl rfl _ _ HBn.out (Try.recSize hrs) (by rw [hrs]; rfl) hro ?_; rw [hw2]; clear hw2 HBn) | (refine wpList_load_gR rfl 65 _ rfl _ rfl _ hl2 ?_))
      refine KN2.out.mono ?_
      rintro e w3 ⟨rfl, hE3⟩
      have HQ3 := Lib.hid (HQ2.out.ext hE3)
      have HE3 := Lib.hid (HE2.out.trans hE3)
      have hl3 := load_rowR (P := Try.prog) (ty := 65) HQ3.out Try.underlying65 rfl (Try.recSize hrs)
      have c0 := HC0.out w3 (HP2.out.ext hE3)
      have hbr := build_rec r.kind
      have KS := Same_any w3 (unnR r) (bareR r.kind) A1 none S1 none ca1 0 cs1 0 (HUA2.out.ext hE3) (.inl rfl) (HUS2.out.ext hE3) (.inl rfl) HUL.out
      rw [HU.out, HSB.out] at KS
      rw [show recC (bareR r.kind) none 0 none 0 = #[.int .i64 r.kind, .int .u64 0, .int .i64 0, .int .i64 0, .slice none 0 0, .slice none 0 0, .int .u64 0, .int .u64 0, .int .u64 0] from rfl] at KS hbr
      have KS := Lib.hid KS
      clear hE3 hl2
      go_wp2_with (refine wpList_load_gR rfl 65 _ rfl _ rfl _ hl3 ?_)
      with_reducible refine KS.out.mono ?_
      rintro e w4 ⟨rfl, hE4⟩
      go_wp2_with fail
      go_ret
      exact ⟨by rw [HM.out, HSB.out]; rfl, HE3.out.trans hE4⟩

end Go.Proofs.Ytgbfeagoadlhmaa
