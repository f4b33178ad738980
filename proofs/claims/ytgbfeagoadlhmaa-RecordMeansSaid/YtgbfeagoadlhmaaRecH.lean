
/-
  Contracts of record.Bytes, record.Size.
-/
import Derived.Test.YtgbfeagoadlhmaaRecG
set_option linter.unusedVariables false
set_option linter.unusedSimpArgs false
namespace Go.Proofs.Ytgbfeagoadlhmaa
open Go.RowKit Go.Maps Pl

attribute [local go_sem] Oper.semAt_some

section
variable {P : Program} {k t e : TypeId} {w : World} {b n c : Nat} {F : Lit → Option Value} {z key : Value} {l : Lit}
theorem Mp.lookR (h : Mp P k w b n F c) (K : Keyed P k) (ht : P.underlying t = some (.map k e)) (hz : (zeroValue e).run P w = .ok z w) (hkey : keyOf P k key = some l) :
    (Instr.lookup t (.map (some b)) key false).run P w = .ok ((F l).getD z) w := by
  obtain ⟨D, h1, h2, h3, _⟩ := h
  obtain ⟨v, ps, hr, hv⟩ := h1.lookup K ht hz (zd := .held z) (zp := []) rfl hkey
  simp only [heldR, Option.some.injEq, Prod.mk.injEq] at hv
  cases hF : F l with
  | none =>
    have hh := h3 l hF
    rw [Maps.atKey_of_not_has hh] at hv
    have : v = z := by injection hv.1
    rw [hr, this]; rfl
  | some v0 =>
    have hh := h2 l v0 hF
    rw [hh] at hv
    have : v = v0 := by injection hv.1
    rw [hr, this]; rfl
theorem lookR_run (h : Mp P k w b n F c) (K : Keyed P k) (ht : P.underlying t = some (.map k e)) (hz : (zeroValue e).run P w = .ok z w) (hkey : keyOf P k key = some l) {v : Value} (hF : F l = some v) {o : Oper} {m x : Operand} (ho : o.op = .lookup t m x false) {ρ : Operand → Value} (hm : ρ m = .map (some b)) (hx : ρ x = key) :
    (execOp ρ o).run P w = .ok (.value v) w := by
  have h1 := h.lookR K ht hz hkey
  rw [hF] at h1
  simp [execOp, ho, hm, hx, h1, Result.andThen]
theorem wpList_run_gR {ops : Array Oper} {rest : List Oper} {o : Oper} {a : Act} {Q : Exit → Act → World → Prop} (hw : Region.wanted o (yielded ops a.tmps) = true) (u : Value) (hr : (execOp a.eval o).run P w = .ok (.value u) w)
    (h : wpList P ops Q rest (a.put o.dst u) w) : wpList P ops Q (o :: rest) a w :=
  wpList_step fun K hK => by
    rw [if_pos hw]
    unfold Oper.wp
    rw [hr]
    exact hK _ _ h
end
theorem Try.formZero (W : World) : (zeroValue 113).run Try.prog W = .ok .nilFunc W := by kernel_rfl
theorem build_coder (p s : Addr) (n c : Nat) (W : World) : (Instr.build 112 #[(0, .pointer (some p)), (1, .slice (some s) n c)]).run Try.prog W = .ok (.agg #[.pointer (some p), .slice (some s) n c, .pointer none]) W := by kernel_rfl
theorem Nums.drew {w : World} {A : Option Addr} {l : List Nat} (h : Nums w A l) : Nums w.drew A l := h
theorem load_kind {w : World} {p : Addr} {n : Int} (h : w.cell? p = some (.int .i64 n)) : (Instr.loadAt 62 (.pointer (some p))).run Try.prog w = .ok (.int .i64 n) w := by
  simp [go_sem, h]

theorem Own.byAt {e : TypeId} {w : World} {B g n cap : Nat} {D : List UInt8} (h : Own e w B (.slice (some ⟨g, 0, none⟩) n cap) D) (hn : n = D.length) : By w (some ⟨g, 0, none⟩) D :=
  .inr ⟨g, 0, rfl, fun i hi => by rw [Nat.zero_add]; exact (h.cellAt hn (by omega)).1⟩
/-- a head laid over what was written: the kind, how many, the place, the sum -/
def headR (D : List UInt8) (k : Int) (pl : Nat) : List UInt8 :=
  over (over (over (D.set 16 (UInt8.ofNat k.toNat)) 0 (put D.length 4)) 4 (put pl 8)) 12 (put (crc ((over (over (D.set 16 (UInt8.ofNat k.toNat)) 0 (put D.length 4)) 4 (put pl 8)).take 12 ++ (over (over (D.set 16 (UInt8.ofNat k.toNat)) 0 (put D.length 4)) 4 (put pl 8)).drop 16)).toNat 4)
def bytesR (r : Rec) (pl : Nat) : List UInt8 := headR (List.replicate 17 0 ++ bodyR r) r.kind pl
theorem headR_length {D : List UInt8} {k : Int} {pl : Nat} (h : 17 ≤ D.length) : (headR D k pl).length = D.length := by
  have h1 : (D.set 16 (UInt8.ofNat k.toNat)).length = D.length := List.length_set
  have h2 : (over (D.set 16 (UInt8.ofNat k.toNat)) 0 (put D.length 4)).length = D.length := by rw [over_length _ _ _ (by rw [put_length, h1]; omega), h1]
  have h3 : (over (over (D.set 16 (UInt8.ofNat k.toNat)) 0 (put D.length 4)) 4 (put pl 8)).length = D.length := by rw [over_length _ _ _ (by rw [put_length, h2]; omega), h2]
  unfold headR
  rw [over_length _ _ _ (by rw [put_length, h3]; omega), h3]
theorem bytesR_length (r : Rec) (pl : Nat) : (bytesR r pl).length = 17 + (bodyR r).length := by
  unfold bytesR
  rw [headR_length (by rw [List.length_append, List.length_replicate]; omega), List.length_append, List.length_replicate]
theorem made17 : (madeCells #[.int .u8 0] 17).toList.take (List.replicate 17 (0 : UInt8)).length = (List.replicate 17 (0 : UInt8)).map u8 := by kernel_rfl

set_option maxHeartbeats 1600000 in
set_option maxRecDepth 100000 in
theorem Bytes_no (w : World) (r : Rec) (A S : Option Addr) (ca cs pl : Nat) (hA : By w A r.b) (hS : Nums w S r.subs) (ho : RecOk r) (hno : mayB r = false ∨ 4611686018427387904 < pl) :
    Calls Try.prog 34 #[.agg (recC r A ca S cs), .int .u64 (pl : Int)] w fun e w' => e = .returned (.tuple #[.slice none 0 0, .int .i64 2]) ∧ Ext w w' := by
  have HP0 := Lib.hid (Blk.new w 65 (recC r A ca S cs))
  have HE0 := Lib.hid (ext_fresh w (.cells (recC r A ca S cs) 65))
  have hl0 := load_rec HP0.out
  have KM := Lib.hid (May_any _ r A S ca cs (hA.ext HE0.out) (hS.ext HE0.out) ho.subs ho.xid ho.next ho.b)
  clear hA hS ho
  generalize recC r A ca S cs = C at *
  cases hm : mayB r with
  | false =>
    rw [hm] at KM
    clear hno hm
    go_enter Try.func34, Try.ntmps34
    go_wp2_with (refine wpList_load_gR rfl 65 _ rfl _ rfl _ hl0 ?_)
    refine KM.out.mono ?_
    rintro e w1 ⟨rfl, hE1⟩
    go_wp2_with fail
    go_ret2
    exact ⟨rfl, HE0.out.trans hE1⟩
  | true =>
    rw [hm] at KM hno
    have hpl : decide ((4611686018427387904 : Int) < (pl : Int)) = true := decide_eq_true (by rcases hno with h | h; cases h; omega)
    clear hno hm
    go_enter Try.func34, Try.ntmps34
    go_wp2_with (refine wpList_load_gR rfl 65 _ rfl _ rfl _ hl0 ?_)
    refine KM.out.mono ?_
    rintro e w1 ⟨rfl, hE1⟩
    go_wp2_with fail
    go_ret2
    exact ⟨rfl, HE0.out.trans hE1⟩

set_option maxHeartbeats 6400000 in
set_option maxRecDepth 100000 in
theorem Bytes_yes (w : World) (r : Rec) (A S : Option Addr) (ca cs pl : Nat) (hA : By w A r.b) (hS : Nums w S r.subs) (ho : RecOk r) (hca : r.b.length ≤ ca) (hm : mayB r = true) (hpl : pl ≤ 4611686018427387904) :
    Calls Try.prog 34 #[.agg (recC r A ca S cs), .int .u64 (pl : Int)] w fun e w' => ∃ v, e = .returned (.tuple #[v, .int .i64 0]) ∧ Own 5 w' w.heap.size v (bytesR r pl) ∧ Ext w w' := by
  have HP0 := Lib.hid (Blk.new w 65 (recC r A ca S cs))
  have HE0 := Lib.hid (ext_fresh w (.cells (recC r A ca S cs) 65))
  have hl0 := load_rec HP0.out
  have KM := Lib.hid (May_any _ r A S ca cs (hA.ext HE0.out) (hS.ext HE0.out) ho.subs ho.xid ho.next ho.b)
  rw [hm] at KM
  obtain ⟨f, hf1, hf2, hk1, hk2, hbl, hf3⟩ := form_co r hm ho A S ca cs hca
  have HF1 := Lib.hid hf1
  have HF3 := Lib.hid hf3
  have HA0 := Lib.hid (hA.ext HE0.out)
  have HS0 := Lib.hid (hS.ext HE0.out)
  have HAB : Hid (r.b = [] ∨ ∀ b o, A = some ⟨b, o, none⟩ → b < w.heap.size) := Lib.hid (by
    rcases hA with h | ⟨b, o, rfl, hc⟩
    · exact .inl h
    · by_cases h0 : r.b = []
      · exact .inl h0
      · right
        intro b' o' e
        injection e with e; injection e with e1 e2
        subst e1
        exact block_lt_of_cell (hc 0 (List.length_pos_iff.2 h0)))
  have HSB : Hid (r.subs = [] ∨ ∀ b o, S = some ⟨b, o, none⟩ → b < w.heap.size) := Lib.hid (by
    rcases hS with h | ⟨b, o, rfl, hc⟩
    · exact .inl h
    · by_cases h0 : r.subs = []
      · exact .inl h0
      · right
        intro b' o' e
        injection e with e; injection e with e1 e2
        subst e1
        exact block_lt_of_cell (hc 0 (List.length_pos_iff.2 h0)))
  have HBR : Hid (bytesR r pl = headR (List.replicate 17 0 ++ bodyR r) r.kind pl) := Lib.hid rfl
  have HRF : Hid ((recC r A ca S cs)[0]? = some (.int .i64 r.kind)) := Lib.hid rfl
  have hmk := make8 17 (by omega)
  rw [show ((17 : Nat) : Int) = 17 from rfl] at hmk
  have hbc := build_coder
  have dpl : decide ((4611686018427387904 : Int) < (pl : Int)) = false := decide_eq_false (by omega)
  have hkk := key_kind (n := r.kind) (by omega) (by omega)
  have HKK := Lib.hid hkk
  obtain ⟨kd, hkd⟩ : ∃ kd : Nat, r.kind = (kd : Int) := ⟨r.kind.toNat, by omega⟩
  rw [hkd] at HF1 HRF HKK hk1 hk2
  have HKD := Lib.hid hkd
  have HZZ := Lib.hid Try.formZero
  clear hA hS hm ho hca hf1 hf3 hkk hkd
  generalize recC r A ca S cs = C at *
  go_enter Try.func34, Try.ntmps34
  go_wp2_with (refine wpList_load_gR rfl 65 _ rfl _ rfl _ hl0 ?_)
  refine KM.out.mono ?_
  rintro e w1 ⟨rfl, hE1⟩
  have HP1 := Lib.hid (HP0.out.ext hE1)
  have HE1 := Lib.hid (HE0.out.trans hE1)
  have HA1 := Lib.hid (HA0.out.ext hE1)
  have HS1 := Lib.hid (HS0.out.ext hE1)
  clear hE1 HP0 HE0 HA0 HS0 hl0 KM
  go_upto_region 4 with fail
  have hX3 := (ext_fresh w1 (.cells (madeCells #[.int .u8 0] 17) 5)).alloc (.cells #[.pointer (some ⟨w.heap.size, 0, none⟩), .slice (some ⟨w1.heap.size, 0, none⟩) 17 17, .pointer none] 112)
  have hC3 : Co ((w1.alloc (.cells (madeCells #[.int .u8 0] 17) 5)).alloc (.cells #[.pointer (some ⟨w.heap.size, 0, none⟩), .slice (some ⟨w1.heap.size, 0, none⟩) 17 17, .pointer none] 112)) w.heap.size w.heap.size (w1.heap.size + 1) (.slice (some ⟨w1.heap.size, 0, none⟩) 17 17) C (List.replicate 17 0) := by
    refine ⟨?_, HP1.out.ext hX3, ?_, Nat.le_refl _, by have := HE1.out.size; omega⟩
    · have := Blk.new (w1.alloc (.cells (madeCells #[.int .u8 0] 17) 5)) 112 #[.pointer (some ⟨w.heap.size, 0, none⟩), .slice (some ⟨w1.heap.size, 0, none⟩) 17 17, .pointer none]
      rwa [World.size_alloc] at this
    · have := own_of (D := List.replicate 17 0) (B := w.heap.size) (g := w1.heap.size) (cap := 17) HE1.out.size (by simp) (by unfold maxLen; omega) ((Blk.new w1 5 (madeCells #[.int .u8 0] 17)).alloc (.cells #[.pointer (some ⟨w.heap.size, 0, none⟩), .slice (some ⟨w1.heap.size, 0, none⟩) 17 17, .pointer none] 112)) (by kernel_rfl) made17
      rwa [List.length_replicate] at this
  have HC3 := Lib.hid hC3
  have HE3 := Lib.hid (HE1.out.trans hX3)
  have HA3 := Lib.hid (HA1.out.ext hX3)
  have HS3 := Lib.hid (HS1.out.ext hX3)
  clear hX3 hC3 HA1 HS1 HE1 HP1 hmk hbc
  have hgc : w1.heap.size + 1 = w1.heap.size + 1 := rfl
  generalize (w1.alloc (.cells (madeCells #[.int .u8 0] 17) 5)).alloc (.cells #[.pointer (some ⟨w.heap.size, 0, none⟩), .slice (some ⟨w1.heap.size, 0, none⟩) 17 17, .pointer none] 112) = w3 at *
  generalize Value.slice (some ⟨w1.heap.size, 0, none⟩) 17 17 = v3 at *
  refine wp_eager (coR_pre w.heap.size w.heap.size (w1.heap.size + 1)) (n := 6) (by kernel_rfl) (by kernel_rfl) ?_
  refine Eg.batchK (coR_pre w.heap.size w.heap.size (w1.heap.size + 1)) (by intro c a d v w h; cases d <;> exact h) (by kernel_rfl) (n := 4) [1, 4] [] _ (by kernel_rfl) (fun K hK => ?_); (simp only [pickOps, List.getElem?_toArray, List.getElem?_cons_zero, List.getElem?_cons_succ, Option.toList_some, List.cons_append, List.nil_append]); (repeat (first | go_big_quiet_step (fail) | quiet_step (fail))); refine wpQuiet_nil (hK _ ?_); clear hK K
  (refine Eg.read (coR_pre w.heap.size w.heap.size (w1.heap.size + 1)) (by intro c a d v w h; cases d <;> exact h) (by kernel_rfl) (i := 2) (n := 3) (l := [1, 4]) rfl (by kernel_rfl) (by kernel_rfl) rfl ⟨_, fun w' hR => load_run rfl (load_kind (CoR.fld hR HC3.out.drew HRF.out)), ?_⟩); (simp only [Act.put, List.setIfInBounds_toArray, List.getElem_toArray, List.getElem_cons_succ, List.getElem_cons_zero, List.set_cons_succ, List.set_cons_zero])
  refine Eg.act (coR_pre w.heap.size w.heap.size (w1.heap.size + 1)) (i := 0) (n := 2) (l := [1, 4, 2]) rfl (by kernel_rfl) ?_
  go_wp2_with fail
  refine (forms_any _).mono ?_
  rintro e w4 ⟨gm, F, cF, rfl, hM, hF, hgm, hE4⟩
  have HC4 := Lib.hid (HC3.out.drew.ext hE4)
  have HA4 := Lib.hid (HA3.out.drew.ext hE4)
  have HS4 := Lib.hid (HS3.out.drew.ext hE4)
  have HE4 := Lib.hid (HE3.out.drew.trans hE4)
  have HM := Lib.hid hM
  have HFk := Lib.hid ((hF (kd : Int)).trans HF1.out)
  have HX4 := Lib.hid (coR_of HC3.out.drew HC4.out (Below.mono hE4 HC3.out.drew.size) hE4.size)
  clear hM hF hE4 hgm
  go_wp2_with fail
  refine ⟨HX4.out, ?_⟩
  refine Eg.act (coR_pre w.heap.size w.heap.size (w1.heap.size + 1)) (i := 3) (n := 1) (l := [1, 4, 2, 0]) rfl (by kernel_rfl) ?_
  go_wp2_with (refine wpList_run_gR rfl _ (lookR_run HM.out Try.kindKeys Try.underlying114 (HZZ.out _) HKK.out HFk.out rfl rfl rfl) ?_)
  refine ⟨(coR_pre w.heap.size w.heap.size (w1.heap.size + 1)).refl _, ?_⟩
  refine Eg.act (coR_pre w.heap.size w.heap.size (w1.heap.size + 1)) (i := 5) (n := 0) (l := [1, 4, 2, 0, 3]) rfl (by kernel_rfl) ?_
  go_wp2_with fail
  refine (HF3.out w4 _ _ _ _ HA4.out HS4.out HAB.out HSB.out HC4.out).mono ?_
  rintro e w5 ⟨⟨x5, rfl⟩, ⟨v5, hC5⟩, hB5, hZ5⟩
  have HC5 := Lib.hid hC5
  have HB5 := Lib.hid hB5
  have HX5 := Lib.hid (coR_of HC4.out hC5 hB5 hZ5)
  clear hC5 hB5 hZ5
  go_wp2_with fail
  refine ⟨HX5.out, ?_⟩
  refine Eg.finish (by kernel_rfl) ?_
  have HE5 : Hid (Ext w w5) := Lib.hid (Below.trans HE4.out HB5.out)
  have hDl : (List.replicate 17 (0 : UInt8) ++ bodyR r).length = 17 + (bodyR r).length := by rw [List.length_append, List.length_replicate]
  rcases HC5.out.own.2 with ⟨_, h0⟩ | ⟨g, cap, cur, rfl, hgB, _, hnc, hcm, _, _⟩
  · omega
  have c31 : w5.cell? ⟨w1.heap.size + 1, 1, none⟩ = some (.slice (some ⟨g, 0, none⟩) (List.replicate 17 (0 : UInt8) ++ bodyR r).length cap) := by rw [HC5.out.co.cell]; rfl
  have ck : w5.cell? ⟨w.heap.size, 0, none⟩ = some (.int .i64 (kd : Int)) := by rw [HC5.out.rc.cell]; exact HRF.out
  have HO5 := Lib.hid HC5.out.own
  generalize List.replicate 17 (0 : UInt8) ++ bodyR r = D at *
  have HDl := Lib.hid hDl
  obtain ⟨n, hn⟩ : ∃ n, D.length = n := ⟨_, rfl⟩
  have HN : Hid (n = D.length) := Lib.hid hn.symm
  rw [hn] at HO5 c31 hDl hnc
  have hn1 : 17 ≤ n := by omega
  have hn2 : n ≤ 3017 := by omega
  have hcm2 : cap ≤ 9223372036854775807 := by unfold maxLen at hcm; omega
  clear hn hDl hcm HC4 HA4 HS4 HE4 HM HFk HX4 HC3 HA3 HS3 HE3 HB5 HX5 HC5 HF1 HF3 hf2 HZZ HKK
  obtain ⟨x16, f16⟩ := HO5.out.cellAt HN.out (i := 16) (by omega)
  have hkm : (kd : Int) % 256 = (kd : Int) := by omega
  have hO6 := HO5.out.setByte HN.out (i := 16) (by omega) (UInt8.ofNat r.kind.toNat)
  rw [show (((UInt8.ofNat r.kind.toNat).toNat : Nat) : Int) = (kd : Int) by rw [HKD.out, Int.toNat_natCast, UInt8.toNat_ofNat']; omega] at hO6
  have HO6 := Lib.hid hO6
  have HN6 : Hid (n = (D.set 16 (UInt8.ofNat r.kind.toNat)).length) := Lib.hid (by rw [List.length_set]; exact HN.out)
  have HE6 := Lib.hid (HE5.out.setCell (p := ⟨g, 16, none⟩) hgB (.int .u8 (kd : Int)))
  have hmn : (n : Int) % 18446744073709551616 = (n : Int) := by omega
  have hrn : ((n : Int) < 0) = False := by simp
  have hidx : decide (16 < n) = true := decide_eq_true (by omega)
  clear hO6 HO5
  go_upto_region 7 with fail
  clear x16 f16 c31 ck
  generalize w5.setCell ⟨g, 16, none⟩ (.int .u8 (kd : Int)) = w6 at *
  have HBR2 : Hid (bytesR r pl = headR D r.kind pl) := Lib.hid HBR.out
  clear HBR
  have HH : Hid (headR D r.kind pl = over (over (over (D.set 16 (UInt8.ofNat r.kind.toNat)) 0 (put n 4)) 4 (put pl 8)) 12 (put (crc ((over (over (D.set 16 (UInt8.ofNat r.kind.toNat)) 0 (put n 4)) 4 (put pl 8)).take 12 ++ (over (over (D.set 16 (UInt8.ofNat r.kind.toNat)) 0 (put n 4)) 4 (put pl 8)).drop 16)).toNat 4)) := Lib.hid (by unfold headR; rw [← HN.out])
  generalize D.set 16 (UInt8.ofNat r.kind.toNat) = D1 at *
  have K1 := put_yes n 4 (by omega) (by omega) (by omega) w6
  rw [show ((4 : Nat) : Int) = 4 from rfl] at K1
  have K1 := Lib.hid K1
  have HL4 := Lib.hid (put_length n 4)
  go_wp2_with fail
  refine K1.out.mono ?_
  rintro e w7 ⟨g7, rfl, hB7, hg7, hE7⟩
  have HO7 := Lib.hid (HO6.out.ext hE7)
  have HE7 := Lib.hid (HE6.out.trans hE7)
  have HY7 := Lib.hid (By.of_blk hB7)
  have HN7 : Hid (n = (over D1 0 (put n 4)).length) := Lib.hid (by rw [over_length _ _ _ (by rw [HL4.out, ← HN6.out]; omega)]; exact HN6.out)
  clear hB7 hE7 K1 HO6 HE6 hg7
  go_upto_region 9 with (refine wpList_copy_own (w := w7) Try.byt rfl (.tmp 46) (.tmp 47) rfl HO7.out HN6.out HY7.out 0 n cap 4 4 (by rw [HL4.out]; decide) (by rw [HL4.out]; omega) (by rw [HL4.out]; omega) rfl rfl ?_; intro w8 hO8 hg8; have HO8 := Lib.hid hO8; have HE8 := Lib.hid (HE7.out.grown hg8 (fun k e => by cases e; exact hgB)); clear hO8 hg8 HO7 HE7 HY7)
  generalize over D1 0 (put n 4) = D2 at *
  have K2 := put_yes pl 8 (by omega) (by omega) (by omega) w8
  rw [show ((8 : Nat) : Int) = 8 from rfl] at K2
  have K2 := Lib.hid K2
  have HL8 := Lib.hid (put_length pl 8)
  go_wp2_with fail
  refine K2.out.mono ?_
  rintro e w9 ⟨g9, rfl, hB9, hg9, hE9⟩
  have HO9 := Lib.hid (HO8.out.ext hE9)
  have HE9 := Lib.hid (HE8.out.trans hE9)
  have HY9 := Lib.hid (By.of_blk hB9)
  have HN9 : Hid (n = (over D2 4 (put pl 8)).length) := Lib.hid (by rw [over_length _ _ _ (by rw [HL8.out, ← HN7.out]; omega)]; exact HN7.out)
  clear hB9 hE9 K2 HO8 HE8 hg9
  go_upto_region 11 with (refine wpList_copy_own (w := w9) Try.byt rfl (.tmp 55) (.tmp 56) rfl HO9.out HN7.out HY9.out 4 8 (cap - 4) 8 8 (by rw [HL8.out]; decide) (by rw [HL8.out]; rfl) (by rw [HL8.out]; omega) rfl rfl ?_; intro w10 hO10 hg10; have HO10 := Lib.hid hO10; have HE10 := Lib.hid (HE9.out.grown hg10 (fun k e => by cases e; exact hgB)); clear hO10 hg10 HO9 HE9 HY9)
  generalize over D2 4 (put pl 8) = D3 at *
  have hby10 := HO10.out.byAt HN9.out
  have K3 := Lib.hid (sumOf_any w10 g n cap D3 HN9.out.symm hn1 hnc hcm2 hby10)
  have hcr := (crc (D3.take 12 ++ D3.drop 16)).isLt
  have HCR : Hid ((crc (D3.take 12 ++ D3.drop 16)).toNat < 4294967296) := Lib.hid hcr
  clear hby10 hcr
  generalize (crc (D3.take 12 ++ D3.drop 16)).toNat = cn at *
  have hcn : (cn : Int) % 18446744073709551616 = (cn : Int) := by have := HCR.out; omega
  have hcn2 := HCR.out
  go_wp2_with fail
  refine K3.out.mono ?_
  rintro e w11 ⟨rfl, hE11⟩
  have HO11 := Lib.hid (HO10.out.ext hE11)
  have HE11 := Lib.hid (HE10.out.trans hE11)
  have K4 := put_yes cn 4 (by omega) (by omega) (by omega) w11
  rw [show ((4 : Nat) : Int) = 4 from rfl] at K4
  have K4 := Lib.hid K4
  have HLc := Lib.hid (put_length cn 4)
  clear hE11 K3 HO10 HE10
  go_wp2_with fail
  refine K4.out.mono ?_
  rintro e w12 ⟨g12, rfl, hB12, hg12, hE12⟩
  have HO12 := Lib.hid (HO11.out.ext hE12)
  have HE12 := Lib.hid (HE11.out.trans hE12)
  have HY12 := Lib.hid (By.of_blk hB12)
  clear hB12 hE12 K4 HO11 HE11 hg12
  go_wp2_with (refine wpList_copy_own (w := w12) Try.byt rfl (.tmp 66) (.tmp 67) rfl HO12.out HN9.out HY12.out 12 4 (cap - 12) 4 4 (by rw [HLc.out]; decide) (by rw [HLc.out]; rfl) (by rw [HLc.out]; omega) rfl rfl ?_; intro w13 hO13 hg13; have HO13 := Lib.hid hO13; have HE13 := Lib.hid (HE12.out.grown hg13 (fun k e => by cases e; exact hgB)); clear hO13 hg13 HO12 HE12 HY12)
  go_ret2
  refine ⟨_, rfl, ?_, HE13.out⟩
  rw [HBR2.out, HH.out]
  exact HO13.out

end Go.Proofs.Ytgbfeagoadlhmaa
