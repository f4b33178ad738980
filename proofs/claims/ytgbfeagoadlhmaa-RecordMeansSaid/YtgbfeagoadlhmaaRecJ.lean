
/-
  A record's bytes, part by part; contract of record.Of where there is none; names.
-/
import Derived.Test.YtgbfeagoadlhmaaRecI
set_option linter.unusedVariables false
set_option linter.unusedSimpArgs false
namespace Go.Proofs.Ytgbfeagoadlhmaa
open Go.RowKit Pl

attribute [local go_sem] Oper.semAt_some

/-! ## plain -/
theorem over_app (a b c l : List UInt8) (h : l.length = b.length) : over (a ++ (b ++ c)) a.length l = a ++ (l ++ c) := by
  unfold over
  rw [List.take_left', List.append_assoc]
  · congr 2
    rw [h, ← List.append_assoc, ← List.length_append]
    exact List.drop_left
  · rfl
/-- the sum of a record -/
def sumR (n pl : Nat) (k : UInt8) (body : List UInt8) : Nat := (crc (put n 4 ++ (put pl 8 ++ (k :: body)))).toNat
theorem headR_is (body : List UInt8) (k : Int) (pl : Nat) :
    headR (List.replicate 17 0 ++ body) k pl = put (17 + body.length) 4 ++ (put pl 8 ++ (put (sumR (17 + body.length) pl (UInt8.ofNat k.toNat) body) 4 ++ (UInt8.ofNat k.toNat :: body))) := by
  have hl : (List.replicate 17 (0 : UInt8) ++ body).length = 17 + body.length := by rw [List.length_append, List.length_replicate]
  have h0 : (List.replicate 17 (0 : UInt8) ++ body).set 16 (UInt8.ofNat k.toNat) = List.replicate 4 0 ++ (List.replicate 8 0 ++ (List.replicate 4 0 ++ (UInt8.ofNat k.toNat :: body))) := by
    rw [List.set_append_left _ _ (by rw [List.length_replicate]; omega)]
    rfl
  unfold headR
  rw [h0, hl]
  generalize UInt8.ofNat k.toNat = kb
  generalize 17 + body.length = n
  have h1 : over (List.replicate 4 0 ++ (List.replicate 8 0 ++ (List.replicate 4 0 ++ (kb :: body)))) 0 (put n 4) = put n 4 ++ (List.replicate 8 0 ++ (List.replicate 4 0 ++ (kb :: body))) := by
    have := over_app [] (List.replicate 4 0) (List.replicate 8 0 ++ (List.replicate 4 0 ++ (kb :: body))) (put n 4) (by rw [put_length, List.length_replicate])
    simpa using this
  rw [h1]
  have h2 : over (put n 4 ++ (List.replicate 8 0 ++ (List.replicate 4 0 ++ (kb :: body)))) 4 (put pl 8) = put n 4 ++ (put pl 8 ++ (List.replicate 4 0 ++ (kb :: body))) := by
    have := over_app (put n 4) (List.replicate 8 0) (List.replicate 4 0 ++ (kb :: body)) (put pl 8) (by rw [put_length, List.length_replicate])
    rwa [put_length] at this
  rw [h2]
  have h3 : (put n 4 ++ (put pl 8 ++ (List.replicate 4 0 ++ (kb :: body)))).take 12 = put n 4 ++ put pl 8 := by
    rw [← List.append_assoc]
    exact List.take_left' (by rw [List.length_append, put_length, put_length])
  have h4 : (put n 4 ++ (put pl 8 ++ (List.replicate 4 0 ++ (kb :: body)))).drop 16 = kb :: body := by
    rw [← List.append_assoc, ← List.append_assoc]
    exact List.drop_left' (by rw [List.length_append, List.length_append, put_length, put_length, List.length_replicate])
  rw [h3, h4]
  have h5 : (crc (put n 4 ++ put pl 8 ++ kb :: body)).toNat = sumR n pl kb body := by unfold sumR; rw [List.append_assoc]
  rw [h5]
  generalize sumR n pl kb body = cs
  have h6 := over_app (put n 4 ++ put pl 8) (List.replicate 4 0) (kb :: body) (put cs 4) (by rw [put_length, List.length_replicate])
  rw [List.length_append, put_length, put_length, List.append_assoc, List.append_assoc] at h6
  exact h6
theorem bytesR_is (r : Rec) (pl : Nat) : bytesR r pl = put (17 + (bodyR r).length) 4 ++ (put pl 8 ++ (put (sumR (17 + (bodyR r).length) pl (UInt8.ofNat r.kind.toNat) (bodyR r)) 4 ++ (UInt8.ofNat r.kind.toNat :: bodyR r))) := headR_is _ _ _
/-- what parts bytes of this form have -/
theorem parts4 {a b c d : List UInt8} (ha : a.length = 4) (hb : b.length = 8) (hc : c.length = 4) : (a ++ (b ++ (c ++ d))).take 4 = a ∧ ((a ++ (b ++ (c ++ d))).drop 4).take 8 = b ∧ ((a ++ (b ++ (c ++ d))).drop 12).take 4 = c ∧ (a ++ (b ++ (c ++ d))).drop 16 = d ∧ (a ++ (b ++ (c ++ d))).take 12 = a ++ b := by
  refine ⟨List.take_left' ha, ?_, ?_, ?_, ?_⟩
  · rw [List.drop_left' ha]; exact List.take_left' hb
  · rw [← List.append_assoc, List.drop_left' (by rw [List.length_append]; omega)]; exact List.take_left' hc
  · rw [← List.append_assoc, ← List.append_assoc, List.drop_left' (by rw [List.length_append, List.length_append]; omega)]
  · rw [← List.append_assoc]; exact List.take_left' (by rw [List.length_append]; omega)
/-- at no other place -/
theorem cut_other (r : Rec) (pl q : Nat) (hpl : pl < 18446744073709551616) (h : q ≠ pl) : cutB (bytesR r pl) q = false := by
  have hp := parts4 (a := put (17 + (bodyR r).length) 4) (b := put pl 8) (c := put (sumR (17 + (bodyR r).length) pl (UInt8.ofNat r.kind.toNat) (bodyR r)) 4) (d := UInt8.ofNat r.kind.toNat :: bodyR r) (put_length _ _) (put_length _ _) (put_length _ _)
  rw [← bytesR_is] at hp
  unfold cutB
  split
  · rfl
  · split
    · rfl
    · rw [hp.2.1, num_put pl 8 (by omega), decide_eq_false (fun e => h e.symm), Bool.false_and]

theorem build_rec0 (W : World) : (Instr.build 65 #[]).run Try.prog W = .ok (.agg #[.int .i64 0, .int .u64 0, .int .i64 0, .int .i64 0, .slice none 0 0, .slice none 0 0, .int .u64 0, .int .u64 0, .int .u64 0]) W := by kernel_rfl
theorem results_rowR3 {P : Program} {fn : Func} {p u v : Tmp} {ty : TypeId} (h : fn.results = #[.cell p ty, .tmp u, .tmp v]) (tmps : Array Value) (w : World) (g : Nat) (t : TypeId) (cs : Array Value) (fr : Nat × Nat) (d : TypeDesc)
    (hp : tmps.getD p undef = .pointer (some ⟨g, 0, none⟩)) (hg : w.heap[g]? = some (.cells cs t fr))
    (hu : P.underlying ty = some d) (hd : (match d with | .struct _ | .array _ _ => true | _ => false) = true) (hi : (P.info? ty).map (·.size) = some cs.size) :
    (results fn tmps).run P w = .ok (.tuple #[.agg cs, tmps.getD u undef, tmps.getD v undef]) w := by
  have hp' : tmps[p]?.getD undef = .pointer (some ⟨g, 0, none⟩) := by simpa using hp
  simp [results, h, hp', asAddr, run_loadVar_row w g t ty cs fr d hg hu hd hi]

set_option maxHeartbeats 1600000 in
set_option maxRecDepth 100000 in
theorem Of_cut (w : World) (g n c : Nat) (D : List UInt8) (pl : Nat) (hD : D.length = n) (hn : n ≤ 1000000) (hc : n ≤ c) (hc2 : c ≤ 9223372036854775807) (hb : By w (some ⟨g, 0, none⟩) D) (hpl : pl ≤ 4611686018427387904) (hcut : cutB D pl = false) :
    Calls Try.prog 36 #[.slice (some ⟨g, 0, none⟩) n c, .int .u64 (pl : Int)] w fun e w' => e = .returned (.tuple #[.agg (recC (bareR 0) none 0 none 0), .int .i64 0, .int .i64 4]) ∧ Ext w w' := by
  have hzr := Try.recZero
  have hbz := build_rec0
  have HB0 := Lib.hid (Blk.new w 65 #[.int .i64 0, .int .u64 0, .int .i64 0, .int .i64 0, .slice none 0 0, .slice none 0 0, .int .u64 0, .int .u64 0, .int .u64 0])
  have HE0 := Lib.hid (ext_fresh w (.cells #[.int .i64 0, .int .u64 0, .int .i64 0, .int .i64 0, .slice none 0 0, .slice none 0 0, .int .u64 0, .int .u64 0, .int .u64 0] 65))
  have K := cut_any _ g n c D pl hD hn hc hc2 (hb.ext HE0.out) (by omega)
  rw [hcut] at K
  have K := Lib.hid K
  have d1 : decide ((4611686018427387904 : Int) < (pl : Int)) = false := decide_eq_false (by omega)
  show Calls _ _ _ _ fun e w' => e = .returned (.tuple #[.agg #[.int .i64 0, .int .u64 0, .int .i64 0, .int .i64 0, .slice none 0 0, .slice none 0 0, .int .u64 0, .int .u64 0, .int .u64 0], .int .i64 0, .int .i64 4]) ∧ _
  clear hb hcut hD
  go_enter Try.func36, Try.ntmps36
  go_wp2_with fail
  refine K.out.mono ?_
  rintro e w1 ⟨X, m, c', rfl, _, hE1⟩
  have HB1 := Lib.hid (HB0.out.ext hE1)
  have HE1 := Lib.hid (HE0.out.trans hE1)
  clear hE1
  go_wp2_with (refine wpList_store_row rfl 65 _ _ rfl _ _ rfl rfl _ _ HB1.out (Try.recSize rfl) rfl (by simp [Value.oneCell']) ?_)
  exact bodyPost_ret (results_rowR3 Try.results36 _ _ w.heap.size _ _ (0, 0) _ rfl (HB1.out.rowE _) Try.underlying65 rfl (Try.recSize rfl)) rfl ⟨rfl, HE1.out.setRowE (Nat.le_refl _) _⟩

theorem Name_7 (w : World) : Calls Try.prog 67 #[.int .i64 7] w fun e w' => e = .returned (.string ⟨#[99, 104, 101, 99, 107]⟩) ∧ w = w' := by
  go_enter Try.func67, Try.ntmps67
  go_wp2_with fail
  go_ret
  exact ⟨rfl, rfl⟩
theorem Name_0 (w : World) : Calls Try.prog 67 #[.int .i64 0] w fun e w' => e = .returned (.string ⟨#[]⟩) ∧ w = w' := by
  go_enter Try.func67, Try.ntmps67
  go_wp2_with fail
  go_ret
  exact ⟨rfl, rfl⟩

end Go.Proofs.Ytgbfeagoadlhmaa
