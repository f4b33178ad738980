
/-
  Contract of record.Of where a record's bytes stand (by recp.py).
-/
import Derived.Test.YtgbfeagoadlhmaaRecN
set_option linter.unusedVariables false
set_option linter.unusedSimpArgs false
namespace Go.Proofs.Ytgbfeagoadlhmaa
open Go.RowKit Go.Maps Pl

attribute [local go_sem] Oper.semAt_some

theorem form_ci (r : Rec) (hm : mayB r = true) (ho : RecOk r) :
    ∃ f, formV r.kind = some (.func (.func f) #[] #[]) ∧ (∀ args w, (callFunc f args).run Try.prog w = .ok (.enter f args) w) ∧ 1 ≤ r.kind ∧ r.kind ≤ 8 ∧ 8 ≤ (bodyR r).length ∧ (bodyR r).length ≤ 2058 ∧
      ∀ (w : World) (gr gc rd : Nat), Ci w gr gc rd (recC (bareR r.kind) none 0 none 0) (some (bodyR r)) →
        Calls Try.prog f #[.pointer (some ⟨gc, 0, none⟩)] w fun e w' => (∃ x, e = .returned x) ∧ ∃ A4 c4 A5 c5, Ci w' gr gc rd (recC r A4 c4 A5 c5) (some []) ∧ By w' A4 r.b ∧ r.b.length ≤ c4 ∧ Nums w' A5 r.subs ∧ r.subs.length ≤ c5 ∧ (∀ b o, A5 = some ⟨b, o, none⟩ → w.heap.size ≤ b) ∧ OthR gr rd w w' := by
  obtain ⟨kd, x, pg, of, bl, u, nx, rd, tl⟩ := r
  unfold mayB at hm
  simp only [Bool.and_eq_true] at hm
  obtain ⟨hk, hn, hs⟩ := hm
  have h1 := ho.xid; have h2 := ho.next; have h3 := ho.redo; have h4 := ho.tml; have h6 := ho.sub
  simp only at h1 h2 h3 h4 h6
  clear ho
  unfold isKindB at hk
  simp only [Bool.or_eq_true, decide_eq_true_eq] at hk
  have hk8 : kd = 1 ∨ kd = 2 ∨ kd = 3 ∨ kd = 4 ∨ kd = 5 ∨ kd = 6 ∨ kd = 7 ∨ kd = 8 := by omega
  clear hk
  rcases hk8 with rfl | rfl | rfl | rfl | rfl | rfl | rfl | rfl
  · have hn2 : (decide (x ≤ 4000) && (pageB pg && (decide (12 ≤ of) && (decide (of < 1024) && (decide (1 ≤ bl.length) && decide ((bl.length : Int) ≤ 1024 - of)))))) = true := hn
    unfold pageB at hn2
    simp only [Bool.and_eq_true, decide_eq_true_eq] at hn2
    have hs2 : sameR ⟨1, 0, 0, 0, [], u, nx, rd, tl⟩ (bareR 1) = true := hs
    unfold sameR bareR at hs2
    simp only [Bool.and_eq_true, beq_iff_eq] at hs2
    obtain ⟨_, z_xid, z_page, z_off, z_next, z_redo, z_tml, z_b, z_subs⟩ := hs2
    replace z_next : nx = 0 := z_next
    replace z_redo : rd = 0 := z_redo
    replace z_tml : tl = 0 := z_tml
    replace z_subs : u = [] := z_subs
    subst z_next z_redo z_tml z_subs
    obtain ⟨q1, ⟨q2, q3⟩, q4, q5, q6, q7⟩ := hn2
    obtain ⟨p, rfl⟩ : ∃ p : Nat, pg = (p : Int) := ⟨pg.toNat, by omega⟩
    obtain ⟨o, rfl⟩ : ∃ o : Nat, of = (o : Int) := ⟨of.toNat, by omega⟩
    have HBD : bodyR ⟨1, x, (p : Int), (o : Int), bl, [], 0, 0, 0⟩ = put x 8 ++ put p 2 ++ put o 2 ++ blob bl := rfl
    rw [HBD]
    refine ⟨89, rfl, enters_of Try.func89 (by kernel_rfl) rfl, (by show (1 : Int) ≤ 1; decide), (by show (1 : Int) ≤ 8; decide), (by simp only [List.length_append, put_length, blob_length]; omega), (by simp only [List.length_append, put_length, blob_length]; omega), fun w gr gc rdb hC => ?_⟩
    rw [show put x 8 ++ put p 2 ++ put o 2 ++ blob bl = put x 8 ++ (put p 2 ++ (put o 2 ++ (blob bl ++ []))) by simp] at hC
    exact change_ci w gr gc rdb 1 x p o bl h1 (by omega) (by omega) (by omega) hC
  · have hn2 : (decide (x ≤ 4000) && (pageB pg && decide (bl.length = 1024))) = true := hn
    unfold pageB at hn2
    simp only [Bool.and_eq_true, decide_eq_true_eq] at hn2
    have hs2 : sameR ⟨2, 0, 0, of, [], u, nx, rd, tl⟩ (bareR 2) = true := hs
    unfold sameR bareR at hs2
    simp only [Bool.and_eq_true, beq_iff_eq] at hs2
    obtain ⟨_, z_xid, z_page, z_off, z_next, z_redo, z_tml, z_b, z_subs⟩ := hs2
    replace z_off : of = 0 := z_off
    replace z_next : nx = 0 := z_next
    replace z_redo : rd = 0 := z_redo
    replace z_tml : tl = 0 := z_tml
    replace z_subs : u = [] := z_subs
    subst z_off z_next z_redo z_tml z_subs
    obtain ⟨q1, ⟨q2, q3⟩, q4⟩ := hn2
    obtain ⟨p, rfl⟩ : ∃ p : Nat, pg = (p : Int) := ⟨pg.toNat, by omega⟩
    have HBD : bodyR ⟨2, x, (p : Int), 0, bl, [], 0, 0, 0⟩ = put x 8 ++ put p 2 ++ blob bl := rfl
    rw [HBD]
    refine ⟨90, rfl, enters_of Try.func90 (by kernel_rfl) rfl, (by show (1 : Int) ≤ 2; decide), (by show (2 : Int) ≤ 8; decide), (by simp only [List.length_append, put_length, blob_length]; omega), (by simp only [List.length_append, put_length, blob_length]; omega), fun w gr gc rdb hC => ?_⟩
    rw [show put x 8 ++ put p 2 ++ blob bl = put x 8 ++ (put p 2 ++ (blob bl ++ [])) by simp] at hC
    exact image_ci w gr gc rdb 2 x p bl h1 (by omega) (by omega) hC
  · have hn2 : (xidB x && (decide (u.length ≤ 64) && risingB u x 4001)) = true := hn
    skip
    simp only [Bool.and_eq_true, decide_eq_true_eq] at hn2
    have hs2 : sameR ⟨3, 0, pg, of, bl, [], nx, rd, tl⟩ (bareR 3) = true := hs
    unfold sameR bareR at hs2
    simp only [Bool.and_eq_true, beq_iff_eq] at hs2
    obtain ⟨_, z_xid, z_page, z_off, z_next, z_redo, z_tml, z_b, z_subs⟩ := hs2
    replace z_page : pg = 0 := z_page
    replace z_off : of = 0 := z_off
    replace z_next : nx = 0 := z_next
    replace z_redo : rd = 0 := z_redo
    replace z_tml : tl = 0 := z_tml
    replace z_b : bl = [] := z_b
    subst z_page z_off z_next z_redo z_tml z_b
    obtain ⟨q1, q2, q3⟩ := hn2
    have HBD : bodyR ⟨3, x, 0, 0, [], u, 0, 0, 0⟩ = put x 8 ++ subsB u := rfl
    rw [HBD]
    refine ⟨91, rfl, enters_of Try.func91 (by kernel_rfl) rfl, (by show (1 : Int) ≤ 3; decide), (by show (3 : Int) ≤ 8; decide), (by simp only [List.length_append, put_length, blob_length, subsB, put8s_length]; omega), (by simp only [List.length_append, put_length, blob_length, subsB, put8s_length]; omega), fun w gr gc rdb hC => ?_⟩
    rw [show put x 8 ++ subsB u = put x 8 ++ (subsB u ++ []) by simp] at hC
    exact ended_ci w gr gc rdb 3 x u h1 (by omega) h6 hC
  · have hn2 : (xidB x && (decide (u.length ≤ 64) && risingB u x 4001)) = true := hn
    skip
    simp only [Bool.and_eq_true, decide_eq_true_eq] at hn2
    have hs2 : sameR ⟨4, 0, pg, of, bl, [], nx, rd, tl⟩ (bareR 4) = true := hs
    unfold sameR bareR at hs2
    simp only [Bool.and_eq_true, beq_iff_eq] at hs2
    obtain ⟨_, z_xid, z_page, z_off, z_next, z_redo, z_tml, z_b, z_subs⟩ := hs2
    replace z_page : pg = 0 := z_page
    replace z_off : of = 0 := z_off
    replace z_next : nx = 0 := z_next
    replace z_redo : rd = 0 := z_redo
    replace z_tml : tl = 0 := z_tml
    replace z_b : bl = [] := z_b
    subst z_page z_off z_next z_redo z_tml z_b
    obtain ⟨q1, q2, q3⟩ := hn2
    have HBD : bodyR ⟨4, x, 0, 0, [], u, 0, 0, 0⟩ = put x 8 ++ subsB u := rfl
    rw [HBD]
    refine ⟨91, rfl, enters_of Try.func91 (by kernel_rfl) rfl, (by show (1 : Int) ≤ 4; decide), (by show (4 : Int) ≤ 8; decide), (by simp only [List.length_append, put_length, blob_length, subsB, put8s_length]; omega), (by simp only [List.length_append, put_length, blob_length, subsB, put8s_length]; omega), fun w gr gc rdb hC => ?_⟩
    rw [show put x 8 ++ subsB u = put x 8 ++ (subsB u ++ []) by simp] at hC
    exact ended_ci w gr gc rdb 4 x u h1 (by omega) h6 hC
  · have hn2 : (decide (x ≤ 4000)) = true := hn
    skip
    simp only [Bool.and_eq_true, decide_eq_true_eq] at hn2
    have hs2 : sameR ⟨5, 0, pg, of, bl, u, nx, rd, tl⟩ (bareR 5) = true := hs
    unfold sameR bareR at hs2
    simp only [Bool.and_eq_true, beq_iff_eq] at hs2
    obtain ⟨_, z_xid, z_page, z_off, z_next, z_redo, z_tml, z_b, z_subs⟩ := hs2
    replace z_page : pg = 0 := z_page
    replace z_off : of = 0 := z_off
    replace z_next : nx = 0 := z_next
    replace z_redo : rd = 0 := z_redo
    replace z_tml : tl = 0 := z_tml
    replace z_b : bl = [] := z_b
    replace z_subs : u = [] := z_subs
    subst z_page z_off z_next z_redo z_tml z_b z_subs
    have q1 := hn2
    have HBD : bodyR ⟨5, x, 0, 0, [], [], 0, 0, 0⟩ = put x 8 := rfl
    rw [HBD]
    refine ⟨92, rfl, enters_of Try.func92 (by kernel_rfl) rfl, (by show (1 : Int) ≤ 5; decide), (by show (5 : Int) ≤ 8; decide), (by rw [put_length]; omega), (by rw [put_length]; omega), fun w gr gc rdb hC => ?_⟩
    rw [show put x 8 = put x 8 ++ [] by simp] at hC
    exact cleanup_ci w gr gc rdb 5 x h1 hC
  · have hn2 : (nextB nx && (decide (u.length ≤ 256) && risingB u 0 nx)) = true := hn
    skip
    simp only [Bool.and_eq_true, decide_eq_true_eq] at hn2
    have hs2 : sameR ⟨6, x, pg, of, bl, [], 0, rd, tl⟩ (bareR 6) = true := hs
    unfold sameR bareR at hs2
    simp only [Bool.and_eq_true, beq_iff_eq] at hs2
    obtain ⟨_, z_xid, z_page, z_off, z_next, z_redo, z_tml, z_b, z_subs⟩ := hs2
    replace z_xid : x = 0 := z_xid
    replace z_page : pg = 0 := z_page
    replace z_off : of = 0 := z_off
    replace z_redo : rd = 0 := z_redo
    replace z_tml : tl = 0 := z_tml
    replace z_b : bl = [] := z_b
    subst z_xid z_page z_off z_redo z_tml z_b
    obtain ⟨q1, q2, q3⟩ := hn2
    have HBD : bodyR ⟨6, 0, 0, 0, [], u, nx, 0, 0⟩ = put nx 8 ++ subsB u := rfl
    rw [HBD]
    refine ⟨93, rfl, enters_of Try.func93 (by kernel_rfl) rfl, (by show (1 : Int) ≤ 6; decide), (by show (6 : Int) ≤ 8; decide), (by simp only [List.length_append, put_length, blob_length, subsB, put8s_length]; omega), (by simp only [List.length_append, put_length, blob_length, subsB, put8s_length]; omega), fun w gr gc rdb hC => ?_⟩
    rw [show put nx 8 ++ subsB u = put nx 8 ++ (subsB u ++ []) by simp] at hC
    exact running_ci w gr gc rdb 6 nx u h2 (by omega) h6 hC
  · have hn2 : (decide (rd ≤ 4611686018427387904) && nextB nx) = true := hn
    skip
    simp only [Bool.and_eq_true, decide_eq_true_eq] at hn2
    have hs2 : sameR ⟨7, x, pg, of, bl, u, 0, 0, tl⟩ (bareR 7) = true := hs
    unfold sameR bareR at hs2
    simp only [Bool.and_eq_true, beq_iff_eq] at hs2
    obtain ⟨_, z_xid, z_page, z_off, z_next, z_redo, z_tml, z_b, z_subs⟩ := hs2
    replace z_xid : x = 0 := z_xid
    replace z_page : pg = 0 := z_page
    replace z_off : of = 0 := z_off
    replace z_tml : tl = 0 := z_tml
    replace z_b : bl = [] := z_b
    replace z_subs : u = [] := z_subs
    subst z_xid z_page z_off z_tml z_b z_subs
    obtain ⟨q1, q2⟩ := hn2
    have HBD : bodyR ⟨7, 0, 0, 0, [], [], nx, rd, 0⟩ = put nx 8 ++ put rd 8 := rfl
    rw [HBD]
    refine ⟨94, rfl, enters_of Try.func94 (by kernel_rfl) rfl, (by show (1 : Int) ≤ 7; decide), (by show (7 : Int) ≤ 8; decide), (by simp only [List.length_append, put_length, blob_length]; omega), (by simp only [List.length_append, put_length, blob_length]; omega), fun w gr gc rdb hC => ?_⟩
    rw [show put nx 8 ++ put rd 8 = put nx 8 ++ (put rd 8 ++ []) by simp] at hC
    exact check_ci w gr gc rdb 7 nx rd h2 h3 hC
  · have hn2 : (decide (1 ≤ tl) && (decide (tl ≤ 2147483647) && decide (rd ≤ 4611686018427387904))) = true := hn
    skip
    simp only [Bool.and_eq_true, decide_eq_true_eq] at hn2
    have hs2 : sameR ⟨8, x, pg, of, bl, u, nx, 0, 0⟩ (bareR 8) = true := hs
    unfold sameR bareR at hs2
    simp only [Bool.and_eq_true, beq_iff_eq] at hs2
    obtain ⟨_, z_xid, z_page, z_off, z_next, z_redo, z_tml, z_b, z_subs⟩ := hs2
    replace z_xid : x = 0 := z_xid
    replace z_page : pg = 0 := z_page
    replace z_off : of = 0 := z_off
    replace z_next : nx = 0 := z_next
    replace z_b : bl = [] := z_b
    replace z_subs : u = [] := z_subs
    subst z_xid z_page z_off z_next z_b z_subs
    obtain ⟨q1, q2, q3⟩ := hn2
    have HBD : bodyR ⟨8, 0, 0, 0, [], [], 0, rd, tl⟩ = put rd 8 ++ put tl 8 := rfl
    rw [HBD]
    refine ⟨95, rfl, enters_of Try.func95 (by kernel_rfl) rfl, (by show (1 : Int) ≤ 8; decide), (by show (8 : Int) ≤ 8; decide), (by simp only [List.length_append, put_length, blob_length]; omega), (by simp only [List.length_append, put_length, blob_length]; omega), fun w gr gc rdb hC => ?_⟩
    rw [show put rd 8 ++ put tl 8 = put rd 8 ++ (put tl 8 ++ []) by simp] at hC
    exact switched_ci w gr gc rdb 8 rd tl h3 h4 hC

/-! ## plain -/
theorem cut_yes (r : Rec) (pl : Nat) (beh : List UInt8) (hb : (bodyR r).length ≤ 2058) (hpl : pl < 18446744073709551616) :
    cutB (bytesR r pl ++ beh) pl = true ∧ num ((bytesR r pl ++ beh).take 4) = 17 + (bodyR r).length ∧ (bytesR r pl ++ beh).take (17 + (bodyR r).length) = bytesR r pl ∧ ((bytesR r pl).drop 17) = bodyR r ∧ (bytesR r pl).getD 16 0 = UInt8.ofNat r.kind.toNat := by
  have hl := bytesR_length r pl
  have hp := parts4 (a := put (17 + (bodyR r).length) 4) (b := put pl 8) (c := put (sumR (17 + (bodyR r).length) pl (UInt8.ofNat r.kind.toNat) (bodyR r)) 4) (d := UInt8.ofNat r.kind.toNat :: bodyR r) (put_length _ _) (put_length _ _) (put_length _ _)
  have hq := parts4 (a := put (17 + (bodyR r).length) 4) (b := put pl 8) (c := put (sumR (17 + (bodyR r).length) pl (UInt8.ofNat r.kind.toNat) (bodyR r)) 4) (d := (UInt8.ofNat r.kind.toNat :: bodyR r) ++ beh) (put_length _ _) (put_length _ _) (put_length _ _)
  have e : bytesR r pl ++ beh = put (17 + (bodyR r).length) 4 ++ (put pl 8 ++ (put (sumR (17 + (bodyR r).length) pl (UInt8.ofNat r.kind.toNat) (bodyR r)) 4 ++ ((UInt8.ofNat r.kind.toNat :: bodyR r) ++ beh))) := by
    rw [bytesR_is]; simp only [List.append_assoc]
  rw [← bytesR_is] at hp
  rw [← e] at hq
  have hz : num ((bytesR r pl ++ beh).take 4) = 17 + (bodyR r).length := by rw [hq.1, num_put _ 4 (by omega)]
  have ht : (bytesR r pl ++ beh).take (17 + (bodyR r).length) = bytesR r pl := List.take_left' hl
  refine ⟨?_, hz, ht, ?_, ?_⟩
  · unfold cutB
    rw [hz, if_neg (by rw [List.length_append, hl]; omega), if_neg (by rw [List.length_append, hl]; omega), ht, hq.2.1, hq.2.2.1, num_put pl 8 (by omega), num_put _ 4 (by unfold sumR; exact (crc _).isLt), hp.2.2.2.1, hp.2.2.2.2]
    unfold sumR
    simp
  · have h1 : (bytesR r pl).drop 17 = ((bytesR r pl).drop 16).drop 1 := by rw [List.drop_drop]
    rw [h1, hp.2.2.2.1]
    rfl
  · have h1 : (bytesR r pl).getD 16 0 = ((bytesR r pl).drop 16).getD 0 0 := by simp [List.getD_eq_getElem?_getD]
    rw [h1, hp.2.2.2.1]
    rfl
theorem build_coderI (p q : Addr) (W : World) : (Instr.build 112 #[(0, .pointer (some p)), (2, .pointer (some q))]).run Try.prog W = .ok (.agg #[.pointer (some p), .slice none 0 0, .pointer (some q)]) W := by kernel_rfl

theorem nums_row2 {w : World} {S : Option Addr} {u : List Nat} {g : Nat} (h : Nums w S u) (hS : ∀ b o, S = some ⟨b, o, none⟩ → b ≠ g) (ds : Array Value) : Nums (w.setRow g ds) S u := by
  rcases h with h | ⟨b, o, rfl, hc⟩
  · exact .inl h
  · refine .inr ⟨b, o, rfl, fun i hi => ?_⟩
    rw [World.cell?_of_block (w := w) (setRow_other w g b ds (hS b o rfl))]
    exact hc i hi
theorem by_row {w : World} {A : Option Addr} {l : List UInt8} {g : Nat} {t : TypeId} {cs : Array Value} (h : By w A l) (hb : Blk w g t cs) (ds : Array Value) (hn : NoByte cs) : By (w.setRow g ds) A l := by
  rcases h with h | ⟨b, o, rfl, hc⟩
  · exact .inl h
  · refine .inr ⟨b, o, rfl, fun i hi => ?_⟩
    have hne : b ≠ g := by
      rintro rfl
      have := hc i hi
      rw [hb.cell] at this
      exact hn _ _ this
    rw [World.cell?_of_block (w := w) (setRow_other w g b ds hne)]
    exact hc i hi

set_option maxHeartbeats 6400000 in
set_option maxRecDepth 100000 in
theorem Of_yes (w : World) (g nn c : Nat) (r : Rec) (pl : Nat) (beh : List UInt8) (ho : RecOk r) (hm : mayB r = true) (hD : (bytesR r pl ++ beh).length = nn) (hn : nn ≤ 1000000) (hc : nn ≤ c) (hc2 : c ≤ 9223372036854775807) (hb : By w (some ⟨g, 0, none⟩) (bytesR r pl ++ beh)) (hpl : pl ≤ 4611686018427387904) :
    Calls Try.prog 36 #[.slice (some ⟨g, 0, none⟩) nn c, .int .u64 (pl : Int)] w fun e w' => ∃ A4 c4 A5 c5, e = .returned (.tuple #[.agg (recC r A4 c4 A5 c5), .int .i64 ((17 + (bodyR r).length : Nat) : Int), .int .i64 0]) ∧ By w' A4 r.b ∧ r.b.length ≤ c4 ∧ Nums w' A5 r.subs ∧ Ext w w' := by
  have hzr := Try.recZero
  obtain ⟨f, hf1, hf2, hk1, hk2, hbl1, hbl2, hf3⟩ := form_ci r hm ho
  obtain ⟨hcut, hnum, htake, hdrop, h16⟩ := cut_yes r pl beh hbl2 (by omega)
  have HB0 := Lib.hid (Blk.new w 65 #[.int .i64 0, .int .u64 0, .int .i64 0, .int .i64 0, .slice none 0 0, .slice none 0 0, .int .u64 0, .int .u64 0, .int .u64 0])
  have HE0 := Lib.hid (ext_fresh w (.cells #[.int .i64 0, .int .u64 0, .int .i64 0, .int .i64 0, .slice none 0 0, .slice none 0 0, .int .u64 0, .int .u64 0, .int .u64 0] 65))
  have K := cut_any _ g nn c (bytesR r pl ++ beh) pl hD hn hc hc2 (hb.ext HE0.out) (by omega)
  rw [hcut, hnum] at K
  have K := Lib.hid K
  have hbr := hb.take (17 + (bodyR r).length)
  rw [htake] at hbr
  have HY0 := Lib.hid (hbr.ext HE0.out)
  have hlen := bytesR_length r pl
  have d1 : decide ((4611686018427387904 : Int) < (pl : Int)) = false := decide_eq_false (by omega)
  have HDR := Lib.hid hdrop
  have HF1 := Lib.hid hf1
  have HF3 := Lib.hid hf3
  have hle : 17 + (bodyR r).length ≤ nn := by rw [← hD, List.length_append, hlen]; omega
  have HKK := Lib.hid (key_kind (n := r.kind) (by omega) (by omega))
  have HZZ := Lib.hid Try.formZero
  have KMY := Lib.hid (fun W A ca S cs a b => May_any W r A S ca cs a b ho.subs ho.xid ho.next ho.b)
  rw [hm] at KMY
  have H16 := Lib.hid h16
  obtain ⟨kd, hkd⟩ : ∃ kd : Nat, r.kind = (kd : Int) := ⟨r.kind.toNat, by omega⟩
  have HLN := Lib.hid hlen
  rw [hkd] at hk1 hk2 HF1 HKK
  have HKD := Lib.hid hkd
  have HC16 : Hid (∀ W, By W (some ⟨g, 0, none⟩) (bytesR r pl) → W.cell? ⟨g, 16, none⟩ = some (.int .u8 (kd : Int))) := Lib.hid (fun W hb => by
    rcases hb with h | ⟨b, o, e, hcc⟩
    · rw [h] at hlen; simp at hlen; omega
    · injection e with e; injection e with e1 e2
      subst e1 e2
      have := hcc 16 (by omega)
      rw [Nat.zero_add] at this
      rw [this]
      unfold at8
      rw [h16, hkd, Int.toNat_natCast, UInt8.toNat_ofNat']
      congr 2
      omega)
  have HBD : Hid (∀ W, By W (some ⟨g, 0, none⟩) (bytesR r pl) → By W (some ⟨g, 17, none⟩) (bodyR r)) := Lib.hid (fun W hb => by
    have := hb.mid 17 (bodyR r).length
    rw [hdrop, List.take_length, Nat.zero_add] at this
    exact this)
  clear hb hcut hnum htake hdrop h16 hD hf1 hf3 ho hm hbr hlen
  obtain ⟨m, hmm⟩ : ∃ m, (bodyR r).length = m := ⟨_, rfl⟩
  rw [hmm] at K hle hbl1 hbl2 HLN ⊢
  have HM := Lib.hid hmm
  clear hmm
  have hmc : 17 + m ≤ c := by omega
  have hnc : ¬ c = 17 := by omega
  have hbc := build_coderI
  rw [show ((17 + m : Nat) : Int) = 17 + (m : Int) by omega]
  have HC0 : Hid (recC (bareR r.kind) none 0 none 0 = #[.int .i64 (kd : Int), .int .u64 0, .int .i64 0, .int .i64 0, .slice none 0 0, .slice none 0 0, .int .u64 0, .int .u64 0, .int .u64 0]) := Lib.hid (by rw [HKD.out]; rfl)
  rw [HC0.out] at HF3
  go_enter Try.func36, Try.ntmps36
  go_wp2_with fail
  refine K.out.mono ?_
  rintro e w1 ⟨X, mm, c', rfl, hX, hE1⟩
  obtain ⟨rfl, rfl, rfl⟩ := hX (by trivial)
  have HB1 := Lib.hid (HB0.out.ext hE1)
  have HE1 := Lib.hid (HE0.out.trans hE1)
  have HY1 := Lib.hid (HY0.out.ext hE1)
  have x16 := HC16.out w1 HY1.out
  clear hE1 HB0 HE0 HY0 K hX
  go_upto_region 7 with fail
  have HG2 := Lib.hid (Blk.new w1 65 #[.int .i64 (kd : Int), .int .u64 0, .int .i64 0, .int .i64 0, .slice none 0 0, .slice none 0 0, .int .u64 0, .int .u64 0, .int .u64 0])
  have hX2 := ext_fresh w1 (.cells #[.int .i64 (kd : Int), .int .u64 0, .int .i64 0, .int .i64 0, .slice none 0 0, .slice none 0 0, .int .u64 0, .int .u64 0, .int .u64 0] 65)
  have HB2 := Lib.hid (HB1.out.ext hX2)
  have HE2 := Lib.hid (HE1.out.trans hX2)
  have HY2 := Lib.hid (HY1.out.ext hX2)
  have hgr : w.heap.size < w1.heap.size := HB1.out.lt
  clear hX2 HB1 HE1 HY1 x16
  generalize w1.alloc (.cells #[.int .i64 (kd : Int), .int .u64 0, .int .i64 0, .int .i64 0, .slice none 0 0, .slice none 0 0, .int .u64 0, .int .u64 0, .int .u64 0] 65) = w2 at *
  have HR2 := Lib.hid ((Ext.refl w2).drew)
  refine wp_eager Ext.pre (n := 9) (by kernel_rfl) (by kernel_rfl) ?_
  refine Eg.batchK Ext.pre (by intro c a d v w h; cases d <;> exact h) (by kernel_rfl) (n := 8) [1] [] _ (by kernel_rfl) (fun K hK => ?_); (simp only [pickOps, List.getElem?_toArray, List.getElem?_cons_zero, List.getElem?_cons_succ, Option.toList_some, List.cons_append, List.nil_append]); (repeat (first | go_big_quiet_step (fail) | quiet_step (fail))); refine wpQuiet_nil (hK _ ?_); clear hK K
  (refine Eg.read Ext.pre (by intro c a d v w h; cases d <;> exact h) (by kernel_rfl) (i := 2) (n := 7) (l := [1]) rfl (by kernel_rfl) (by kernel_rfl) rfl ⟨_, fun w' hR => load_run rfl (load_kind (w := w') (n := (kd : Int)) (by rw [(HG2.out.ext (HR2.out.trans hR)).cell]; rfl)), ?_⟩); (simp only [Act.put, List.setIfInBounds_toArray, List.getElem_toArray, List.getElem_cons_succ, List.getElem_cons_zero, List.set_cons_succ, List.set_cons_zero])
  refine Eg.act Ext.pre (i := 0) (n := 6) (l := [1, 2]) rfl (by kernel_rfl) ?_
  go_wp2_with fail
  refine (forms_any _).mono ?_
  rintro e w3 ⟨gm, F, cF, rfl, hM, hF, hgm, hE3⟩
  have HM3 := Lib.hid hM
  have HFk := Lib.hid ((hF (kd : Int)).trans HF1.out)
  have HX3 := Lib.hid (HR2.out.trans hE3)
  clear hM hF hgm
  go_wp2_with fail
  refine ⟨hE3, ?_⟩
  clear hE3
  refine Eg.act Ext.pre (i := 3) (n := 5) (l := [1, 2, 0]) rfl (by kernel_rfl) ?_
  go_wp2_with (refine wpList_run_gR rfl _ (lookup_some HM3.out Try.kindKeys Try.underlying114 (HZZ.out _) HKK.out HFk.out rfl rfl rfl) ?_)
  refine ⟨Ext.refl _, ?_⟩
  refine Eg.batchK Ext.pre (by intro c a d v w h; cases d <;> exact h) (by kernel_rfl) (n := 0) [4, 5, 6, 7, 8] [1, 2, 0, 3] _ (by kernel_rfl) (fun K hK => ?_); (simp only [pickOps, List.getElem?_toArray, List.getElem?_cons_zero, List.getElem?_cons_succ, Option.toList_some, List.cons_append, List.nil_append]); (repeat (first | go_big_quiet_step (fail) | quiet_step (fail))); refine wpQuiet_nil (hK _ ?_); clear hK K
  refine Eg.finish (by kernel_rfl) ?_
  have HG3 := Lib.hid (HG2.out.ext HX3.out)
  have HB3 := Lib.hid (HB2.out.ext HX3.out)
  have HE3 := Lib.hid (HE2.out.trans HX3.out)
  have HY3 := Lib.hid (HBD.out w3 (HY2.out.ext HX3.out))
  have KR := read_any (some ⟨g, 17, none⟩) (bodyR r) (c' - 17) (by rw [HM.out]; omega) (by rw [HM.out]; omega) w3 HY3.out
  rw [HM.out] at KR
  have KR := Lib.hid KR
  clear HG2 HB2 HE2 HY2 HX3 HM3 HFk HR2
  go_wp2_with fail
  refine KR.out.mono ?_
  rintro e w4 ⟨rd, rfl, hR4, hrd, hE4⟩
  have HG4 := Lib.hid (HG3.out.ext hE4)
  have HB4 := Lib.hid (HB3.out.ext hE4)
  have HE4 := Lib.hid (HE3.out.trans hE4)
  have hg3 := HG3.out.lt
  have hX5 := ext_fresh w4 (.cells #[.pointer (some ⟨w1.heap.size, 0, none⟩), .slice none 0 0, .pointer (some ⟨rd, 0, none⟩)] 112)
  have HC5 : Hid (Ci (w4.alloc (.cells #[.pointer (some ⟨w1.heap.size, 0, none⟩), .slice none 0 0, .pointer (some ⟨rd, 0, none⟩)] 112)) w1.heap.size w4.heap.size rd #[.int .i64 (kd : Int), .int .u64 0, .int .i64 0, .int .i64 0, .slice none 0 0, .slice none 0 0, .int .u64 0, .int .u64 0, .int .u64 0] (some (bodyR r))) := Lib.hid ⟨Blk.new w4 112 _, HG4.out.ext hX5, hR4.ext hX5⟩
  have HB5 := Lib.hid (HB4.out.ext hX5)
  have HE5 := Lib.hid (HE4.out.trans hX5)
  have HF5 := Lib.hid (HF3.out _ _ _ _ HC5.out)
  clear hE4 hX5 hR4 HG3 HB3 HE3 HY3 HG4 HB4 HE4 KR
  go_wp2_with fail
  refine HF5.out.mono ?_
  rintro e w6 ⟨⟨x, rfl⟩, A4, c4, A5, c5, hC6, hb6, hl6, hn6, _, hs6, hT6⟩
  have x2 : w6.cell? ⟨w4.heap.size, 2, none⟩ = some (.pointer (some ⟨rd, 0, none⟩)) := by rw [hC6.co.cell]; rfl
  have hres : Blk w6 w.heap.size 65 _ := (hT6.2.2.2.2 w.heap.size HB5.out.lt (by omega) (by omega)).trans HB5.out
  have HB6 := Lib.hid hres
  have HE6 := Lib.hid (hT6.ext HE5.out (by omega) (by omega))
  have KE := end_any w6 rd (some []) hC6.rd_
  rw [if_pos rfl] at KE
  have KE := Lib.hid KE
  have HG6 := Lib.hid hC6.rc
  have HY6 := Lib.hid hb6
  have HL6 := Lib.hid hl6
  have HN6 := Lib.hid hn6
  have HS6 : Hid (∀ b o, A5 = some ⟨b, o, none⟩ → b ≠ w.heap.size) := Lib.hid (fun b o e q => by have h1 := hs6 b o e; have h2 := HB5.out.lt; omega)
  have hlr := load_rec HG6.out
  have KM6 := Lib.hid (KMY.out w6 A4 c4 A5 c5 hb6 hn6)
  clear hC6 hb6 hl6 hn6 hs6 hT6 hres HB5 HE5 HC5 HF5
  go_wp2_with fail
  refine KE.out.mono ?_
  rintro e w7 ⟨rfl, rfl⟩
  have hrs := recC_size r A4 A5 c4 c5
  have hro := recC_one r A4 A5 c4 c5
  generalize hRC : recC r A4 c4 A5 c5 = RC at *
  have HRC := Lib.hid hRC
  clear hRC
  go_wp2_with (refine wpList_load_gR rfl 65 _ rfl _ rfl _ hlr ?_)
  refine KM6.out.mono ?_
  rintro e w8 ⟨rfl, hE8⟩
  have HG8 := Lib.hid (HG6.out.ext hE8)
  have HB8 := Lib.hid (HB6.out.ext hE8)
  have HE8 := Lib.hid (HE6.out.trans hE8)
  have HY8 := Lib.hid (HY6.out.ext hE8)
  have HN8 := Lib.hid (HN6.out.ext hE8)
  have hl8 := load_rowR (P := Try.prog) (ty := 65) HG8.out Try.underlying65 rfl (Try.recSize hrs)
  clear hE8 HG6 HB6 HE6 HY6 HN6 hlr KM6 KE x2
  go_wp2_with (first | (refine wpList_load_gR rfl 65 _ rfl _ rfl _ hl8 ?_) | (refine wpList_store_row rfl 65 _ _ rfl _ _ rfl rfl _ _ HB8.out (Try.recSize hrs) (by rw [hrs]; rfl) hro ?_))
  refine bodyPost_ret (results_rowR3 Try.results36 _ _ w.heap.size _ RC (0, 0) _ rfl (HB8.out.rowE RC) Try.underlying65 rfl (Try.recSize hrs)) rfl ?_
  have hEf := HE8.out.setRowE (Nat.le_refl w.heap.size) RC
  have hst : ∀ k, k ≠ w.heap.size → (w8.setRow w.heap.size RC).heap[k]? = w8.heap[k]? := fun k hk => setRow_other w8 w.heap.size k RC hk
  exact ⟨A4, c4, A5, c5, by rw [HRC.out]; rfl, by_row HY8.out HB8.out RC (noByteR _ _ _ _ _ _ _ _ _ _ _ _ _), HL6.out, nums_row2 HN8.out HS6.out RC, hEf⟩

end Go.Proofs.Ytgbfeagoadlhmaa
