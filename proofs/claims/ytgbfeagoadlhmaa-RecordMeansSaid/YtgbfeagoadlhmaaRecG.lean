
/-
  Bytes of one's own, written over; contract of record.sumOf; what a kind's form writes (by recg.py).
-/
import Derived.Test.YtgbfeagoadlhmaaRecF
import Derived.Test.YtgbfeagoadlhmaaCrcB
import Derived.Test.YtgbfeagoadlhmaaCopyB
import Derived.Shelf.Abstract
set_option linter.unusedVariables false
set_option linter.unusedSimpArgs false
namespace Go.Proofs.Ytgbfeagoadlhmaa
open Go.RowKit Pl

attribute [local go_sem] Oper.semAt_some

/-! ## bytes of one's own, written over -/
section
variable {P : Program} {e : TypeId} {w : World} {B g n cap : Nat} {D l : List UInt8}
theorem Own.parts (h : Own e w B (.slice (some ⟨g, 0, none⟩) n cap) D) (hn : n = D.length) (h0 : 0 < n) : B ≤ g ∧ n ≤ cap ∧ cap ≤ maxLen ∧ ∃ cur, Blk w g e cur ∧ cur.size = cap ∧ cur.toList.take n = D.map u8 := by
  rcases h.2 with ⟨hv, _⟩ | ⟨g', cap', cur, hv, hb, hh, hnc, hcm, hcs, ht⟩
  · cases hv
  · injection hv with e1 e2 e3
    injection e1 with e1
    injection e1 with e1
    subst e1 e3
    subst hn
    exact ⟨hb, hnc, hcm, cur, hh, by omega, by simpa using ht⟩
theorem own_of (hB : B ≤ g) (hnc : D.length ≤ cap) (hcm : cap ≤ maxLen) {cur : Array Value} (hb : Blk w g e cur) (hs : cur.size = cap) (ht : cur.toList.take D.length = D.map u8) : Own e w B (.slice (some ⟨g, 0, none⟩) D.length cap) D :=
  ⟨by simp, .inr ⟨g, cap, cur, rfl, hB, hb, hnc, hcm, by omega, by simpa using ht⟩⟩
theorem Own.setByte (h : Own e w B (.slice (some ⟨g, 0, none⟩) n cap) D) (hn : n = D.length) {i : Nat} (hi : i < n) (x : UInt8) : Own e (w.setCell ⟨g, i, none⟩ (.int .u8 (x.toNat : Int))) B (.slice (some ⟨g, 0, none⟩) n cap) (D.set i x) := by
  obtain ⟨hB, hnc, hcm, cur, hb, hs, ht⟩ := h.parts hn (by omega)
  subst hn
  have h2 := own_of (D := D.set i x) (w := w.setCell ⟨g, i, none⟩ (.int .u8 (x.toNat : Int))) hB (by rw [List.length_set]; exact hnc) hcm (hb.set i _) (by simpa using hs) (by
    rw [Array.toList_setIfInBounds, List.length_set, List.map_set, ← ht, List.take_set]
    rfl)
  rwa [List.length_set] at h2
theorem Own.cellAt (h : Own e w B (.slice (some ⟨g, 0, none⟩) n cap) D) (hn : n = D.length) {i : Nat} (hi : i < n) : w.cell? ⟨g, i, none⟩ = some (.int .u8 (at8 D i)) ∧ w.frozen? ⟨g, i, none⟩ = false := by
  obtain ⟨hB, hnc, hcm, cur, hb, hs, ht⟩ := h.parts hn (by omega)
  refine ⟨?_, hb.frozen i⟩
  rw [hb.cell, ← Array.getElem?_toList]
  have h1 : (cur.toList.take n)[i]? = (D.map u8)[i]? := by rw [ht]
  rw [List.getElem?_take_of_lt hi] at h1
  rw [h1, List.getElem?_map, List.getElem?_eq_getElem (by omega)]
  simp [u8, at8, List.getD_eq_getElem?_getD, List.getElem?_eq_getElem (show i < D.length by omega)]
theorem run_copy_own {t : TypeId} (hb : Byt P t e) (ty : TypeId) (h : Own e w B (.slice (some ⟨g, 0, none⟩) n cap) D) (hn : n = D.length) {A : Option Addr} (hs : By w A l) (o dl dc m c : Nat) (hl : 0 < l.length) (hml : l.length = min m dl) (hfit : o + l.length ≤ n) :
    ∃ w', (Builtin.copy_ #[t, t] ty #[.slice (some ⟨g, o, none⟩) dl dc, .slice A m c]).run P w = .ok (.int .i64 (l.length : Int)) w' ∧ Own e w' B (.slice (some ⟨g, 0, none⟩) n cap) (over D o l) ∧ w.grownBy w' (some g) := by
  obtain ⟨hB, hnc, hcm, cur, hblk, hcs, ht⟩ := h.parts hn (by omega)
  obtain ⟨i, hi, hz, hsz, hby⟩ := info_parts hb.info
  have hone : (P.info? e).map (·.size) = some 1 := by rw [hi]; simp [hsz]
  obtain ⟨b, off, rfl, hc⟩ := hs.at_ hl
  have hby2 : By w (some ⟨b, off, none⟩) l := .inr ⟨b, off, rfl, hc⟩
  have hr := run_copy_row (P := P) w t t ty e g o dl dc ⟨b, off, none⟩ m c cur e (l.map u8) hb.und hone hblk (by rw [List.length_map]; exact hml) hby2.news (by simp; omega) (oneCell_u8 l)
  refine ⟨w.setRow g (cur.toList.take o ++ l.map u8 ++ cur.toList.drop (o + (l.map u8).length)).toArray, hr.trans (by simp only [List.length_map]; rfl), ?_, ⟨rfl, rfl, rfl, by rw [size_setRow]; exact Nat.le_refl _, fun k _ hk => setRow_other w g k _ (fun e => hk (by rw [e]))⟩⟩
  have hol : (over D o l).length = n := by rw [over_length _ _ _ (by omega), hn]
  have hB2 : Blk (w.setRow g (cur.toList.take o ++ l.map u8 ++ cur.toList.drop (o + (l.map u8).length)).toArray) g e _ := setRow_heap w g cur _ e (0, 0) hblk
  have hcl : cur.toList.length = cap := by simpa using hcs
  have h2 := own_of (D := over D o l) hB (by rw [hol]; exact hnc) hcm hB2 (by simp; omega) (by
    rw [hol, List.length_map]
    simp only [List.take_append, List.length_append, List.length_take, List.length_map, hcl]
    unfold over
    rw [List.map_append, List.map_append, List.map_take, List.map_drop, ← ht, List.take_take, List.take_take, List.drop_take]
    rw [show min n o = o by omega, show min o n = o by omega, show min o cap = o by omega]
    rw [List.take_of_length_le (l := l.map u8) (by rw [List.length_map]; omega)])
  rwa [hol] at h2
theorem wpList_copy_own {t : TypeId} (hb : Byt P t e) {ops : Array Oper} {rest : List Oper} {op : Oper} {a : Act} {Q : Exit → Act → World → Prop} (hgd : op.guard = none) (d s : Operand)
    (ho : op.op = .call { callee := .builtin .copy, args := #[d, s], argTypes := #[t, t] }) (h : Own e w B (.slice (some ⟨g, 0, none⟩) n cap) D) (hn : n = D.length) {A : Option Addr} (hs : By w A l) (o dl dc m c : Nat) (hl : 0 < l.length) (hml : l.length = min m dl) (hfit : o + l.length ≤ n)
    (hd : a.eval d = .slice (some ⟨g, o, none⟩) dl dc) (hx : a.eval s = .slice A m c)
    (hk : ∀ w', Own e w' B (.slice (some ⟨g, 0, none⟩) n cap) (over D o l) → w.grownBy w' (some g) → wpList P ops Q rest (a.put op.dst (.int .i64 (l.length : Int))) w') : wpList P ops Q (op :: rest) a w := by
  refine wpList_plain hgd fun _ hK => ?_
  obtain ⟨w', hr, h2, h3⟩ := run_copy_own hb op.type h hn hs o dl dc m c hl hml hfit
  unfold Oper.wp execOp
  simp only [ho, resolve, invoke, builtin, Sem.run_bind, Sem.run_pure, Result.andThen_ok, List.map_toArray, List.map_cons, List.map_nil, hd, hx, hr]
  exact hK _ _ (hk w' h2 h3)
end

set_option maxHeartbeats 1600000 in
set_option maxRecDepth 100000 in
theorem sumOf_any (w : World) (g n cap : Nat) (D : List UInt8) (hD : D.length = n) (hn : 17 ≤ n) (hc : n ≤ cap) (hc2 : cap ≤ 9223372036854775807) (hb : By w (some ⟨g, 0, none⟩) D) :
    Calls Try.prog 72 #[.slice (some ⟨g, 0, none⟩) n cap] w fun e w' => e = .returned (.int .u32 ((crc (D.take 12 ++ D.drop 16)).toNat : Int)) ∧ Ext w w' := by
  have hb1 : By w.drew (some ⟨g, 0, none⟩) (D.take 12) := (hb.take 12).drew
  have hb2 : By w.drew (some ⟨g, 16, none⟩) (D.drop 16) := by
    rcases hb with rfl | ⟨b, o, e, hcc⟩
    · simp at hD; omega
    · injection e with e; injection e with e1 e2
      subst e1 e2
      refine .inr ⟨_, _, rfl, fun i hi => ?_⟩
      rw [List.length_drop] at hi
      have := hcc (16 + i) (by omega)
      rw [Nat.zero_add] at this
      show w.cell? _ = _
      rw [this]
      simp [at8, List.getD_eq_getElem?_getD]
  have hl1 : (D.take 12).length = 12 := by rw [List.length_take]; omega
  have hl2 : (D.drop 16).length = n - 16 := by rw [List.length_drop]; omega
  have hB := Bys.two (c := cap) (d := cap - 16) hb1 (by omega) hb2 (by omega) 24
  have hf : [D.take 12, D.drop 16].flatten = D.take 12 ++ D.drop 16 := by simp
  have hbl : (D.take 12 ++ D.drop 16).length ≤ 9223372036854775807 := by rw [List.length_append, hl1, hl2]; omega
  have K := csum_any _ [D.take 12, D.drop 16] 2 (by simp) (by rw [hf]; exact hbl) _ hB
  rw [hf, hl1, hl2] at K
  rw [show [D.take 12, D.drop 16].length = 2 from rfl] at K
  have K := Lib.hid K
  have hsub : (n : Int) - 16 = ((n - 16 : Nat) : Int) := by omega
  clear hb hf hB hl1 hl2 hb1 hb2 hD
  go_enter Try.func72, Try.ntmps72
  go_wp2_with fail
  refine wp_eager Ext.pre (n := 7) (by kernel_rfl) (by kernel_rfl) ?_
  refine Eg.batchK Ext.pre (by intro c a d v w h; cases d <;> exact h) (by kernel_rfl) (n := 3) [0, 1, 2, 3] [] _ (by kernel_rfl) (fun K hK => ?_); (simp only [pickOps, List.getElem?_toArray, List.getElem?_cons_zero, List.getElem?_cons_succ, Option.toList_some, List.cons_append, List.nil_append]); (repeat (first | go_big_quiet_step (fail) | quiet_step (fail))); refine wpQuiet_nil (hK _ ?_); clear hK K
  refine Eg.act Ext.pre (i := 4) (n := 2) (l := [0, 1, 2, 3]) rfl (by kernel_rfl) ?_
  go_wp2_with fail
  refine ⟨(Ext.refl _).alloc _, ?_⟩
  refine Eg.act Ext.pre (i := 5) (n := 1) (l := [0, 1, 2, 3, 4]) rfl (by kernel_rfl) ?_
  go_wp2_with fail
  refine K.out.mono ?_
  rintro e w' ⟨rfl, hE⟩
  go_wp2_with fail
  refine ⟨hE, ?_⟩
  refine Eg.batchK Ext.pre (by intro c a d v w h; cases d <;> exact h) (by kernel_rfl) (n := 0) [6] [0, 1, 2, 3, 4, 5] _ (by kernel_rfl) (fun K hK => ?_); (simp only [pickOps, List.getElem?_toArray, List.getElem?_cons_zero, List.getElem?_cons_succ, Option.toList_some, List.cons_append, List.nil_append]); (repeat (first | go_big_quiet_step (fail) | quiet_step (fail))); refine wpQuiet_nil (hK _ ?_); clear hK K
  refine Eg.finish (by kernel_rfl) ?_
  go_wp2_with fail
  go_ret
  exact ⟨rfl, ((Ext.refl w).drew.alloc _).trans hE⟩

/-- what a record's kind names, as bytes -/
def bodyR (r : Rec) : List UInt8 :=
  if r.kind = 1 then put r.xid 8 ++ put r.page.toNat 2 ++ put r.off.toNat 2 ++ blob r.b
  else if r.kind = 2 then put r.xid 8 ++ put r.page.toNat 2 ++ blob r.b
  else if r.kind = 3 then put r.xid 8 ++ subsB r.subs
  else if r.kind = 4 then put r.xid 8 ++ subsB r.subs
  else if r.kind = 5 then put r.xid 8
  else if r.kind = 6 then put r.next 8 ++ subsB r.subs
  else if r.kind = 7 then put r.next 8 ++ put r.redo 8
  else put r.redo 8 ++ put r.tml 8
/-- a record as the program may be given it -/
structure RecOk (r : Rec) : Prop where
  k1 : -9223372036854775808 ≤ r.kind
  k2 : r.kind ≤ 9223372036854775807
  xid : r.xid < 18446744073709551616
  next : r.next < 18446744073709551616
  redo : r.redo < 18446744073709551616
  tml : r.tml < 18446744073709551616
  b : r.b.length ≤ 2 ^ 62
  subs : r.subs.length < 2 ^ 62
  sub : ∀ i, i < r.subs.length → r.subs.getD i 0 < 18446744073709551616

theorem form_co (r : Rec) (hm : mayB r = true) (ho : RecOk r) (A S : Option Addr) (ca cs : Nat) (hca : r.b.length ≤ ca) :
    ∃ f, formV r.kind = some (.func (.func f) #[] #[]) ∧ (∀ args w, (callFunc f args).run Try.prog w = .ok (.enter f args) w) ∧ 1 ≤ r.kind ∧ r.kind ≤ 8 ∧ (bodyR r).length ≤ 3000 ∧
      ∀ (w : World) (B gr gc : Nat) (v : Value), By w A r.b → Nums w S r.subs → (r.b = [] ∨ ∀ b o, A = some ⟨b, o, none⟩ → b < B) → (r.subs = [] ∨ ∀ b o, S = some ⟨b, o, none⟩ → b < B) → Co w B gr gc v (recC r A ca S cs) (List.replicate 17 0) →
        Calls Try.prog f #[.pointer (some ⟨gc, 0, none⟩)] w fun e w' => (∃ x, e = .returned x) ∧ CoP w B gr gc (recC r A ca S cs) (List.replicate 17 0 ++ bodyR r) w' := by
  obtain ⟨kd, x, pg, of, bl, u, nx, rd, tl⟩ := r
  unfold mayB at hm
  simp only [Bool.and_eq_true] at hm
  obtain ⟨hk, hn, _⟩ := hm
  have h1 := ho.xid; have h2 := ho.next; have h3 := ho.redo; have h4 := ho.tml; have h6 := ho.sub
  simp only at h1 h2 h3 h4 h6 hca
  clear ho
  have h17 : (List.replicate 17 (0 : UInt8)).length ≤ 100 := by simp
  unfold isKindB at hk
  simp only [Bool.or_eq_true, decide_eq_true_eq] at hk
  have hk8 : kd = 1 ∨ kd = 2 ∨ kd = 3 ∨ kd = 4 ∨ kd = 5 ∨ kd = 6 ∨ kd = 7 ∨ kd = 8 := by omega
  clear hk
  rcases hk8 with rfl | rfl | rfl | rfl | rfl | rfl | rfl | rfl
  · have hn2 : (decide (x ≤ 4000) && (pageB pg && (decide (12 ≤ of) && (decide (of < 1024) && (decide (1 ≤ bl.length) && decide ((bl.length : Int) ≤ 1024 - of)))))) = true := hn
    unfold pageB at hn2
    simp only [Bool.and_eq_true, decide_eq_true_eq] at hn2
    obtain ⟨q1, ⟨q2, q3⟩, q4, q5, q6, q7⟩ := hn2
    obtain ⟨p, rfl⟩ : ∃ p : Nat, pg = (p : Int) := ⟨pg.toNat, by omega⟩
    obtain ⟨o, rfl⟩ : ∃ o : Nat, of = (o : Int) := ⟨of.toNat, by omega⟩
    have HBD : bodyR ⟨1, x, (p : Int), (o : Int), bl, u, nx, rd, tl⟩ = put x 8 ++ put p 2 ++ put o 2 ++ blob bl := rfl
    rw [HBD]
    refine ⟨89, rfl, enters_of Try.func89 (by kernel_rfl) rfl, (by show (1 : Int) ≤ 1; decide), (by show (1 : Int) ≤ 8; decide), (by simp only [List.length_append, put_length, blob_length]; omega), fun w B gr gc v hA hS hAB hSB hC => ?_⟩
    have K := change_co w B gr gc v (List.replicate 17 0) 1 x nx rd tl p o A S bl u ca cs h1 (by omega) (by omega) (by omega) hca hA hAB hC h17
    try simp only [List.append_assoc] at K ⊢
    exact K
  · have hn2 : (decide (x ≤ 4000) && (pageB pg && decide (bl.length = 1024))) = true := hn
    unfold pageB at hn2
    simp only [Bool.and_eq_true, decide_eq_true_eq] at hn2
    obtain ⟨q1, ⟨q2, q3⟩, q4⟩ := hn2
    obtain ⟨p, rfl⟩ : ∃ p : Nat, pg = (p : Int) := ⟨pg.toNat, by omega⟩
    have HBD : bodyR ⟨2, x, (p : Int), of, bl, u, nx, rd, tl⟩ = put x 8 ++ put p 2 ++ blob bl := rfl
    rw [HBD]
    refine ⟨90, rfl, enters_of Try.func90 (by kernel_rfl) rfl, (by show (1 : Int) ≤ 2; decide), (by show (2 : Int) ≤ 8; decide), (by simp only [List.length_append, put_length, blob_length]; omega), fun w B gr gc v hA hS hAB hSB hC => ?_⟩
    have K := image_co w B gr gc v (List.replicate 17 0) 2 x nx rd tl p of A S bl u ca cs h1 (by omega) (by omega) hca hA hAB hC h17
    try simp only [List.append_assoc] at K ⊢
    exact K
  · have hn2 : (xidB x && (decide (u.length ≤ 64) && risingB u x 4001)) = true := hn
    skip
    simp only [Bool.and_eq_true, decide_eq_true_eq] at hn2
    obtain ⟨q1, q2, q3⟩ := hn2
    have HBD : bodyR ⟨3, x, pg, of, bl, u, nx, rd, tl⟩ = put x 8 ++ subsB u := rfl
    rw [HBD]
    refine ⟨91, rfl, enters_of Try.func91 (by kernel_rfl) rfl, (by show (1 : Int) ≤ 3; decide), (by show (3 : Int) ≤ 8; decide), (by simp only [List.length_append, put_length, blob_length, subsB, put8s_length]; omega), fun w B gr gc v hA hS hAB hSB hC => ?_⟩
    have K := ended_co w B gr gc v (List.replicate 17 0) 3 x nx rd tl pg of A S bl u ca cs h1 (by omega) h6 hS hSB hC h17
    try simp only [List.append_assoc] at K ⊢
    exact K
  · have hn2 : (xidB x && (decide (u.length ≤ 64) && risingB u x 4001)) = true := hn
    skip
    simp only [Bool.and_eq_true, decide_eq_true_eq] at hn2
    obtain ⟨q1, q2, q3⟩ := hn2
    have HBD : bodyR ⟨4, x, pg, of, bl, u, nx, rd, tl⟩ = put x 8 ++ subsB u := rfl
    rw [HBD]
    refine ⟨91, rfl, enters_of Try.func91 (by kernel_rfl) rfl, (by show (1 : Int) ≤ 4; decide), (by show (4 : Int) ≤ 8; decide), (by simp only [List.length_append, put_length, blob_length, subsB, put8s_length]; omega), fun w B gr gc v hA hS hAB hSB hC => ?_⟩
    have K := ended_co w B gr gc v (List.replicate 17 0) 4 x nx rd tl pg of A S bl u ca cs h1 (by omega) h6 hS hSB hC h17
    try simp only [List.append_assoc] at K ⊢
    exact K
  · have hn2 : (decide (x ≤ 4000)) = true := hn
    skip
    simp only [Bool.and_eq_true, decide_eq_true_eq] at hn2
    have q1 := hn2
    have HBD : bodyR ⟨5, x, pg, of, bl, u, nx, rd, tl⟩ = put x 8 := rfl
    rw [HBD]
    refine ⟨92, rfl, enters_of Try.func92 (by kernel_rfl) rfl, (by show (1 : Int) ≤ 5; decide), (by show (5 : Int) ≤ 8; decide), (by rw [put_length]; omega), fun w B gr gc v hA hS hAB hSB hC => ?_⟩
    have K := cleanup_co w B gr gc v (List.replicate 17 0) 5 x nx rd tl pg of A S bl u ca cs h1 hC h17
    try simp only [List.append_assoc] at K ⊢
    exact K
  · have hn2 : (nextB nx && (decide (u.length ≤ 256) && risingB u 0 nx)) = true := hn
    skip
    simp only [Bool.and_eq_true, decide_eq_true_eq] at hn2
    obtain ⟨q1, q2, q3⟩ := hn2
    have HBD : bodyR ⟨6, x, pg, of, bl, u, nx, rd, tl⟩ = put nx 8 ++ subsB u := rfl
    rw [HBD]
    refine ⟨93, rfl, enters_of Try.func93 (by kernel_rfl) rfl, (by show (1 : Int) ≤ 6; decide), (by show (6 : Int) ≤ 8; decide), (by simp only [List.length_append, put_length, blob_length, subsB, put8s_length]; omega), fun w B gr gc v hA hS hAB hSB hC => ?_⟩
    have K := running_co w B gr gc v (List.replicate 17 0) 6 x nx rd tl pg of A S bl u ca cs h2 (by omega) h6 hS hSB hC h17
    try simp only [List.append_assoc] at K ⊢
    exact K
  · have hn2 : (decide (rd ≤ 4611686018427387904) && nextB nx) = true := hn
    skip
    simp only [Bool.and_eq_true, decide_eq_true_eq] at hn2
    obtain ⟨q1, q2⟩ := hn2
    have HBD : bodyR ⟨7, x, pg, of, bl, u, nx, rd, tl⟩ = put nx 8 ++ put rd 8 := rfl
    rw [HBD]
    refine ⟨94, rfl, enters_of Try.func94 (by kernel_rfl) rfl, (by show (1 : Int) ≤ 7; decide), (by show (7 : Int) ≤ 8; decide), (by simp only [List.length_append, put_length, blob_length]; omega), fun w B gr gc v hA hS hAB hSB hC => ?_⟩
    have K := check_co w B gr gc v (List.replicate 17 0) 7 x nx rd tl pg of A S bl u ca cs h2 h3 hC h17
    try simp only [List.append_assoc] at K ⊢
    exact K
  · have hn2 : (decide (1 ≤ tl) && (decide (tl ≤ 2147483647) && decide (rd ≤ 4611686018427387904))) = true := hn
    skip
    simp only [Bool.and_eq_true, decide_eq_true_eq] at hn2
    obtain ⟨q1, q2, q3⟩ := hn2
    have HBD : bodyR ⟨8, x, pg, of, bl, u, nx, rd, tl⟩ = put rd 8 ++ put tl 8 := rfl
    rw [HBD]
    refine ⟨95, rfl, enters_of Try.func95 (by kernel_rfl) rfl, (by show (1 : Int) ≤ 8; decide), (by show (8 : Int) ≤ 8; decide), (by simp only [List.length_append, put_length, blob_length]; omega), fun w B gr gc v hA hS hAB hSB hC => ?_⟩
    have K := switched_co w B gr gc v (List.replicate 17 0) 8 x nx rd tl pg of A S bl u ca cs h3 h4 hC h17
    try simp only [List.append_assoc] at K ⊢
    exact K

end Go.Proofs.Ytgbfeagoadlhmaa
