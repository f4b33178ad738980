
/-
  Records in memory; contracts of bytes.Equal, slices.Equal, record.Same, ref06.Same, ref06.Much (by reca.py).
-/
import Derived.Test.YtgbfeagoadlhmaaKnownA
import Derived.Test.YtgbfeagoadlhmaaEager
import Derived.Deep.CutRange
set_option linter.unusedVariables false
set_option linter.unusedSimpArgs false
namespace Go.Proofs.Ytgbfeagoadlhmaa
open Go.RowKit Pl

attribute [local go_sem] Oper.semAt_some

/-- the slice at A reads as numbers of 64 bits -/
def Nums (w : World) (A : Option Addr) (l : List Nat) : Prop :=
  l = [] ∨ ∃ b o, A = some ⟨b, o, none⟩ ∧ ∀ i, i < l.length → w.cell? ⟨b, o + i, none⟩ = some (.int .u64 ((l.getD i 0 : Nat) : Int))
theorem Nums.at_ {w : World} {A : Option Addr} {l : List Nat} (h : Nums w A l) {i : Nat} (hi : i < l.length) : ∃ b o, A = some ⟨b, o, none⟩ ∧ w.cell? ⟨b, o + i, none⟩ = some (.int .u64 ((l.getD i 0 : Nat) : Int)) := by
  rcases h with rfl | ⟨b, o, e, hc⟩
  · simp at hi
  · exact ⟨b, o, e, hc i hi⟩
theorem Nums.ext {w w' : World} {A : Option Addr} {l : List Nat} (h : Nums w A l) (hE : Ext w w') : Nums w' A l := by
  rcases h with h | ⟨b, o, e, hc⟩
  · exact .inl h
  · exact .inr ⟨b, o, e, fun i hi => hE.cell (hc i hi)⟩

/-- a record: its numbers, its bytes, its subs -/
structure Rec where
  kind : Int
  xid : Nat
  page : Int
  off : Int
  b : List UInt8
  subs : List Nat
  next : Nat
  redo : Nat
  tml : Nat
/-- a record as cells: its bytes at A, its subs at S -/
def recC (r : Rec) (A : Option Addr) (ca : Nat) (S : Option Addr) (cs : Nat) : Array Value :=
  #[.int .i64 r.kind, .int .u64 (r.xid : Int), .int .i64 r.page, .int .i64 r.off, .slice A r.b.length ca, .slice S r.subs.length cs, .int .u64 (r.next : Int), .int .u64 (r.redo : Int), .int .u64 (r.tml : Int)]
/-- are all of two records the same? -/
def sameR (r s : Rec) : Bool := (r.kind == s.kind) && ((r.xid == s.xid) && ((r.page == s.page) && ((r.off == s.off) && ((r.next == s.next) && ((r.redo == s.redo) && ((r.tml == s.tml) && ((r.b == s.b) && (r.subs == s.subs))))))))
theorem beq_natInt (a b : Nat) : ((a : Int) == (b : Int)) = (a == b) := by
  by_cases h : a = b
  · subst h; simp
  · rw [beq_eq_false_iff_ne.2 h, beq_eq_false_iff_ne.2]; omega
theorem beq_symm {α : Type} [BEq α] [LawfulBEq α] (a b : α) : (a == b) = (b == a) := by
  by_cases h : a = b
  · subst h; rfl
  · rw [beq_eq_false_iff_ne.2 h, beq_eq_false_iff_ne.2 (Ne.symm h)]
theorem sameR_symm (r s : Rec) : sameR r s = sameR s r := by
  unfold sameR
  rw [beq_symm r.kind, beq_symm r.xid, beq_symm r.page, beq_symm r.off, beq_symm r.next, beq_symm r.redo, beq_symm r.tml, beq_symm r.b, beq_symm r.subs]
theorem sameR_self (r : Rec) : sameR r r = true := by unfold sameR; simp

theorem ext_fresh (w : World) (o : Obj) : Ext w (w.alloc o) := (Ext.refl w).alloc o
theorem eqB_any (w : World) (A B : Option Addr) (l m : List UInt8) (c d : Nat) (ha : By w A l) (hb : By w B m) :
    Calls Try.prog 68 #[.slice A l.length c, .slice B m.length d] w fun e w' => e = .returned (.bool (l == m)) ∧ w = w' := by
  have h1 := str_any ha c
  have h2 := str_any hb d
  clear ha hb
  go_enter Try.func68, Try.ntmps68
  go_wp2_with fail
  go_ret
  exact ⟨rfl, rfl⟩

theorem load_u64 {w : World} {p : Addr} {n : Int} (h : w.cell? p = some (.int .u64 n)) : (Instr.loadAt 39 (.pointer (some p))).run Try.prog w = .ok (.int .u64 n) w := by
  simp [go_sem, h]
theorem eq_take {l m : List Nat} (hl : l.length = m.length) (h : ∀ i, i < l.length → l.getD i 0 = m.getD i 0) : l = m := by
  apply List.ext_getElem hl
  intro i h1 h2
  have := h i h1
  simpa [List.getD_eq_getElem?_getD, h1, h2] using this

set_option maxHeartbeats 1000000 in
set_option maxRecDepth 100000 in
theorem eqU_any (w : World) (A B : Option Addr) (l m : List Nat) (c d : Nat) (ha : Nums w A l) (hb : Nums w B m) (hl : l.length < 2 ^ 62) :
    Calls Try.prog 69 #[.slice A l.length c, .slice B m.length d] w fun e w' => e = .returned (.bool (l == m)) ∧ Ext w w' := by
  have HA := Lib.hid ha
  have HB := Lib.hid hb
  clear ha hb
  by_cases hne : l.length = m.length
  · have e0 : ((l.length : Int) != (m.length : Int)) = false := by rw [hne]; simp
    have HEQ : Hid ((∀ i, i < l.length → l.getD i 0 = m.getD i 0) → (l == m) = true) := Lib.hid (fun h => by rw [eq_take hne h]; simp)
    have HNE : Hid (∀ i, i < l.length → l.getD i 0 ≠ m.getD i 0 → (l == m) = false) := Lib.hid (fun i hi h => by
      rw [beq_eq_false_iff_ne]
      intro e; exact h (by rw [e]))
    have HLN := Lib.hid hne
    rw [hne] at e0
    generalize hml : m.length = ml at *
    have HL := Lib.hid hne
    clear hne HLN
    generalize (l == m) = r at *
    obtain ⟨n, hn⟩ : ∃ n, l.length = n := ⟨_, rfl⟩
    have HN := Lib.hid hn
    have hnm : n = ml := by rw [← hn]; exact HL.out
    rw [hn] at HEQ HNE hl ⊢
    subst hnm
    clear hn HL
    have HM := Lib.hid hml
    clear hml
    go_enter Try.func69, Try.ntmps69
    go_wp2_with fail
    go_loopw [13] (fun q wr => ∃ k : Nat, k ≤ n ∧ q = .int .i64 (k : Int) ∧ (∀ i, i < k → l.getD i 0 = m.getD i 0) ∧ Ext w wr) (fun q _ => n - (intOf q).toNat)
    case atStart => exact ⟨0, Nat.zero_le _, rfl, fun i hi => by omega, Ext.refl _⟩
    case round =>
      obtain ⟨k, hk, rfl, hp, hE⟩ := hrel
      have HP := Lib.hid hp
      have HE := Lib.hid hE
      clear hp hE
      by_cases hkn : k < n
      · have dk : decide ((k : Int) < (n : Int)) = true := decide_eq_true (by omega)
        obtain ⟨g1, o1, rfl, x1⟩ := (HA.out.ext HE.out).at_ (i := k) (by rw [HN.out]; exact hkn)
        obtain ⟨g2, o2, rfl, x2⟩ := (HB.out.ext HE.out).at_ (i := k) (by rw [HM.out]; exact hkn)
        by_cases he : l.getD k 0 = m.getD k 0
        · have HP2 : Hid (∀ i, i < k + 1 → l.getD i 0 = m.getD i 0) := Lib.hid (fun i hi => by
            by_cases hik : i = k
            · subst hik; exact he
            · exact HP.out i (by omega))
          have d1 : ((l.getD k 0 : Int) != (m.getD k 0 : Int)) = false := by rw [he]; simp
          clear he
          generalize l.getD k 0 = a at *
          generalize m.getD k 0 = b at *
          go_upto_region 6 with fail
          refine wp_eager Ext.pre (n := 9) (by kernel_rfl) (by kernel_rfl) ?_
          refine Eg.batchK Ext.pre (by intro c a d v w h; cases d <;> exact h) (by kernel_rfl) (n := 3) [0, 1, 2, 4, 5, 6] [] _ (by kernel_rfl) (fun K hK => ?_); (simp only [pickOps, List.getElem?_toArray, List.getElem?_cons_zero, List.getElem?_cons_succ, Option.toList_some, List.cons_append, List.nil_append]); (repeat (first | go_big_quiet_step (fail) | quiet_step (fail))); refine wpQuiet_nil (hK _ ?_); clear hK K
          (refine Eg.read Ext.pre (by intro c a d v w h; cases d <;> exact h) (by kernel_rfl) (i := 3) (n := 2) (l := [0, 1, 2, 4, 5, 6]) rfl (by kernel_rfl) (by kernel_rfl) rfl ⟨_, fun w' hR => load_run rfl (load_u64 (((Ext.refl wr).drew.trans hR).cell x1)), ?_⟩); (simp only [Act.put, List.setIfInBounds_toArray, List.getElem_toArray, List.getElem_cons_succ, List.getElem_cons_zero, List.set_cons_succ, List.set_cons_zero])
          (refine Eg.read Ext.pre (by intro c a d v w h; cases d <;> exact h) (by kernel_rfl) (i := 7) (n := 1) (l := [0, 1, 2, 4, 5, 6, 3]) rfl (by kernel_rfl) (by kernel_rfl) rfl ⟨_, fun w' hR => load_run rfl (load_u64 (((Ext.refl wr).drew.trans hR).cell x2)), ?_⟩); (simp only [Act.put, List.setIfInBounds_toArray, List.getElem_toArray, List.getElem_cons_succ, List.getElem_cons_zero, List.set_cons_succ, List.set_cons_zero])
          refine Eg.batchK Ext.pre (by intro c a d v w h; cases d <;> exact h) (by kernel_rfl) (n := 0) [8] [0, 1, 2, 4, 5, 6, 3, 7] _ (by kernel_rfl) (fun K hK => ?_); (simp only [pickOps, List.getElem?_toArray, List.getElem?_cons_zero, List.getElem?_cons_succ, Option.toList_some, List.cons_append, List.nil_append]); (repeat (first | go_big_quiet_step (fail) | quiet_step (fail))); refine wpQuiet_nil (hK _ ?_); clear hK K
          refine Eg.finish (by kernel_rfl) ?_
          go_wp2_with fail
          exact ⟨⟨k + 1, by omega, by go_num, HP2.out, HE.out.drew⟩, by simp [intOf]; omega⟩
        · have d1 : ((l.getD k 0 : Int) != (m.getD k 0 : Int)) = true := by rw [bne_iff_ne]; omega
          have HF := Lib.hid (HNE.out k hkn he)
          clear he
          generalize l.getD k 0 = a at *
          generalize m.getD k 0 = b at *
          go_upto_region 6 with fail
          refine wp_eager Ext.pre (n := 9) (by kernel_rfl) (by kernel_rfl) ?_
          refine Eg.batchK Ext.pre (by intro c a d v w h; cases d <;> exact h) (by kernel_rfl) (n := 3) [0, 1, 2, 4, 5, 6] [] _ (by kernel_rfl) (fun K hK => ?_); (simp only [pickOps, List.getElem?_toArray, List.getElem?_cons_zero, List.getElem?_cons_succ, Option.toList_some, List.cons_append, List.nil_append]); (repeat (first | go_big_quiet_step (fail) | quiet_step (fail))); refine wpQuiet_nil (hK _ ?_); clear hK K
          (refine Eg.read Ext.pre (by intro c a d v w h; cases d <;> exact h) (by kernel_rfl) (i := 3) (n := 2) (l := [0, 1, 2, 4, 5, 6]) rfl (by kernel_rfl) (by kernel_rfl) rfl ⟨_, fun w' hR => load_run rfl (load_u64 (((Ext.refl wr).drew.trans hR).cell x1)), ?_⟩); (simp only [Act.put, List.setIfInBounds_toArray, List.getElem_toArray, List.getElem_cons_succ, List.getElem_cons_zero, List.set_cons_succ, List.set_cons_zero])
          (refine Eg.read Ext.pre (by intro c a d v w h; cases d <;> exact h) (by kernel_rfl) (i := 7) (n := 1) (l := [0, 1, 2, 4, 5, 6, 3]) rfl (by kernel_rfl) (by kernel_rfl) rfl ⟨_, fun w' hR => load_run rfl (load_u64 (((Ext.refl wr).drew.trans hR).cell x2)), ?_⟩); (simp only [Act.put, List.setIfInBounds_toArray, List.getElem_toArray, List.getElem_cons_succ, List.getElem_cons_zero, List.set_cons_succ, List.set_cons_zero])
          refine Eg.batchK Ext.pre (by intro c a d v w h; cases d <;> exact h) (by kernel_rfl) (n := 0) [8] [0, 1, 2, 4, 5, 6, 3, 7] _ (by kernel_rfl) (fun K hK => ?_); (simp only [pickOps, List.getElem?_toArray, List.getElem?_cons_zero, List.getElem?_cons_succ, Option.toList_some, List.cons_append, List.nil_append]); (repeat (first | go_big_quiet_step (fail) | quiet_step (fail))); refine wpQuiet_nil (hK _ ?_); clear hK K
          refine Eg.finish (by kernel_rfl) ?_
          go_wp2_with fail
          go_ret
          exact ⟨by rw [HF.out]; rfl, HE.out.drew⟩
      · obtain rfl : k = n := by omega
        have dk : decide ((k : Int) < (k : Int)) = false := by simp
        have HT := Lib.hid (HEQ.out HP.out)
        go_wp2_with fail
        go_ret
        exact ⟨by rw [HT.out]; rfl, HE.out⟩
  · have e0 : ((l.length : Int) != (m.length : Int)) = true := by rw [bne_iff_ne]; omega
    have HF : Hid ((l == m) = false) := Lib.hid (by
      rw [beq_eq_false_iff_ne]
      intro e; exact hne (by rw [e]))
    rw [HF.out]
    clear hne
    go_enter Try.func69, Try.ntmps69
    go_wp2_with fail
    go_ret
    exact ⟨rfl, Ext.refl _⟩

set_option maxHeartbeats 3200000 in
set_option maxRecDepth 100000 in
theorem Same_any (w : World) (r s : Rec) (A B S T : Option Addr) (ca cb cs ct : Nat) (hA : By w A r.b) (hB : By w B s.b) (hS : Nums w S r.subs) (hT : Nums w T s.subs) (hl : r.subs.length < 2 ^ 62) :
    Calls Try.prog 32 #[.agg (recC r A ca S cs), .agg (recC s B cb T ct)] w fun e w' => e = .returned (.bool (sameR r s)) ∧ Ext w w' := by
  obtain ⟨k1, x1, p1, o1, l1, u1, n1, d1, t1⟩ := r
  obtain ⟨k2, x2, p2, o2, l2, u2, n2, d2, t2⟩ := s
  simp only at hA hB hS hT hl
  unfold recC sameR
  simp only
  have HX := Lib.hid ((ext_fresh w (.cells #[.int .i64 k1, .int .u64 (x1 : Int), .int .i64 p1, .int .i64 o1, .slice A l1.length ca, .slice S u1.length cs, .int .u64 (n1 : Int), .int .u64 (d1 : Int), .int .u64 (t1 : Int)] 65)).alloc (.cells #[.int .i64 k2, .int .u64 (x2 : Int), .int .i64 p2, .int .i64 o2, .slice B l2.length cb, .slice T u2.length ct, .int .u64 (n2 : Int), .int .u64 (d2 : Int), .int .u64 (t2 : Int)] 65))
  have HA := Lib.hid (hA.ext HX.out)
  have HB := Lib.hid (hB.ext HX.out)
  have HS := Lib.hid (hS.ext HX.out)
  have HT := Lib.hid (hT.ext HX.out)
  clear hA hB hS hT
  rw [← beq_natInt x1 x2, ← beq_natInt n1 n2, ← beq_natInt d1 d2, ← beq_natInt t1 t2]
  cases e0 : (k1 == k2) with
  | false =>
    simp only [Bool.false_and]
    clear HA HB HS HT hl
    go_enter Try.func32, Try.ntmps32
    go_wp2_with fail
    go_ret
    exact ⟨rfl, HX.out⟩
  | true =>
    simp only [Bool.true_and]
    cases e1 : ((x1 : Int) == (x2 : Int)) with
    | false =>
      simp only [Bool.false_and]
      clear HA HB HS HT hl
      go_enter Try.func32, Try.ntmps32
      go_wp2_with fail
      go_ret
      exact ⟨rfl, HX.out⟩
    | true =>
      simp only [Bool.true_and]
      cases e2 : (p1 == p2) with
      | false =>
        simp only [Bool.false_and]
        clear HA HB HS HT hl
        go_enter Try.func32, Try.ntmps32
        go_wp2_with fail
        go_ret
        exact ⟨rfl, HX.out⟩
      | true =>
        simp only [Bool.true_and]
        cases e3 : (o1 == o2) with
        | false =>
          simp only [Bool.false_and]
          clear HA HB HS HT hl
          go_enter Try.func32, Try.ntmps32
          go_wp2_with fail
          go_ret
          exact ⟨rfl, HX.out⟩
        | true =>
          simp only [Bool.true_and]
          cases e4 : ((n1 : Int) == (n2 : Int)) with
          | false =>
            simp only [Bool.false_and]
            clear HA HB HS HT hl
            go_enter Try.func32, Try.ntmps32
            go_wp2_with fail
            go_ret
            exact ⟨rfl, HX.out⟩
          | true =>
            simp only [Bool.true_and]
            cases e5 : ((d1 : Int) == (d2 : Int)) with
            | false =>
              simp only [Bool.false_and]
              clear HA HB HS HT hl
              go_enter Try.func32, Try.ntmps32
              go_wp2_with fail
              go_ret
              exact ⟨rfl, HX.out⟩
            | true =>
              simp only [Bool.true_and]
              cases e6 : ((t1 : Int) == (t2 : Int)) with
              | false =>
                simp only [Bool.false_and]
                clear HA HB HS HT hl
                go_enter Try.func32, Try.ntmps32
                go_wp2_with fail
                go_ret
                exact ⟨rfl, HX.out⟩
              | true =>
                simp only [Bool.true_and]
                have KB := Lib.hid (eqB_any _ A B l1 l2 ca cb HA.out HB.out)
                have KS := Lib.hid (eqU_any _ S T u1 u2 cs ct HS.out HT.out hl)
                go_enter Try.func32, Try.ntmps32
                clear HA HB HS HT hl
                cases eb : (l1 == l2) with
                | false =>
                  rw [eb] at KB
                  clear KS eb
                  go_wp2_with fail
                  refine KB.out.mono ?_
                  rintro e w1 ⟨rfl, rfl⟩
                  go_wp2_with fail
                  go_ret
                  exact ⟨rfl, HX.out⟩
                | true =>
                  rw [eb] at KB
                  clear eb
                  simp only [Bool.true_and]
                  generalize (u1 == u2) = ub at *
                  go_wp2_with fail
                  refine KB.out.mono ?_
                  rintro e w1 ⟨rfl, rfl⟩
                  go_wp2_with fail
                  refine KS.out.mono ?_
                  rintro e w2 ⟨rfl, hE⟩
                  go_wp2_with fail
                  go_ret
                  exact ⟨rfl, HX.out.trans hE⟩

theorem load_slu {w : World} {p : Addr} {A : Option Addr} {n c : Nat} (h : w.cell? p = some (.slice A n c)) : (Instr.loadAt 63 (.pointer (some p))).run Try.prog w = .ok (.slice A n c) w := by
  simp [go_sem, h]

set_option maxHeartbeats 3200000 in
set_option maxRecDepth 100000 in
theorem Same_ref (w : World) (r s : Rec) (A B S T : Option Addr) (ca cb cs ct : Nat) (hA : By w A r.b) (hB : By w B s.b) (hS : Nums w S r.subs) (hT : Nums w T s.subs) (hl : r.subs.length < 2 ^ 62) :
    Calls Try.prog 33 #[.agg (recC r A ca S cs), .agg (recC s B cb T ct)] w fun e w' => e = .returned (.bool (sameR r s)) ∧ Ext w w' := by
  obtain ⟨k1, x1, p1, o1, l1, u1, n1, d1, t1⟩ := r
  obtain ⟨k2, x2, p2, o2, l2, u2, n2, d2, t2⟩ := s
  simp only at hA hB hS hT hl
  unfold recC sameR
  simp only
  have HX := Lib.hid ((ext_fresh w (.cells #[.int .i64 k1, .int .u64 (x1 : Int), .int .i64 p1, .int .i64 o1, .slice A l1.length ca, .slice S u1.length cs, .int .u64 (n1 : Int), .int .u64 (d1 : Int), .int .u64 (t1 : Int)] 65)).alloc (.cells #[.int .i64 k2, .int .u64 (x2 : Int), .int .i64 p2, .int .i64 o2, .slice B l2.length cb, .slice T u2.length ct, .int .u64 (n2 : Int), .int .u64 (d2 : Int), .int .u64 (t2 : Int)] 65))
  have HA := Lib.hid (hA.ext HX.out)
  have HB := Lib.hid (hB.ext HX.out)
  have HS := Lib.hid (hS.ext HX.out)
  have HT := Lib.hid (hT.ext HX.out)
  clear hA hB hS hT
  rw [← beq_natInt x1 x2, ← beq_natInt n1 n2, ← beq_natInt d1 d2, ← beq_natInt t1 t2]
  cases e0 : (k1 == k2) with
  | false =>
    simp only [Bool.false_and]
    have f0 : (k1 != k2) = true := by unfold bne; rw [e0]; rfl
    clear HA HB HS HT hl
    go_enter Try.func33, Try.ntmps33
    go_wp2_with fail
    go_ret
    exact ⟨rfl, HX.out⟩
  | true =>
    simp only [Bool.true_and]
    have f0 : (k1 != k2) = false := by unfold bne; rw [e0]; rfl
    cases e1 : ((x1 : Int) == (x2 : Int)) with
    | false =>
      simp only [Bool.false_and]
      have f1 : ((x1 : Int) != (x2 : Int)) = true := by unfold bne; rw [e1]; rfl
      clear HA HB HS HT hl
      go_enter Try.func33, Try.ntmps33
      go_wp2_with fail
      go_ret
      exact ⟨rfl, HX.out⟩
    | true =>
      simp only [Bool.true_and]
      have f1 : ((x1 : Int) != (x2 : Int)) = false := by unfold bne; rw [e1]; rfl
      cases e2 : (p1 == p2) with
      | false =>
        simp only [Bool.false_and]
        have f2 : (p1 != p2) = true := by unfold bne; rw [e2]; rfl
        clear HA HB HS HT hl
        go_enter Try.func33, Try.ntmps33
        go_wp2_with fail
        go_ret
        exact ⟨rfl, HX.out⟩
      | true =>
        simp only [Bool.true_and]
        have f2 : (p1 != p2) = false := by unfold bne; rw [e2]; rfl
        cases e3 : (o1 == o2) with
        | false =>
          simp only [Bool.false_and]
          have f3 : (o1 != o2) = true := by unfold bne; rw [e3]; rfl
          clear HA HB HS HT hl
          go_enter Try.func33, Try.ntmps33
          go_wp2_with fail
          go_ret
          exact ⟨rfl, HX.out⟩
        | true =>
          simp only [Bool.true_and]
          have f3 : (o1 != o2) = false := by unfold bne; rw [e3]; rfl
          cases e4 : ((n1 : Int) == (n2 : Int)) with
          | false =>
            simp only [Bool.false_and]
            have f4 : ((n1 : Int) != (n2 : Int)) = true := by unfold bne; rw [e4]; rfl
            clear HA HB HS HT hl
            go_enter Try.func33, Try.ntmps33
            go_wp2_with fail
            go_ret
            exact ⟨rfl, HX.out⟩
          | true =>
            simp only [Bool.true_and]
            have f4 : ((n1 : Int) != (n2 : Int)) = false := by unfold bne; rw [e4]; rfl
            cases e5 : ((d1 : Int) == (d2 : Int)) with
            | false =>
              simp only [Bool.false_and]
              have f5 : ((d1 : Int) != (d2 : Int)) = true := by unfold bne; rw [e5]; rfl
              clear HA HB HS HT hl
              go_enter Try.func33, Try.ntmps33
              go_wp2_with fail
              go_ret
              exact ⟨rfl, HX.out⟩
            | true =>
              simp only [Bool.true_and]
              have f5 : ((d1 : Int) != (d2 : Int)) = false := by unfold bne; rw [e5]; rfl
              cases e6 : ((t1 : Int) == (t2 : Int)) with
              | false =>
                simp only [Bool.false_and]
                have f6 : ((t1 : Int) != (t2 : Int)) = true := by unfold bne; rw [e6]; rfl
                clear HA HB HS HT hl
                go_enter Try.func33, Try.ntmps33
                go_wp2_with fail
                go_ret
                exact ⟨rfl, HX.out⟩
              | true =>
                simp only [Bool.true_and]
                have f6 : ((t1 : Int) != (t2 : Int)) = false := by unfold bne; rw [e6]; rfl
                have hs1 := str_any HA.out ca
                have hs2 := str_any HB.out cb
                have HBa := Lib.hid ((Blk.new w 65 #[.int .i64 k1, .int .u64 (x1 : Int), .int .i64 p1, .int .i64 o1, .slice A l1.length ca, .slice S u1.length cs, .int .u64 (n1 : Int), .int .u64 (d1 : Int), .int .u64 (t1 : Int)]).alloc (.cells #[.int .i64 k2, .int .u64 (x2 : Int), .int .i64 p2, .int .i64 o2, .slice B l2.length cb, .slice T u2.length ct, .int .u64 (n2 : Int), .int .u64 (d2 : Int), .int .u64 (t2 : Int)] 65))
                have HBb := Lib.hid (Blk.new (w.alloc (.cells #[.int .i64 k1, .int .u64 (x1 : Int), .int .i64 p1, .int .i64 o1, .slice A l1.length ca, .slice S u1.length cs, .int .u64 (n1 : Int), .int .u64 (d1 : Int), .int .u64 (t1 : Int)] 65)) 65 #[.int .i64 k2, .int .u64 (x2 : Int), .int .i64 p2, .int .i64 o2, .slice B l2.length cb, .slice T u2.length ct, .int .u64 (n2 : Int), .int .u64 (d2 : Int), .int .u64 (t2 : Int)])
                simp only [World.size_alloc] at HBb
                clear HA HB
                cases eb : (l1 == l2) with
                | false =>
                  simp only [Bool.false_and]
                  have fb : (l1 != l2) = true := by unfold bne; rw [eb]; rfl
                  clear HS HT HBa HBb hl
                  go_enter Try.func33, Try.ntmps33
                  go_wp2_with fail
                  go_ret
                  exact ⟨rfl, HX.out⟩
                | true =>
                  simp only [Bool.true_and]
                  have fb : (l1 != l2) = false := by unfold bne; rw [eb]; rfl
                  by_cases hne : u1.length = u2.length
                  · have HEQ : Hid ((∀ i, i < u1.length → u1.getD i 0 = u2.getD i 0) → (u1 == u2) = true) := Lib.hid (fun h => by rw [eq_take hne h]; simp)
                    have HNE : Hid (∀ i, i < u1.length → u1.getD i 0 ≠ u2.getD i 0 → (u1 == u2) = false) := Lib.hid (fun i hi h => by
                      rw [beq_eq_false_iff_ne]
                      intro e; exact h (by rw [e]))
                    have HN := Lib.hid hne
                    have e0 : ((u1.length : Int) != (u1.length : Int)) = false := by simp
                    rw [← hne] at HBa HBb HX hs1 hs2 HS HT ⊢
                    generalize (u1 == u2) = r at *
                    obtain ⟨n, hn⟩ : ∃ n, u1.length = n := ⟨_, rfl⟩
                    have HL1 := Lib.hid hn
                    have HL2 : Hid (u2.length = n) := Lib.hid (by rw [← hne]; exact hn)
                    rw [hn] at HBa HBb HX HEQ HNE hl e0 hs1 hs2 HS HT ⊢
                    clear hne hn HN
                    go_enter Try.func33, Try.ntmps33
                    go_wp2_with fail
                    go_loopw [5] (fun q wr => ∃ k : Nat, k ≤ n ∧ q = .int .i64 (k : Int) ∧ (∀ i, i < k → u1.getD i 0 = u2.getD i 0) ∧ Blk wr w.heap.size 65 #[.int .i64 k1, .int .u64 (x1 : Int), .int .i64 p1, .int .i64 o1, .slice A l1.length ca, .slice S n cs, .int .u64 (n1 : Int), .int .u64 (d1 : Int), .int .u64 (t1 : Int)] ∧ Blk wr (w.heap.size + 1) 65 #[.int .i64 k2, .int .u64 (x2 : Int), .int .i64 p2, .int .i64 o2, .slice B l2.length cb, .slice T n ct, .int .u64 (n2 : Int), .int .u64 (d2 : Int), .int .u64 (t2 : Int)] ∧ Ext ((w.alloc (.cells #[.int .i64 k1, .int .u64 (x1 : Int), .int .i64 p1, .int .i64 o1, .slice A l1.length ca, .slice S n cs, .int .u64 (n1 : Int), .int .u64 (d1 : Int), .int .u64 (t1 : Int)] 65)).alloc (.cells #[.int .i64 k2, .int .u64 (x2 : Int), .int .i64 p2, .int .i64 o2, .slice B l2.length cb, .slice T n ct, .int .u64 (n2 : Int), .int .u64 (d2 : Int), .int .u64 (t2 : Int)] 65)) wr) (fun q _ => n - (intOf q).toNat)
                    case atStart => exact ⟨0, Nat.zero_le _, rfl, fun i hi => by omega, HBa.out, HBb.out, Ext.refl _⟩
                    case round =>
                      obtain ⟨k, hk, rfl, hp, hb1, hb2, hE⟩ := hrel
                      have HP := Lib.hid hp
                      have HE := Lib.hid hE
                      have HB1 := Lib.hid hb1
                      have HB2 := Lib.hid hb2
                      have c5 : wr.cell? ⟨w.heap.size, 5, none⟩ = some (.slice S n cs) := by rw [hb1.cell]; rfl
                      have c6 : wr.cell? ⟨w.heap.size + 1, 5, none⟩ = some (.slice T n ct) := by rw [hb2.cell]; rfl
                      clear hp hE hb1 hb2 HBa HBb hs1 hs2 fb eb
                      by_cases hkn : k < n
                      · have dk : decide ((k : Int) < (n : Int)) = true := decide_eq_true (by omega)
                        obtain ⟨g1, o1', rfl, x1'⟩ := (HS.out.ext HE.out).at_ (i := k) (by rw [HL1.out]; exact hkn)
                        obtain ⟨g2, o2', rfl, x2'⟩ := (HT.out.ext HE.out).at_ (i := k) (by rw [HL2.out]; exact hkn)
                        by_cases he : u1.getD k 0 = u2.getD k 0
                        · have HP2 : Hid (∀ i, i < k + 1 → u1.getD i 0 = u2.getD i 0) := Lib.hid (fun i hi => by
                            by_cases hik : i = k
                            · subst hik; exact he
                            · exact HP.out i (by omega))
                          have d1 : ((u1.getD k 0 : Int) != (u2.getD k 0 : Int)) = false := by rw [he]; simp
                          clear he
                          generalize u1.getD k 0 = a at *
                          generalize u2.getD k 0 = b at *
                          go_upto_region 6 with fail
                          refine wp_eager Ext.pre (n := 11) (by kernel_rfl) (by kernel_rfl) ?_
                          refine Eg.batchK Ext.pre (by intro c a d v w h; cases d <;> exact h) (by kernel_rfl) (n := 7) [0, 2, 5, 7] [] _ (by kernel_rfl) (fun K hK => ?_); (simp only [pickOps, List.getElem?_toArray, List.getElem?_cons_zero, List.getElem?_cons_succ, Option.toList_some, List.cons_append, List.nil_append]); (repeat (first | go_big_quiet_step (fail) | quiet_step (fail))); refine wpQuiet_nil (hK _ ?_); clear hK K
                          (refine Eg.read Ext.pre (by intro c a d v w h; cases d <;> exact h) (by kernel_rfl) (i := 1) (n := 6) (l := [0, 2, 5, 7]) rfl (by kernel_rfl) (by kernel_rfl) rfl ⟨_, fun w' hR => load_run rfl (load_slu (((Ext.refl wr).drew.trans hR).cell c5)), ?_⟩); (simp only [Act.put, List.setIfInBounds_toArray, List.getElem_toArray, List.getElem_cons_succ, List.getElem_cons_zero, List.set_cons_succ, List.set_cons_zero])
                          refine Eg.batchK Ext.pre (by intro c a d v w h; cases d <;> exact h) (by kernel_rfl) (n := 5) [3] [0, 2, 5, 7, 1] _ (by kernel_rfl) (fun K hK => ?_); (simp only [pickOps, List.getElem?_toArray, List.getElem?_cons_zero, List.getElem?_cons_succ, Option.toList_some, List.cons_append, List.nil_append]); (repeat (first | go_big_quiet_step (fail) | quiet_step (fail))); refine wpQuiet_nil (hK _ ?_); clear hK K
                          (refine Eg.read Ext.pre (by intro c a d v w h; cases d <;> exact h) (by kernel_rfl) (i := 4) (n := 4) (l := [0, 2, 5, 7, 1, 3]) rfl (by kernel_rfl) (by kernel_rfl) rfl ⟨_, fun w' hR => load_run rfl (load_u64 (((Ext.refl wr).drew.trans hR).cell x1')), ?_⟩); (simp only [Act.put, List.setIfInBounds_toArray, List.getElem_toArray, List.getElem_cons_succ, List.getElem_cons_zero, List.set_cons_succ, List.set_cons_zero])
                          (refine Eg.read Ext.pre (by intro c a d v w h; cases d <;> exact h) (by kernel_rfl) (i := 6) (n := 3) (l := [0, 2, 5, 7, 1, 3, 4]) rfl (by kernel_rfl) (by kernel_rfl) rfl ⟨_, fun w' hR => load_run rfl (load_slu (((Ext.refl wr).drew.trans hR).cell c6)), ?_⟩); (simp only [Act.put, List.setIfInBounds_toArray, List.getElem_toArray, List.getElem_cons_succ, List.getElem_cons_zero, List.set_cons_succ, List.set_cons_zero])
                          refine Eg.batchK Ext.pre (by intro c a d v w h; cases d <;> exact h) (by kernel_rfl) (n := 2) [8] [0, 2, 5, 7, 1, 3, 4, 6] _ (by kernel_rfl) (fun K hK => ?_); (simp only [pickOps, List.getElem?_toArray, List.getElem?_cons_zero, List.getElem?_cons_succ, Option.toList_some, List.cons_append, List.nil_append]); (repeat (first | go_big_quiet_step (fail) | quiet_step (fail))); refine wpQuiet_nil (hK _ ?_); clear hK K
                          (refine Eg.read Ext.pre (by intro c a d v w h; cases d <;> exact h) (by kernel_rfl) (i := 9) (n := 1) (l := [0, 2, 5, 7, 1, 3, 4, 6, 8]) rfl (by kernel_rfl) (by kernel_rfl) rfl ⟨_, fun w' hR => load_run rfl (load_u64 (((Ext.refl wr).drew.trans hR).cell x2')), ?_⟩); (simp only [Act.put, List.setIfInBounds_toArray, List.getElem_toArray, List.getElem_cons_succ, List.getElem_cons_zero, List.set_cons_succ, List.set_cons_zero])
                          refine Eg.batchK Ext.pre (by intro c a d v w h; cases d <;> exact h) (by kernel_rfl) (n := 0) [10] [0, 2, 5, 7, 1, 3, 4, 6, 8, 9] _ (by kernel_rfl) (fun K hK => ?_); (simp only [pickOps, List.getElem?_toArray, List.getElem?_cons_zero, List.getElem?_cons_succ, Option.toList_some, List.cons_append, List.nil_append]); (repeat (first | go_big_quiet_step (fail) | quiet_step (fail))); refine wpQuiet_nil (hK _ ?_); clear hK K
                          refine Eg.finish (by kernel_rfl) ?_
                          go_wp2_with fail
                          exact ⟨⟨k + 1, by omega, by go_num, HP2.out, HB1.out.drew, HB2.out.drew, HE.out.drew⟩, by simp [intOf]; omega⟩
                        · have d1 : ((u1.getD k 0 : Int) != (u2.getD k 0 : Int)) = true := by rw [bne_iff_ne]; omega
                          have HF := Lib.hid (HNE.out k hkn he)
                          clear he
                          generalize u1.getD k 0 = a at *
                          generalize u2.getD k 0 = b at *
                          go_upto_region 6 with fail
                          refine wp_eager Ext.pre (n := 11) (by kernel_rfl) (by kernel_rfl) ?_
                          refine Eg.batchK Ext.pre (by intro c a d v w h; cases d <;> exact h) (by kernel_rfl) (n := 7) [0, 2, 5, 7] [] _ (by kernel_rfl) (fun K hK => ?_); (simp only [pickOps, List.getElem?_toArray, List.getElem?_cons_zero, List.getElem?_cons_succ, Option.toList_some, List.cons_append, List.nil_append]); (repeat (first | go_big_quiet_step (fail) | quiet_step (fail))); refine wpQuiet_nil (hK _ ?_); clear hK K
                          (refine Eg.read Ext.pre (by intro c a d v w h; cases d <;> exact h) (by kernel_rfl) (i := 1) (n := 6) (l := [0, 2, 5, 7]) rfl (by kernel_rfl) (by kernel_rfl) rfl ⟨_, fun w' hR => load_run rfl (load_slu (((Ext.refl wr).drew.trans hR).cell c5)), ?_⟩); (simp only [Act.put, List.setIfInBounds_toArray, List.getElem_toArray, List.getElem_cons_succ, List.getElem_cons_zero, List.set_cons_succ, List.set_cons_zero])
                          refine Eg.batchK Ext.pre (by intro c a d v w h; cases d <;> exact h) (by kernel_rfl) (n := 5) [3] [0, 2, 5, 7, 1] _ (by kernel_rfl) (fun K hK => ?_); (simp only [pickOps, List.getElem?_toArray, List.getElem?_cons_zero, List.getElem?_cons_succ, Option.toList_some, List.cons_append, List.nil_append]); (repeat (first | go_big_quiet_step (fail) | quiet_step (fail))); refine wpQuiet_nil (hK _ ?_); clear hK K
                          (refine Eg.read Ext.pre (by intro c a d v w h; cases d <;> exact h) (by kernel_rfl) (i := 4) (n := 4) (l := [0, 2, 5, 7, 1, 3]) rfl (by kernel_rfl) (by kernel_rfl) rfl ⟨_, fun w' hR => load_run rfl (load_u64 (((Ext.refl wr).drew.trans hR).cell x1')), ?_⟩); (simp only [Act.put, List.setIfInBounds_toArray, List.getElem_toArray, List.getElem_cons_succ, List.getElem_cons_zero, List.set_cons_succ, List.set_cons_zero])
                          (refine Eg.read Ext.pre (by intro c a d v w h; cases d <;> exact h) (by kernel_rfl) (i := 6) (n := 3) (l := [0, 2, 5, 7, 1, 3, 4]) rfl (by kernel_rfl) (by kernel_rfl) rfl ⟨_, fun w' hR => load_run rfl (load_slu (((Ext.refl wr).drew.trans hR).cell c6)), ?_⟩); (simp only [Act.put, List.setIfInBounds_toArray, List.getElem_toArray, List.getElem_cons_succ, List.getElem_cons_zero, List.set_cons_succ, List.set_cons_zero])
                          refine Eg.batchK Ext.pre (by intro c a d v w h; cases d <;> exact h) (by kernel_rfl) (n := 2) [8] [0, 2, 5, 7, 1, 3, 4, 6] _ (by kernel_rfl) (fun K hK => ?_); (simp only [pickOps, List.getElem?_toArray, List.getElem?_cons_zero, List.getElem?_cons_succ, Option.toList_some, List.cons_append, List.nil_append]); (repeat (first | go_big_quiet_step (fail) | quiet_step (fail))); refine wpQuiet_nil (hK _ ?_); clear hK K
                          (refine Eg.read Ext.pre (by intro c a d v w h; cases d <;> exact h) (by kernel_rfl) (i := 9) (n := 1) (l := [0, 2, 5, 7, 1, 3, 4, 6, 8]) rfl (by kernel_rfl) (by kernel_rfl) rfl ⟨_, fun w' hR => load_run rfl (load_u64 (((Ext.refl wr).drew.trans hR).cell x2')), ?_⟩); (simp only [Act.put, List.setIfInBounds_toArray, List.getElem_toArray, List.getElem_cons_succ, List.getElem_cons_zero, List.set_cons_succ, List.set_cons_zero])
                          refine Eg.batchK Ext.pre (by intro c a d v w h; cases d <;> exact h) (by kernel_rfl) (n := 0) [10] [0, 2, 5, 7, 1, 3, 4, 6, 8, 9] _ (by kernel_rfl) (fun K hK => ?_); (simp only [pickOps, List.getElem?_toArray, List.getElem?_cons_zero, List.getElem?_cons_succ, Option.toList_some, List.cons_append, List.nil_append]); (repeat (first | go_big_quiet_step (fail) | quiet_step (fail))); refine wpQuiet_nil (hK _ ?_); clear hK K
                          refine Eg.finish (by kernel_rfl) ?_
                          go_wp2_with fail
                          go_ret
                          exact ⟨by rw [HF.out]; rfl, (HX.out.trans HE.out).drew⟩
                      · obtain rfl : k = n := by omega
                        have dk : decide ((k : Int) < (k : Int)) = false := by simp
                        have HTT := Lib.hid (HEQ.out HP.out)
                        go_wp2_with fail
                        go_ret
                        exact ⟨by rw [HTT.out]; rfl, HX.out.trans HE.out⟩
                  · have e0 : ((u1.length : Int) != (u2.length : Int)) = true := by rw [bne_iff_ne]; omega
                    have HF : Hid ((u1 == u2) = false) := Lib.hid (by
                      rw [beq_eq_false_iff_ne]
                      intro e; exact hne (by rw [e]))
                    rw [HF.out]
                    clear hne HS HT HBa HBb hl
                    go_enter Try.func33, Try.ntmps33
                    go_wp2_with fail
                    go_ret
                    exact ⟨rfl, HX.out⟩

theorem Much6_any (w : World) (r : Rec) (A S : Option Addr) (ca cs : Nat) :
    Calls Try.prog 30 #[.agg (recC r A ca S cs)] w fun e w' => e = .returned (.bool (decide (70000 < r.b.length) || decide (9000 < r.subs.length))) ∧ Ext w w' := by
  have HX := Lib.hid (ext_fresh w (.cells (recC r A ca S cs) 65))
  obtain ⟨k1, x1, p1, o1, l1, u1, n1, d1, t1⟩ := r
  unfold recC at *
  simp only at *
  by_cases h1 : 70000 < l1.length
  · have e1 : decide ((70000 : Int) < (l1.length : Int)) = true := decide_eq_true (by omega)
    rw [decide_eq_true h1, Bool.true_or]
    clear h1
    go_enter Try.func30, Try.ntmps30
    go_wp2_with fail
    go_ret
    exact ⟨rfl, HX.out⟩
  · have e1 : decide ((70000 : Int) < (l1.length : Int)) = false := decide_eq_false (by omega)
    rw [decide_eq_false h1, Bool.false_or]
    clear h1
    have e2 : decide ((9000 : Int) < (u1.length : Int)) = decide (9000 < u1.length) := by
      by_cases h : 9000 < u1.length
      · rw [decide_eq_true h, decide_eq_true (by omega)]
      · rw [decide_eq_false h, decide_eq_false (by omega)]
    generalize decide (9000 < u1.length) = bb at *
    go_enter Try.func30, Try.ntmps30
    go_wp2_with fail
    go_ret
    exact ⟨rfl, HX.out⟩

end Go.Proofs.Ytgbfeagoadlhmaa
