
/-
  Acts, done to a net and to the document's: contract of law04.send.
-/
import Derived.Test.YtahooohokdbnpaaFlx
set_option linter.unusedVariables false
set_option linter.unusedSimpArgs false
namespace Go.Proofs.Ytahooohokdbnpaa
open Go.RowKit Go.Shelf Go.Maps Pl

attribute [local go_sem] Oper.semAt_some

/-- an act -/
structure Ac where
  kind : Int
  a : Int
  b : Int
  bytes : List UInt8
def ac0 : Ac := ⟨0, 0, 0, []⟩
def acC (s : Ac) (A : Option Addr) (c : Nat) : Array Value := #[.int .i64 s.kind, .int .i64 s.a, .int .i64 s.b, .slice A s.bytes.length c]
def sendsN (N : Nt) (a b : Int) (l : List UInt8) : Nat → Nt
  | 0 => N
  | k + 1 => sendN (sendsN N a b l k) a b l
/-- a net and the document's, alike -/
def Pr2 (w : World) (S T : Nat → Prop) (g r nb : Nat) (N : Nt) : Prop := NetAt w S g nb N ∧ RefAt w T r N ∧ ∀ k, S k → ¬ T k
/-- of S, or new -/
def Gr (w : World) (S S' : Nat → Prop) : Prop := ∀ k, S' k → S k ∨ w.heap.size ≤ k
theorem Gr.refl (w : World) (S : Nat → Prop) : Gr w S S := fun k h => .inl h
theorem Gr.trans {w w' : World} {S S' S'' : Nat → Prop} (h : Gr w S S') (k : Gr w' S' S'') (hs : w.heap.size ≤ w'.heap.size) : Gr w S S'' := fun i hi => (k i hi).elim (fun h1 => h i h1) (fun h1 => .inr (Nat.le_trans hs h1))
theorem Gr.base {w w' : World} {S S' : Nat → Prop} (h : Gr w' S S') (hs : w.heap.size ≤ w'.heap.size) : Gr w S S' := fun i hi => (h i hi).elim .inl (fun h1 => .inr (Nat.le_trans hs h1))
section
variable {w w' : World} {S T : Nat → Prop} {g r nb : Nat} {N : Nt}
theorem Pr2.ext (h : Pr2 w S T g r nb N) (hE : Ext w w') : Pr2 w' S T g r nb N := ⟨h.1.ext hE, h.2.1.ext hE, h.2.2⟩
theorem Pr2.mono (h : Pr2 w S T g r nb N) {nb' : Nat} (hn : nb ≤ nb') : Pr2 w S T g r nb' N := ⟨h.1.mono hn, h.2.1, h.2.2⟩
theorem Pr2.lts (h : Pr2 w S T g r nb N) : ∀ k, (S k ∨ k = r) → k < w.heap.size := fun k hk => hk.elim (h.1.lt k) (fun e => by rw [e]; exact h.2.1.lt r h.2.1.2.2.1)
end
theorem cell4 {w : World} {g : Nat} {t : TypeId} {a b c d : Value} (h : Blk w g t #[a, b, c, d]) : w.cell? ⟨g, 0, none⟩ = some a ∧ w.cell? ⟨g, 1, none⟩ = some b ∧ w.cell? ⟨g, 2, none⟩ = some c ∧ w.cell? ⟨g, 3, none⟩ = some d :=
  ⟨by rw [h.cell]; rfl, by rw [h.cell]; rfl, by rw [h.cell]; rfl, by rw [h.cell]; rfl⟩
/-- n bytes lie at A -/
def BRow (w : World) (A : Option Addr) (n : Nat) : Prop := n = 0 ∨ ∃ go cur, A = some ⟨go, 0, none⟩ ∧ Blk w go 5 cur ∧ ∀ i, i < n → ∃ x : Int, cur[i]? = some (.int .u8 x)
theorem Own.brow {w : World} {B : Nat} {A : Option Addr} {c : Nat} {l : List UInt8} (h : Own 5 w B (.slice A l.length c) l) : BRow w A l.length := by
  obtain ⟨_, h2⟩ := h
  rcases h2 with ⟨e, hn⟩ | ⟨g, cap, cur, e, hb, hh, hnc, hcm, hcs, ht⟩
  · exact .inl hn
  · cases e
    refine .inr ⟨g, cur, rfl, hh, fun i hi => ⟨at8 l i, ?_⟩⟩
    have h1 : (cur.toList.take (l.length * 1))[i]? = (l.map u8)[i]? := by rw [ht]
    rw [List.getElem?_take_of_lt (by omega)] at h1
    rw [← Array.getElem?_toList, h1]
    simp [u8, at8, List.getElem?_eq_getElem hi, List.getD_eq_getElem?_getD]
theorem BRow.set {w : World} {go q n : Nat} {cur : Array Value} (hb : Blk w go 5 cur) (hx : ∀ i, i < n → ∃ x : Int, cur[i]? = some (.int .u8 x)) (y : Int) : BRow (w.setCell ⟨go, q, none⟩ (.int .u8 y)) (some ⟨go, 0, none⟩) n := by
  refine .inr ⟨go, _, rfl, hb.set q _, fun i hi => ?_⟩
  obtain ⟨x, e⟩ := hx i hi
  have hlt := (Array.getElem?_eq_some_iff.1 e).1
  by_cases h : q = i
  · subst h
    exact ⟨y, by rw [Array.getElem?_setIfInBounds_self_of_lt hlt]⟩
  · exact ⟨x, by rw [Array.getElem?_setIfInBounds_ne h]; exact e⟩
theorem Own.ownBlk {w : World} {B : Nat} {A : Option Addr} {c n : Nat} {l : List UInt8} (h : Own 5 w B (.slice A n c) l) {k : Nat} (hk : (Value.slice A n c).ownBlock = some k) : B ≤ k ∧ k < w.heap.size ∧ ∃ cur, Blk w k 5 cur := by
  obtain ⟨_, h2⟩ := h
  rcases h2 with ⟨e, hn⟩ | ⟨g, cap, cur, e, hb, hh, hnc, hcm, hcs, ht⟩
  · cases e; cases hk
  · cases e; cases hk; exact ⟨hb, Blk.lt (t := 5) hh, cur, hh⟩

set_option maxHeartbeats 4000000 in
set_option maxRecDepth 100000 in
theorem send_law {w : World} {S T : Nat → Prop} {g r nb : Nat} {N : Nt} (h : Pr2 w S T g r nb N) (s : Ac) (A : Option Addr) (c : Nat) (hby : ∀ W, Chg (fun k => S k ∨ k = r) w W → By W A s.bytes) (hl : s.bytes.length ≤ 20000) (ha : I64 s.a) (hb : I64 s.b) (t : Nat) (ht : t ≤ 70) (hnb : nb + t < 1000000) :
    Calls Try.prog 14 #[.pointer (some ⟨g, 0, none⟩), .pointer (some ⟨r, 0, none⟩), .agg (acC s A c), .int .i64 (t : Int)] w fun e w' => e = .returned (.bool true) ∧
      ∃ S' T', Pr2 w' S' T' g r (nb + t) (sendsN N s.a s.b s.bytes t) ∧ Gr w S S' ∧ Gr w T T' ∧ Chg (fun k => S k ∨ k = r) w w' := by
  have H := Lib.hid h
  have HLT := Lib.hid h.lts
  have hrlt := h.2.1.lt r h.2.1.2.2.1
  have HBY := Lib.hid hby
  have HIA := Lib.hid ha
  have HIB := Lib.hid hb
  have HS0 : Hid (sendsN N s.a s.b s.bytes 0 = N) := Lib.hid rfl
  have HSS : Hid (∀ k, sendsN N s.a s.b s.bytes (k + 1) = sendN (sendsN N s.a s.b s.bytes k) s.a s.b s.bytes) := Lib.hid (fun k => rfl)
  unfold acC
  obtain ⟨kd, za, zb, l⟩ := s
  simp only at *
  generalize hNs : sendsN N za zb l = Ns at *
  clear hNs h hby ha hb
  generalize hll : l.length = ll at *
  have HLL := Lib.hid hll
  clear hll
  have HX1 := Lib.hid (ext_new w (.cells #[.int .i64 kd, .int .i64 za, .int .i64 zb, .slice A ll c] 38))
  have HB1 := Lib.hid (Blk.new w 38 #[.int .i64 kd, .int .i64 za, .int .i64 zb, .slice A ll c])
  go_enter Try.func14, Try.ntmps14
  go_wp2_with fail
  have hw1 : (w.alloc (.cells #[.int .i64 kd, .int .i64 za, .int .i64 zb, .slice A ll c] 38)).heap.size = w.heap.size + 1 := World.size_alloc _ _
  generalize w.alloc (.cells #[.int .i64 kd, .int .i64 za, .int .i64 zb, .slice A ll c] 38) = w1 at *
  go_loopw [9] (fun i wr => ∃ k : Nat, k ≤ t ∧ i = .int .i64 (k : Int) ∧ ∃ S' T', Pr2 wr S' T' g r (nb + k) (Ns k) ∧ Gr w1 S S' ∧ Gr w1 T T' ∧ Chg (fun k => S k ∨ k = r) w1 wr) (fun i _ => t - (intOf i).toNat)
  case atStart => exact ⟨0, Nat.zero_le _, rfl, S, T, by rw [HS0.out]; exact H.out.ext HX1.out, Gr.refl _ _, Gr.refl _ _, Chg.refl _ _⟩
  case round =>
    obtain ⟨k, hk, rfl, S1, T1, hP, hG1, hG2, hC⟩ := hrel
    obtain ⟨wo, rfl⟩ : ∃ wo, wo = wr := ⟨_, rfl⟩
    have HP := Lib.hid hP
    have HG1 := Lib.hid hG1
    have HG2 := Lib.hid hG2
    have HC := Lib.hid hC
    clear hP hG1 hG2 hC HS0
    by_cases hkt : k < t
    · have hd : decide ((k : Int) < (t : Int)) = true := decide_eq_true (by omega)
      have HBr := Lib.hid (HC.out.blk HB1.out (fun h => by have := HLT.out _ h; omega))
      obtain ⟨c0, c1, c2, c3⟩ := cell4 HBr.out
      have hC0 : Chg (fun k => S k ∨ k = r) w wo := (Chg.of_ext HX1.out).trans HC.out (fun k h => .inl h)
      have hby := HBY.out wo hC0
      have hwr := HC.out.size
      have HSSk := Lib.hid (HSS.out k)
      generalize Ns k = N1 at *
      clear hC0
      go_wp2_with (at_builtin; refine wpList_append8 Try.byt rfl _ _ rfl rfl (Own.nil _ _ wo.heap.size) A _ c rfl l hby HLL.out.symm (by simp; rw [HLL.out]; omega) (Nat.le_refl _) ?_; intro v2 w2 hO2 hG2 hR2; rw [List.nil_append] at hO2; obtain ⟨A2, c2', hv2, hby2, hlc2, hcm2⟩ := hO2.form; rw [HLL.out] at hv2; subst hv2; have HO2 := Lib.hid hO2; have HE2 := Lib.hid (Ext.own hG2 (Ext.refl _)); have HBY2 := Lib.hid hby2; obtain ⟨d0, d1, d2, d3⟩ := cell4 (HBr.out.ext HE2.out); clear hO2 hG2 hR2 hby2 hby c0 c1 c2 c3)
      -- Send
      have hX : NetX (fun q => (Value.slice A2 ll c2').ownBlock = some q) w2 S1 g (nb + k) N1 := (HP.out.1.fresh.ext HE2.out).wk (fun q hq => (HO2.out.ownBlk hq).1)
      have KSN := Send_netX (c := c2') (l := l) hX (fun q hq => (HO2.out.ownBlk hq).2.1) HIA.out HIB.out (by omega) HBY2.out (by rw [HLL.out]; omega)
      rw [HLL.out] at KSN
      refine KSN.mono ?_
      clear KSN
      rintro e w3 ⟨rfl, S2, hN2, hS2, hC2⟩
      have HN2 := Lib.hid hN2
      have HS2 := Lib.hid hS2
      have HC2 := Lib.hid hC2
      have hnb2 := (HP.out.1.ext HE2.out).bytes
      have HOB : Hid (∀ q, (Value.slice A2 ll c2').ownBlock = some q → ∃ cur, Blk w3 q 5 cur) := Lib.hid (fun q hq => (HO2.out.ownBlk hq).2.2.elim (fun cur hb => ⟨cur, hC2.blk hb (fun h => hnb2 _ _ h hb)⟩))
      have HOW : Hid (∀ q, (Value.slice A2 ll c2').ownBlock = some q → wo.heap.size ≤ q) := Lib.hid (fun q hq => (HO2.out.ownBlk hq).1)
      have HBR3 : Hid (BRow w3 A2 ll) := Lib.hid (by
        have hO := HO2.out
        rw [← HLL.out] at hO ⊢
        rcases hO.brow with h | ⟨go, cur, e, hb, hx⟩
        · exact .inl h
        · exact .inr ⟨go, cur, e, hC2.blk hb (fun h => hnb2 _ _ h hb), hx⟩)
      clear hX hN2 hS2 hC2 hnb2 d0 d1 d2 d3
      have HWR := Lib.hid (show wo.heap.size ≤ w3.heap.size from Nat.le_trans HE2.out.size HC2.out.size)
      have HSE : Hid (∃ se, sendE N1 za zb ll = se) := Lib.hid ⟨_, rfl⟩
      obtain ⟨se, hse⟩ := HSE.out
      rw [hse]
      have HSE2 := Lib.hid hse
      clear hse HSE
      go_wp2_with fail
      go_loopw [12] (fun j wx => ∃ q : Nat, q ≤ ll ∧ j = .int .i64 (q : Int) ∧ BRow wx A2 ll ∧ Chg (fun q => (Value.slice A2 ll c2').ownBlock = some q) w3 wx) (fun j _ => ll - (intOf j).toNat)
      case atStart => exact ⟨0, Nat.zero_le _, rfl, HBR3.out, Chg.refl _ _⟩
      case round =>
        obtain ⟨q, hq, rfl, hBR, hCX⟩ := hrel
        have HCX := Lib.hid hCX
        by_cases hql : q < ll
        · have hd : decide ((q : Int) < (ll : Int)) = true := decide_eq_true (by omega)
          rcases hBR with h0 | ⟨go, cur, rfl, hb, hx⟩
          · omega
          obtain ⟨x, hx'⟩ := hx q hql
          have hcell : wr.cell? ⟨go, q, none⟩ = some (.int .u8 x) := by rw [hb.cell]; exact hx'
          have hfr := hb.frozen q
          have HBS := Lib.hid (fun y => BRow.set (q := q) hb hx y)
          clear hb hx hx' hCX
          go_wp2_with fail
          exact ⟨⟨q + 1, by omega, by go_num, HBS.out _, HCX.out.trans (T := fun k => k = go) (Chg.of_grown (grown_set _ _ _) (fun k e => by cases e; rfl)) (fun k e => .inl (by rw [e]; rfl))⟩, by simp [intOf]; omega⟩
        · have hqe : q = ll := by omega
          have hd : decide ((q : Int) < (ll : Int)) = false := decide_eq_false (by omega)
          have hCA := ((Chg.of_ext HE2.out).trans HC2.out (S := fun k => S1 k ∨ wo.heap.size ≤ k) (fun k h => .inl (.inl h))).trans hCX (fun k h => .inl (.inr (HOW.out k h)))
          have hN4 := (HN2.out.chg hCX (fun k hk hq => (HOB.out k hq).elim (fun cur hb => HN2.out.at_.bytes k cur hk hb)) (fun k cur hk hb => hk)).at_
          have hR4 := HP.out.2.1.chg hCA (fun k hk ht => hk.elim (fun h => HP.out.2.2 k h ht) (fun h => by have := HP.out.2.1.lt k ht; omega)) (fun k cur hk hb => hk.elim (fun h => HP.out.1.bytes k cur h hb) (fun h => by have := hb.lt; omega))
          have HBx := Lib.hid (hCA.blk HBr.out (fun h => h.elim (fun h => (HG1.out _ h).elim (fun h => by have := HLT.out _ (.inl h); omega) (fun h => by omega)) (fun h => by omega)))
          have hC0 : Chg (fun k => S k ∨ k = r) w wr := ((Chg.of_ext HX1.out).trans HC.out (fun k h => .inl h)).trans hCA (fun k h => h.elim (fun h => (HG1.out k h).elim (fun h => .inl (.inl h)) (fun h => .inr (by omega))) (fun h => .inr (by omega)))
          have hby := HBY.out wr hC0
          have KSR := Lib.hid (Send_ref (c := c) (hR4.ext (Ext.refl wr).drew) za zb (by have := HP.out.1.2.1; omega) (l := l) (show By wr.drew A l from hby) (by rw [HLL.out]; omega))
          rw [HLL.out, HSE2.out] at KSR
          have HCA := Lib.hid hCA
          have HN4 := Lib.hid hN4
          have HR4 := Lib.hid hR4
          have HC0 := Lib.hid hC0
          have HNR : Hid (¬ w.heap.size = r) := Lib.hid (by omega)
          obtain ⟨c0, c1, c2, c3⟩ := cell4 HBx.out
          have hsb : ((se : Int) != (se : Int)) = false := by simp
          have hws := hCA.size
          clear hCA hN4 hR4 hC0 hby hBR hCX hqe
          go_upto_region 10 with fail
          refine wp_eager (chg_pre (fun q => q = r)) (n := 11) (by kernel_rfl) (by kernel_rfl) ?_
          refine Eg.batchK (chg_pre (fun q => q = r)) (by intro c a d v w h; cases d <;> exact h) (by kernel_rfl) (n := 6) [0, 2, 3, 5, 7] [] _ (by kernel_rfl) (fun K hK => ?_); (simp only [pickOps, List.getElem?_toArray, List.getElem?_cons_zero, List.getElem?_cons_succ, Option.toList_some, List.cons_append, List.nil_append]); (repeat (first | go_big_quiet_step (fail) | quiet_step (fail))); refine wpQuiet_nil (hK _ ?_); clear hK K
          (refine Eg.read (chg_pre (fun q => q = r)) (by intro c a d v w h; cases d <;> exact h) (by kernel_rfl) (i := 4) (n := 5) (l := [0, 2, 3, 5, 7]) rfl (by kernel_rfl) (by kernel_rfl) rfl ⟨_, fun w' hR => load_run rfl (load_int (hR.cell (w := wr.drew) c1 HNR.out)), ?_⟩); (simp only [Act.put, List.setIfInBounds_toArray, List.getElem_toArray, List.getElem_cons_succ, List.getElem_cons_zero, List.set_cons_succ, List.set_cons_zero])
          (refine Eg.read (chg_pre (fun q => q = r)) (by intro c a d v w h; cases d <;> exact h) (by kernel_rfl) (i := 6) (n := 4) (l := [0, 2, 3, 5, 7, 4]) rfl (by kernel_rfl) (by kernel_rfl) rfl ⟨_, fun w' hR => load_run rfl (load_int (hR.cell (w := wr.drew) c2 HNR.out)), ?_⟩); (simp only [Act.put, List.setIfInBounds_toArray, List.getElem_toArray, List.getElem_cons_succ, List.getElem_cons_zero, List.set_cons_succ, List.set_cons_zero])
          (refine Eg.read (chg_pre (fun q => q = r)) (by intro c a d v w h; cases d <;> exact h) (by kernel_rfl) (i := 8) (n := 3) (l := [0, 2, 3, 5, 7, 4, 6]) rfl (by kernel_rfl) (by kernel_rfl) rfl ⟨_, fun w' hR => load_run rfl (load_bs (hR.cell (w := wr.drew) c3 HNR.out)), ?_⟩); (simp only [Act.put, List.setIfInBounds_toArray, List.getElem_toArray, List.getElem_cons_succ, List.getElem_cons_zero, List.set_cons_succ, List.set_cons_zero])
          refine Eg.act (chg_pre (fun q => q = r)) (i := 1) (n := 2) (l := [0, 2, 3, 5, 7, 4, 6, 8]) rfl (by kernel_rfl) ?_
          go_wp2_with fail
          refine (num4_any _ _).mono ?_
          rintro e w' ⟨rfl, rfl⟩
          go_wp2_with fail
          refine ⟨Chg.refl _ _, ?_⟩
          refine Eg.act (chg_pre (fun q => q = r)) (i := 9) (n := 1) (l := [0, 2, 3, 5, 7, 4, 6, 8, 1]) rfl (by kernel_rfl) ?_
          go_wp2_with fail
          refine KSR.out.mono ?_
          rintro e w9 ⟨rfl, T2, hR9, hG9, hC9⟩
          go_wp2_with fail
          refine ⟨hC9, ?_⟩
          refine Eg.batchK (chg_pre (fun q => q = r)) (by intro c a d v w h; cases d <;> exact h) (by kernel_rfl) (n := 0) [10] [0, 2, 3, 5, 7, 4, 6, 8, 1, 9] _ (by kernel_rfl) (fun K hK => ?_); (simp only [pickOps, List.getElem?_toArray, List.getElem?_cons_zero, List.getElem?_cons_succ, Option.toList_some, List.cons_append, List.nil_append]); (repeat (first | go_big_quiet_step (fail) | quiet_step (fail))); refine wpQuiet_nil (hK _ ?_); clear hK K
          refine Eg.finish (by kernel_rfl) ?_
          have HR9 := Lib.hid hR9
          have HG9 := Lib.hid hG9
          have HC9 := Lib.hid hC9
          clear hR9 hG9 hC9 c0 c1 c2 c3
          go_wp2_with fail
          have hws9 := HC9.out.size
          have hdr : wr.drew.heap.size = wr.heap.size := rfl
          have hrT := HR4.out.2.2.1
          have hrS : ¬ S2 r := fun h => (HS2.out r h).elim (fun h => HP.out.2.2 r h hrT) (fun h => by have := HE2.out.size; have := HP.out.2.1.lt r hrT; omega)
          have hsz2 := HE2.out.size
          refine ⟨⟨k + 1, by omega, by go_num, S2, T2, ⟨?_, ?_, ?_⟩, ?_, ?_, ?_⟩, by simp [intOf]; omega⟩
          · rw [HSSk.out]
            exact (HN4.out.ext (Ext.refl wr).drew).chg HC9.out (fun k hk e => hrS (by rw [← e]; exact hk)) (fun k cur e hb => by rw [e] at hb; exact HR4.out.bytes r cur hrT hb)
          · rw [HSSk.out]; exact HR9.out
          · intro i hi ht
            rcases HG9.out i ht with h | h
            · rcases HS2.out i hi with h2 | h2
              · exact HP.out.2.2 i h2 h
              · have := HP.out.2.1.lt i h; omega
            · have := HN4.out.lt i hi; omega
          · exact HG1.out.trans HS2.out (by omega)
          · exact HG2.out.trans HG9.out (by omega)
          · exact ((HC.out.trans HCA.out (fun k h => h.elim (fun h => (HG1.out k h).elim (fun h => .inl (.inl h)) .inr) (fun h => .inr (by omega)))).trans (Chg.of_ext (S := fun k => k = r) (Ext.refl wr).drew) (fun k h => .inl (.inr h))).trans HC9.out (fun k h => .inl (.inr h))
    · obtain rfl : k = t := by omega
      have hd : decide ((k : Int) < (k : Int)) = false := decide_eq_false (by omega)
      go_wp2_with fail
      go_ret
      exact ⟨rfl, S1, T1, HP.out, HG1.out.base HX1.out.size, HG2.out.base HX1.out.size, (Chg.of_ext HX1.out).trans HC.out (fun k h => .inl h)⟩

end Go.Proofs.Ytahooohokdbnpaa
