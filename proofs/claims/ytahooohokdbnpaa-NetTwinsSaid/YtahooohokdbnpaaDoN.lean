
/-
  Contract of law04.do.
-/
import Derived.Test.YtahooohokdbnpaaActs
set_option linter.unusedVariables false
set_option linter.unusedSimpArgs false
namespace Go.Proofs.Ytahooohokdbnpaa
open Go.RowKit Go.Shelf Go.Maps Pl

attribute [local go_sem] Oper.semAt_some

def doN (N : Nt) (s : Ac) : Nt :=
  if s.kind = 1 then sendsN N s.a s.b s.bytes 1 else if s.kind = 2 ∨ s.kind = 3 then takeN N s.a else if s.kind = 4 then doubleN N s.a else if s.kind = 5 then clearN N s.a else if s.kind = 6 then sendsN N s.a s.b s.bytes 70 else N

section
variable {w w' : World} {S S' T T' : Nat → Prop} {g r nb nb' : Nat} {N N' M M' : Nt}
theorem net_then (h : NetAt w S g nb N) (hR : RefAt w T r M) (hd : ∀ k, S k → ¬ T k) (hN' : NetAt w' S' g nb' N') (hG : Gr w S S') (hC : Chg S w w') : RefAt w' T r M ∧ (∀ k, S' k → ¬ T k) ∧ Chg (fun k => S k ∨ k = r) w w' :=
  ⟨hR.chg hC hd h.bytes, fun k hk ht => (hG k hk).elim (fun h1 => hd k h1 ht) (fun h1 => by have := hR.lt k ht; omega), hC.mono (fun k hk => .inl hk)⟩
theorem ref_then (h : NetAt w S g nb N) (hR : RefAt w T r M) (hd : ∀ k, S k → ¬ T k) (hR' : RefAt w' T' r M') (hG : Gr w T T') (hC : Chg (fun k => k = r) w w') : NetAt w' S g nb N ∧ (∀ k, S k → ¬ T' k) ∧ Chg (fun k => S k ∨ k = r) w w' :=
  ⟨h.chg hC (fun k hk e => hd k hk (by rw [e]; exact hR.2.2.1)) (fun k cur e hb => by rw [e] at hb; exact hR.bytes r cur hR.2.2.1 hb), fun k hk ht => (hG k ht).elim (fun h1 => hd k hk h1) (fun h1 => by have := h.lt k hk; omega), hC.mono (fun k hk => .inr hk)⟩
end

/-- what is shown of an act -/
def DoPost (w : World) (S T : Nat → Prop) (g r nb : Nat) (M : Nt) (e : Ending) (w' : World) : Prop :=
  e = .returned (.bool true) ∧ ∃ S' T', Pr2 w' S' T' g r nb M ∧ Gr w S S' ∧ Gr w T T' ∧ Chg (fun k => S k ∨ k = r) w w'

set_option maxHeartbeats 4000000 in
set_option maxRecDepth 100000 in
theorem do_send {w : World} {S T : Nat → Prop} {g r nb : Nat} {N : Nt} (h : Pr2 w S T g r nb N) (kd za zb : Int) (l : List UInt8) (t : Nat) (hk : (kd = 1 ∧ t = 1) ∨ (kd = 6 ∧ t = 70)) (A : Option Addr) (c : Nat) (hby : ∀ W, Chg (fun k => S k ∨ k = r) w W → By W A l) (hl : l.length ≤ 20000) (ha : I64 za) (hb : I64 zb) (hnb : nb + 70 < 1000000) :
    Calls Try.prog 30 #[.pointer (some ⟨g, 0, none⟩), .pointer (some ⟨r, 0, none⟩), .agg #[.int .i64 kd, .int .i64 za, .int .i64 zb, .slice A l.length c]] w (DoPost w S T g r (nb + 70) (sendsN N za zb l t)) := by
  have HX1 := ext_new w (.cells #[.int .i64 kd, .int .i64 za, .int .i64 zb, .slice A l.length c] 38)
  have HB1 := Blk.new w 38 #[.int .i64 kd, .int .i64 za, .int .i64 zb, .slice A l.length c]
  have KS := send_law (h.ext HX1) ⟨kd, za, zb, l⟩ A c (fun W hW => hby W ((Chg.of_ext HX1).trans hW (fun k h => .inl h))) hl ha hb t (by omega) (by omega)
  have KS2 := Lib.hid KS
  unfold acC at KS2
  simp only at KS2
  have hln : nb + t ≤ nb + 70 := by omega
  have HXs := Lib.hid HX1
  obtain ⟨c0, c1, c2, c3⟩ := cell4 HB1
  clear KS h hby ha hb HX1 HB1
  generalize l.length = ll at *
  rcases hk with ⟨rfl, rfl⟩ | ⟨rfl, rfl⟩
  · rw [show (((1 : Nat) : Nat) : Int) = 1 from rfl] at KS2
    go_enter Try.func30, Try.ntmps30
    go_wp2_with fail
    refine KS2.out.mono ?_
    rintro e w2 ⟨rfl, S', T', hP, hG1, hG2, hC⟩
    have HR : Hid (∃ S' T', Pr2 w2 S' T' g r (nb + 70) (sendsN N za zb l 1) ∧ Gr w S S' ∧ Gr w T T' ∧ Chg (fun k => S k ∨ k = r) w w2) := Lib.hid ⟨S', T', hP.mono hln, hG1.base HXs.out.size, hG2.base HXs.out.size, (Chg.of_ext HXs.out).trans hC (fun k h => .inl h)⟩
    clear hP hG1 hG2 hC c0 c1 c2 c3
    go_wp2_with fail
    go_ret
    exact ⟨rfl, HR.out⟩
  · rw [show (((70 : Nat) : Nat) : Int) = 70 from rfl] at KS2
    go_enter Try.func30, Try.ntmps30
    go_wp2_with fail
    refine KS2.out.mono ?_
    rintro e w2 ⟨rfl, S', T', hP, hG1, hG2, hC⟩
    have HR : Hid (∃ S' T', Pr2 w2 S' T' g r (nb + 70) (sendsN N za zb l 70) ∧ Gr w S S' ∧ Gr w T T' ∧ Chg (fun k => S k ∨ k = r) w w2) := Lib.hid ⟨S', T', hP.mono hln, hG1.base HXs.out.size, hG2.base HXs.out.size, (Chg.of_ext HXs.out).trans hC (fun k h => .inl h)⟩
    clear hP hG1 hG2 hC c0 c1 c2 c3
    go_wp2_with fail
    go_ret
    exact ⟨rfl, HR.out⟩

set_option maxHeartbeats 4000000 in
set_option maxRecDepth 100000 in
theorem do_none {w : World} {S T : Nat → Prop} {g r nb : Nat} {N : Nt} (h : Pr2 w S T g r nb N) (kd za zb : Int) (l : List UInt8) (h1 : kd ≠ 1) (h2 : kd ≠ 2) (h3 : kd ≠ 3) (h4 : kd ≠ 4) (h5 : kd ≠ 5) (h6 : kd ≠ 6) (A : Option Addr) (c : Nat) :
    Calls Try.prog 30 #[.pointer (some ⟨g, 0, none⟩), .pointer (some ⟨r, 0, none⟩), .agg #[.int .i64 kd, .int .i64 za, .int .i64 zb, .slice A l.length c]] w (DoPost w S T g r (nb + 70) N) := by
  have HX1 := Lib.hid (ext_new w (.cells #[.int .i64 kd, .int .i64 za, .int .i64 zb, .slice A l.length c] 38))
  have HB1 := Blk.new w 38 #[.int .i64 kd, .int .i64 za, .int .i64 zb, .slice A l.length c]
  have H := Lib.hid h
  obtain ⟨c0, c1, c2, c3⟩ := cell4 HB1
  have e1 : (kd == 1) = false := by rw [beq_eq_false_iff_ne]; exact h1
  have e2 : (kd == 2) = false := by rw [beq_eq_false_iff_ne]; exact h2
  have e3 : (kd == 3) = false := by rw [beq_eq_false_iff_ne]; exact h3
  have e4 : (kd == 4) = false := by rw [beq_eq_false_iff_ne]; exact h4
  have e5 : (kd == 5) = false := by rw [beq_eq_false_iff_ne]; exact h5
  have e6 : (kd == 6) = false := by rw [beq_eq_false_iff_ne]; exact h6
  clear h h1 h2 h3 h4 h5 h6 HB1
  generalize l.length = ll at *
  go_enter Try.func30, Try.ntmps30
  go_wp2_with fail
  go_ret
  exact ⟨rfl, S, T, (H.out.ext HX1.out).mono (by omega), Gr.refl _ _, Gr.refl _ _, Chg.of_ext HX1.out⟩

set_option maxHeartbeats 4000000 in
set_option maxRecDepth 100000 in
theorem do_take {w : World} {S T : Nat → Prop} {g r nb : Nat} {N : Nt} (h : Pr2 w S T g r nb N) (za zb : Int) (l : List UInt8) (A : Option Addr) (c : Nat) (ha : I64 za) (hnb : nb + 70 < 1000000) :
    Calls Try.prog 30 #[.pointer (some ⟨g, 0, none⟩), .pointer (some ⟨r, 0, none⟩), .agg #[.int .i64 2, .int .i64 za, .int .i64 zb, .slice A l.length c]] w (DoPost w S T g r (nb + 70) (takeN N za)) := by
  have HX1 := Lib.hid (ext_new w (.cells #[.int .i64 2, .int .i64 za, .int .i64 zb, .slice A l.length c] 38))
  have HB1 := Lib.hid (Blk.new w 38 #[.int .i64 2, .int .i64 za, .int .i64 zb, .slice A l.length c])
  have HLT := Lib.hid h.lts
  have H := Lib.hid (h.ext HX1.out)
  have HIA := Lib.hid ha
  have KT := Lib.hid (Take_ref H.out.2.1 za ha)
  obtain ⟨c0, c1, c2, c3⟩ := cell4 HB1.out
  clear h ha
  generalize hll : l.length = ll at *
  clear hll
  generalize hF : atF N za = F at *
  generalize hE : atE N za = E at *
  have HF := Lib.hid hF
  have HE := Lib.hid hE
  clear hF hE
  go_enter Try.func30, Try.ntmps30
  go_wp2_with fail
  refine KT.out.mono ?_
  rintro e w2 ⟨vb, rfl, hbs, T2, hR2, hG2, hC2⟩
  obtain ⟨Ab, cb, rfl, _⟩ := id hbs
  obtain ⟨n1, n2, n3⟩ := ref_then H.out.1 H.out.2.1 H.out.2.2 hR2 hG2 hC2
  have HX2 := Lib.hid (ext_new w2 (.cells #[.int .i64 (F.from_ : Int), .int .i64 (F.to_ : Int), .slice Ab F.b.length cb] 45))
  have HB2 := Lib.hid (Blk.new w2 45 #[.int .i64 (F.from_ : Int), .int .i64 (F.to_ : Int), .slice Ab F.b.length cb])
  have HBS := Lib.hid (hbs.ext HX2.out)
  have HN := Lib.hid (n1.ext HX2.out)
  have HR := Lib.hid (hR2.ext HX2.out)
  have HD := Lib.hid n2
  have HG := Lib.hid (show Gr w T T2 from Gr.base hG2 HX1.out.size)
  have HC := Lib.hid (((Chg.of_ext HX1.out).trans n3 (fun k h => .inl h)).trans (Chg.of_ext (S := fun k => S k ∨ k = r) HX2.out) (fun k h => .inl h))
  have HBA := Lib.hid ((hC2.blk HB1.out (fun e => by have := HLT.out r (.inr rfl); omega)).ext HX2.out)
  obtain ⟨d0, d1, d2, d3⟩ := cell4 HBA.out
  have KN := Lib.hid (Take_net HN.out za HIA.out (by omega))
  rw [HF.out, HE.out] at KN
  clear hbs n1 n2 n3 hR2 hG2 hC2 c0 c1 c2 c3 KT
  go_wp2_with fail
  have hbx := HB2.out.lt
  generalize w2.alloc (.cells #[.int .i64 (F.from_ : Int), .int .i64 (F.to_ : Int), .slice Ab F.b.length cb] 45) = w3 at *
  generalize w2.heap.size = bx at *
  refine KN.out.mono ?_
  rintro e w4 ⟨vc, rfl, hbs, S4, hN4, hG4, hC4⟩
  obtain ⟨Ac, cc, rfl, _⟩ := id hbs
  obtain ⟨n1, n2, n3⟩ := net_then HN.out HR.out HD.out hN4 hG4 hC4
  have HX4 := Lib.hid (ext_new w4 (.cells #[.int .i64 (F.from_ : Int), .int .i64 (F.to_ : Int), .slice Ac F.b.length cc] 45))
  have HB4 := Lib.hid (Blk.new w4 45 #[.int .i64 (F.from_ : Int), .int .i64 (F.to_ : Int), .slice Ac F.b.length cc])
  have HBS4 := Lib.hid (hbs.ext HX4.out)
  have HBSx := Lib.hid ((HBS.out.chg hC4 HN.out.bytes).ext HX4.out)
  have HBx := Lib.hid ((hC4.blk HB2.out (fun h => HN.out.typ (by decide) (by decide) _ _ h HB2.out)).ext HX4.out)
  have KS := Lib.hid (Same_any _ (F.from_ : Int) (F.to_ : Int) (F.from_ : Int) (F.to_ : Int) _ _ F.b F.b HBS4.out HBSx.out)
  rw [sameZ_self] at KS
  have HP : Hid (∀ W, Ext (w4.alloc (.cells #[.int .i64 (F.from_ : Int), .int .i64 (F.to_ : Int), .slice Ac F.b.length cc] 45)) W → ∃ S' T', Pr2 W S' T' g r (nb + 70) (takeN N za) ∧ Gr w S S' ∧ Gr w T T' ∧ Chg (fun k => S k ∨ k = r) w W) := Lib.hid (fun W hW => ⟨S4, T2, ⟨((hN4.ext HX4.out).ext hW).mono (by omega), (n1.ext HX4.out).ext hW, n2⟩, Gr.base hG4 HC.out.size, HG.out, (HC.out.trans n3 (fun k h => .inl h)).trans (Chg.of_ext (S := fun k => S k ∨ k = r) (HX4.out.trans hW)) (fun k h => .inl h)⟩)
  obtain ⟨x0, x1, x2⟩ := cell3 HB4.out
  obtain ⟨y0, y1, y2⟩ := cell3 HBx.out
  have hee : ((E : Int) == (E : Int)) = true := by simp
  clear hbs hN4 hG4 hC4 n1 n2 n3 d0 d1 d2 d3
  go_wp2_with fail
  refine KS.out.mono ?_
  rintro e w5 ⟨rfl, hE5⟩
  have HE5 := Lib.hid hE5
  clear hE5 x0 x1 x2 y0 y1 y2
  go_wp2_with fail
  refine (num4_any _ _).mono ?_
  rintro e w' ⟨rfl, rfl⟩
  go_wp2_with fail
  go_ret
  exact ⟨rfl, HP.out _ HE5.out⟩

end Go.Proofs.Ytahooohokdbnpaa
