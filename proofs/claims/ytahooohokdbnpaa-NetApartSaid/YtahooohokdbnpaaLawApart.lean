
/-
  NetApartSaid: for any list of acts, any act and any place the law NetApart returns true, and its arguments read as before. No condition.
-/
import Derived.Test.YtahooohokdbnpaaLaw
import Derived.Test.YtahooohokdbnpaaLawAcs
import Derived.Test.YtahooohokdbnpaaApartN
set_option linter.unusedVariables false
namespace Go.Proofs.Ytahooohokdbnpaa
open Go.ChangeShapes Go.WideShapes Go.ChangeAt Go.RowKit

theorem open_act {H : Type} {enc : TypeId × Value → H} {W : World} {base : Nat} {v : Value} {d : DataW H} {p : List MemPlace} (hv : Value.okWide Try.prog W .any base 38 v)
    (h : DataW.Trod enc Try.prog W 0 (fun _ => true) true 38 v d p) :
    ∃ s A c, v = .agg (acC s A c) ∧ By W A s.bytes ∧ s.bytes.length ≤ 9223372036854775807 ∧ I64 s.a ∧ I64 s.b := by
  obtain ⟨cs, rfl, hsz⟩ := okWide_struct Try.underlying38 hv
  obtain ⟨fuel, hf⟩ := h
  obtain ⟨ys, n, _, _, hlen, hyl, hf⟩ := DataW.trod_struct Try.underlying38 hf
  have h4 : Try.prog.cellsOf 38 = 4 := by kernel_rfl
  rw [h4] at hsz
  obtain ⟨l⟩ := cs
  have k0 : Try.prog.cellsOf 3 = 1 := by kernel_rfl
  have k3 : Try.prog.cellsOf 36 = 1 := by kernel_rfl
  match l, hsz, ys, hyl with
  | [u0, u1, u2, u3], _, [y0, y1, y2, y3], _ =>
    have t0 : DataW.trod enc Try.prog W 0 (fun _ => true) true n 3 (([u0, u1, u2, u3].drop 0).take (Try.prog.cellsOf 3)) = some y0 := hf 0 _ rfl
    have t1 : DataW.trod enc Try.prog W 0 (fun _ => true) true n 3 (([u0, u1, u2, u3].drop 1).take (Try.prog.cellsOf 3)) = some y1 := hf 1 _ rfl
    have t2 : DataW.trod enc Try.prog W 0 (fun _ => true) true n 3 (([u0, u1, u2, u3].drop 2).take (Try.prog.cellsOf 3)) = some y2 := hf 2 _ rfl
    have t3 : DataW.trod enc Try.prog W 0 (fun _ => true) true n 36 (([u0, u1, u2, u3].drop 3).take (Try.prog.cellsOf 36)) = some y3 := hf 3 _ rfl
    rw [k0] at t0 t1 t2
    rw [k3] at t3
    simp only [List.drop_zero, List.drop_succ_cons, List.take_succ_cons, List.take_zero] at t0 t1 t2 t3
    obtain ⟨z0, e0, _, w0⟩ := DataW.trod_int Try.underlying3 t0
    obtain ⟨z1, e1, _, w1⟩ := DataW.trod_int Try.underlying3 t1
    obtain ⟨z2, e2, _, w2⟩ := DataW.trod_int Try.underlying3 t2
    obtain ⟨A3, c3, l3, rfl, hb, hc, hc'⟩ := trod_bytes t3
    simp only [List.cons.injEq, and_true] at e0 e1 e2
    subst e0 e1 e2
    have hb1 := bounds_i64 w1
    have hb2 := bounds_i64 w2
    exact ⟨⟨z0, z1, z2, l3⟩, A3, c3, rfl, hb, by simp only; omega, ⟨hb1.1, hb1.2⟩, hb2.1, hb2.2⟩

set_option maxHeartbeats 1000000 in
set_option maxRecDepth 100000 in
theorem apart_lifted (os : Os) (started : os.Started) (H : Type) (enc : TypeId × Value → H) :
    ReturnsInHanded {} Try.checked os 4 .any (Rows.netApartSpec.pre6 enc Try.prog Try.f4 Rows.netApartRow.domain false) (Rows.netApartSpec.post enc Try.prog Try.f4 false true false false) := by
  refine returnsInHanded_of_change (C := Try.checked) Try.own started (by kernel_rfl) Try.func4
    (ChangeSpec.witness6 (enc := enc) (C := Try.checked) false ⟨#[], #[.slice none 0 0, .agg #[.int .i64 0, .int .i64 0, .int .i64 0, .slice none 0 0], .int .i64 0], []⟩ 8 (by kernel_rfl) (by kernel_rfl) (by kernel_rfl) (by kernel_rfl)) ?_
  intro W base args ds gs before hval0 hW hcnd _
  have hval : ∀ (j : Nat) t v, Try.f4.params[j]? = some t → args[j]? = some v → Value.okWide Try.prog W .any base t v := hval0
  have hW' : DataW.Whole enc Try.prog Try.f4.params.toList Rows.netApartSpec.vars false W args.toList ds gs before := hW
  obtain ⟨p, q, hA0, hV, rfl, hfz, hnd⟩ := hW
  have hA : DataW.TrodAll enc Try.prog W 0 (fun _ => true) true Try.f4.params.toList args.toList ds p := hA0
  rw [Try.params4] at hA hval
  obtain ⟨v0, vs0, d0, ds0, p0, q0, hargs0, rfl, rfl, h0, r0⟩ := trodAll_cons hA
  obtain ⟨v1, vs1, d1, ds1, p1, q1, hargs1, rfl, rfl, h1, r1⟩ := trodAll_cons r0
  obtain ⟨v2, vs2, d2, ds2, p2, q2, hargs2, rfl, rfl, h2, r2⟩ := trodAll_cons r1
  obtain ⟨rfl, rfl, rfl⟩ := trodAll_nil r2
  obtain rfl : args = #[v0, v1, v2] := by cases args; simp_all
  clear hA0 hval0
  obtain ⟨A, c, fs, rfl, hF, hc, hc', hok⟩ := open_acs (hval 0 22 v0 rfl rfl) h0
  obtain ⟨s, Aa, ca, rfl, hby, hla, hsa, hsb⟩ := open_act (hval 1 38 v1 rfl rfl) h1
  obtain ⟨z, rfl, rfl, rfl, wz⟩ := open_int Try.underlying3 (hval 2 3 v2 rfl rfl) h2
  refine (apart_any W A fs _ c rfl hF (by omega) hok s Aa ca hby hla hsa hsb z ⟨(bounds_i64 wz).1, (bounds_i64 wz).2⟩).mono fun e W' ⟨he, hE⟩ => ?_
  exact ⟨_, he, law_post Try.laidOut (by kernel_rfl) rfl rfl Try.underlying4 ⟨rfl, rfl, rfl⟩ hW' hE⟩

theorem apart_holds : Rows.NetApartSaid :=
  OpenClaim.holds_of_wide 4 Try.f4 rfl rfl rfl rfl rfl rfl rfl ⟨rfl, rfl, rfl, rfl, rfl⟩ rfl rfl rfl rfl rfl (by kernel_rfl) Try.func4 (by kernel_rfl)
    (of_decide_eq_true (by kernel_rfl)) (by unfold Func.isWrapper; first | (rw [if_pos (by decide +kernel)]; kernel_rfl) | (rw [if_neg (by decide +kernel)]; exact ⟨rfl, rfl⟩))
    (fun os started H enc _ => apart_lifted os started H enc)

end Go.Proofs.Ytahooohokdbnpaa
#print axioms Go.Proofs.Ytahooohokdbnpaa.apart_holds
