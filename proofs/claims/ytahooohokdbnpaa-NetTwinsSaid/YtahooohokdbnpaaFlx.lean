
/-
  A slice that reads as flights; contract of ref04.SameAll.
-/
import Derived.Test.YtahooohokdbnpaaNetX
set_option linter.unusedVariables false
set_option linter.unusedSimpArgs false
namespace Go.Proofs.Ytahooohokdbnpaa
open Go.RowKit Go.Shelf Go.Maps Pl

attribute [local go_sem] Oper.semAt_some

/-- the slice at A reads as flights -/
def FlX (w : World) (A : Option Addr) (fs : List Fl) : Prop :=
  fs = [] ∨ ∃ gr o, A = some ⟨gr, o, none⟩ ∧ ∀ i, i < fs.length → ∃ Ab cb, w.cell? ⟨gr, o + i * 3, none⟩ = some (.int .i64 ((fs.getD i fl0).from_ : Int)) ∧ w.cell? ⟨gr, o + i * 3 + 1, none⟩ = some (.int .i64 ((fs.getD i fl0).to_ : Int)) ∧
    w.cell? ⟨gr, o + i * 3 + 2, none⟩ = some (.slice Ab (fs.getD i fl0).b.length cb) ∧ Bs 5 w (.slice Ab (fs.getD i fl0).b.length cb) (fs.getD i fl0).b
theorem FlX.ext {w w' : World} {A : Option Addr} {fs : List Fl} (h : FlX w A fs) (hE : Ext w w') : FlX w' A fs := by
  rcases h with h | ⟨gr, o, e, hi⟩
  · exact .inl h
  · refine .inr ⟨gr, o, e, fun i hl => ?_⟩
    obtain ⟨Ab, cb, h0, h1, h2, h3⟩ := hi i hl
    exact ⟨Ab, cb, hE.cell h0, hE.cell h1, hE.cell h2, h3.ext hE⟩
theorem FlX.at_ {w : World} {A : Option Addr} {fs : List Fl} (h : FlX w A fs) {i : Nat} (hl : i < fs.length) : ∃ gr o Ab cb, A = some ⟨gr, o, none⟩ ∧ w.cell? ⟨gr, o + i * 3, none⟩ = some (.int .i64 ((fs.getD i fl0).from_ : Int)) ∧ w.cell? ⟨gr, o + i * 3 + 1, none⟩ = some (.int .i64 ((fs.getD i fl0).to_ : Int)) ∧
    w.cell? ⟨gr, o + i * 3 + 2, none⟩ = some (.slice Ab (fs.getD i fl0).b.length cb) ∧ Bs 5 w (.slice Ab (fs.getD i fl0).b.length cb) (fs.getD i fl0).b := by
  rcases h with rfl | ⟨gr, o, rfl, hi⟩
  · simp at hl
  · obtain ⟨Ab, cb, r⟩ := hi i hl
    exact ⟨gr, o, Ab, cb, rfl, r⟩
theorem FlX.nil (w : World) (A : Option Addr) : FlX w A [] := .inl rfl
theorem FlRow.x {w0 W : World} {B : Nat} {v : Value} {fs : List Fl} (h : FlRow w0 W B v fs) (hE : Ext w0 W) : ∃ A c, v = .slice A fs.length c ∧ FlX W A fs := by
  obtain ⟨A, c, rfl⟩ := h.form
  refine ⟨A, c, rfl, ?_⟩
  by_cases h0 : fs.length = 0
  · exact .inl (List.eq_nil_of_length_eq_zero h0)
  · obtain ⟨gr, _, _, _, e, _⟩ := h.at_ hE (s := 0) (by omega)
    cases e
    refine .inr ⟨gr, 0, rfl, fun i hi => ?_⟩
    obtain ⟨gr', c', Ab, cb, e, c0, c1, c2, hb⟩ := h.at_ hE hi
    cases e
    rw [Nat.zero_add]
    exact ⟨Ab, cb, c0, c1, c2, hb⟩
theorem sameZ_self (f : Fl) : sameZ (f.from_ : Int) (f.to_ : Int) f.b (f.from_ : Int) (f.to_ : Int) f.b = true := by simp [sameZ]
theorem sameZ_eq (f g : Fl) : sameZ (f.from_ : Int) (f.to_ : Int) f.b (g.from_ : Int) (g.to_ : Int) g.b = true ↔ f = g := by
  obtain ⟨a, b, l⟩ := f
  obtain ⟨c, d, m⟩ := g
  simp only [sameZ, Bool.and_eq_true, decide_eq_true_eq, beq_iff_eq, Fl.mk.injEq]
  constructor
  · rintro ⟨h1, h2, h3⟩; exact ⟨by omega, by omega, h3⟩
  · rintro ⟨h1, h2, h3⟩; exact ⟨by omega, by omega, h3⟩

set_option maxHeartbeats 1000000 in
set_option maxRecDepth 100000 in
theorem SameAll_same (w : World) (A B : Option Addr) (fs : List Fl) (n m c d : Nat) (hn : n = fs.length) (hm : m = fs.length) (ha : FlX w A fs) (hb : FlX w B fs) (hl : fs.length ≤ 1000000) :
    Calls Try.prog 22 #[.slice A n c, .slice B m d] w fun e w' => e = .returned (.bool true) ∧ Ext w w' := by
  have HA := Lib.hid ha
  have HB := Lib.hid hb
  subst hn
  subst hm
  generalize hlen : fs.length = len at *
  clear ha hb
  go_enter Try.func22, Try.ntmps22
  go_wp2_with fail
  go_loopw [5] (fun i wr => ∃ k : Nat, k ≤ len ∧ i = .int .i64 (k : Int) ∧ Ext w wr) (fun i _ => len - (intOf i).toNat)
  case atStart => exact ⟨0, Nat.zero_le _, rfl, Ext.refl w⟩
  case round =>
    obtain ⟨k, hk, rfl, hE⟩ := hrel
    have HE := Lib.hid hE
    by_cases hkl : k < len
    · have hd : decide ((k : Int) < (len : Int)) = true := decide_eq_true (by omega)
      obtain ⟨g1, o1, A1, b1, rfl, c0, c1, c2, hb1⟩ := (HA.out.ext hE).at_ (i := k) (by omega)
      obtain ⟨g2, o2, A2, b2, rfl, d0, d1, d2, hb2⟩ := (HB.out.ext hE).at_ (i := k) (by omega)
      have KS := Lib.hid (fun W (hW : Ext wr W) => Same_any W ((fs.getD k fl0).from_ : Int) ((fs.getD k fl0).to_ : Int) ((fs.getD k fl0).from_ : Int) ((fs.getD k fl0).to_ : Int) _ _ _ _ (hb1.ext hW) (hb2.ext hW))
      rw [sameZ_self] at KS
      clear hb1 hb2 HA HB
      generalize (fs.getD k fl0).from_ = fa at *
      generalize (fs.getD k fl0).to_ = ft at *
      generalize (fs.getD k fl0).b.length = fb at *
      go_upto_region 6 with fail
      refine wp_eager Ext.pre (n := 10) (by kernel_rfl) (by kernel_rfl) ?_
      refine Eg.batchK Ext.pre (by intro c a d v w h; cases d <;> exact h) (by kernel_rfl) (n := 4) [0, 1, 2, 4, 5, 6] [] _ (by kernel_rfl) (fun K hK => ?_); (simp only [pickOps, List.getElem?_toArray, List.getElem?_cons_zero, List.getElem?_cons_succ, Option.toList_some, List.cons_append, List.nil_append]); (repeat (first | go_big_quiet_step (fail) | quiet_step (fail))); refine wpQuiet_nil (hK _ ?_); clear hK K
      (refine Eg.read Ext.pre (by intro c a d v w h; cases d <;> exact h) (by kernel_rfl) (i := 3) (n := 3) (l := [0, 1, 2, 4, 5, 6]) rfl (by kernel_rfl) (by kernel_rfl) rfl ⟨_, fun w' hR => load_run rfl (load_fl (hR.cell (a := wr.drew) c0) (hR.cell (a := wr.drew) c1) (hR.cell (a := wr.drew) c2)), ?_⟩); (simp only [Act.put, List.setIfInBounds_toArray, List.getElem_toArray, List.getElem_cons_succ, List.getElem_cons_zero, List.set_cons_succ, List.set_cons_zero])
      (refine Eg.read Ext.pre (by intro c a d v w h; cases d <;> exact h) (by kernel_rfl) (i := 7) (n := 2) (l := [0, 1, 2, 4, 5, 6, 3]) rfl (by kernel_rfl) (by kernel_rfl) rfl ⟨_, fun w' hR => load_run rfl (load_fl (hR.cell (a := wr.drew) d0) (hR.cell (a := wr.drew) d1) (hR.cell (a := wr.drew) d2)), ?_⟩); (simp only [Act.put, List.setIfInBounds_toArray, List.getElem_toArray, List.getElem_cons_succ, List.getElem_cons_zero, List.set_cons_succ, List.set_cons_zero])
      refine Eg.act Ext.pre (i := 8) (n := 1) (l := [0, 1, 2, 4, 5, 6, 3, 7]) rfl (by kernel_rfl) ?_
      go_wp2_with fail
      refine (KS.out _ (Ext.refl wr).drew).mono ?_
      rintro e w9 ⟨rfl, hE9⟩
      go_wp2_with fail
      refine ⟨hE9, ?_⟩
      refine Eg.batchK Ext.pre (by intro c a d v w h; cases d <;> exact h) (by kernel_rfl) (n := 0) [9] [0, 1, 2, 4, 5, 6, 3, 7, 8] _ (by kernel_rfl) (fun K hK => ?_); (simp only [pickOps, List.getElem?_toArray, List.getElem?_cons_zero, List.getElem?_cons_succ, Option.toList_some, List.cons_append, List.nil_append]); (repeat (first | go_big_quiet_step (fail) | quiet_step (fail))); refine wpQuiet_nil (hK _ ?_); clear hK K
      refine Eg.finish (by kernel_rfl) ?_
      go_wp2_with fail
      exact ⟨⟨k + 1, by omega, by go_num, HE.out.drew.trans hE9⟩, by simp [intOf]; omega⟩
    · obtain rfl : k = len := by omega
      have hd : decide ((k : Int) < (k : Int)) = false := decide_eq_false (by omega)
      go_wp2_with fail
      go_ret
      exact ⟨rfl, HE.out⟩

end Go.Proofs.Ytahooohokdbnpaa
