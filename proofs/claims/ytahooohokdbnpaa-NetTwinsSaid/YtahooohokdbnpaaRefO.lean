
/-
  Contracts of ref04.Net.At, Send.
-/
import Derived.Test.YtahooohokdbnpaaRefM
set_option linter.unusedVariables false
set_option linter.unusedSimpArgs false
namespace Go.Proofs.Ytahooohokdbnpaa
open Go.RowKit Go.Shelf Go.Maps Pl

attribute [local go_sem] Oper.semAt_some

theorem FlRow.at_ {w0 W : World} {B : Nat} {v : Value} {fs : List Fl} (h : FlRow w0 W B v fs) (hE : Ext w0 W) {s : Nat} (hs : s < fs.length) :
    ∃ gr c Ab cb, v = .slice (some ⟨gr, 0, none⟩) fs.length c ∧ W.cell? ⟨gr, s * 3, none⟩ = some (.int .i64 ((fs.getD s fl0).from_ : Int)) ∧ W.cell? ⟨gr, s * 3 + 1, none⟩ = some (.int .i64 ((fs.getD s fl0).to_ : Int)) ∧ W.cell? ⟨gr, s * 3 + 2, none⟩ = some (.slice Ab (fs.getD s fl0).b.length cb) ∧
      Bs 5 W (.slice Ab (fs.getD s fl0).b.length cb) (fs.getD s fl0).b := by
  obtain ⟨cs, hr, hc⟩ := h
  obtain ⟨vb, c0, c1, c2, hb⟩ := hc.2 s hs
  have hb' := hb.ext hE
  obtain ⟨Ab, cb, e, _⟩ := hb
  subst e
  have hcell := fun g (hg : v.ownBlock = some g) => World.ownsRow.cells hr hg
  obtain ⟨_, h2⟩ := hr
  rcases h2 with ⟨rfl, hn⟩ | ⟨g, cap, cur, rfl, _⟩
  · omega
  · have hx := hcell g rfl
    have e0 : ∀ j, (⟨g, 0, none⟩ : Addr).add j = ⟨g, j, none⟩ := fun j => by unfold Addr.add; split <;> simp_all
    refine ⟨g, cap, Ab, cb, rfl, ?_, ?_, ?_, hb'⟩
    · rw [← e0, Nat.mul_comm]; exact hx _ _ c0
    · rw [← e0, Nat.mul_comm]; exact hx _ _ c1
    · rw [← e0, Nat.mul_comm]; exact hx _ _ c2
theorem FlRow.form {w0 W : World} {B : Nat} {v : Value} {fs : List Fl} (h : FlRow w0 W B v fs) : ∃ A c, v = .slice A fs.length c := by
  obtain ⟨cs, hr, hc⟩ := h
  exact row_form hr

set_option maxHeartbeats 1000000 in
set_option maxRecDepth 100000 in
theorem At_ref {w : World} {T : Nat → Prop} {g : Nat} {N : Nt} (h : RefAt w T g N) (z : Int) (hz : I64 z) :
    Calls Try.prog 37 #[.pointer (some ⟨g, 0, none⟩), .int .i64 z] w fun e w' => ∃ vb, e = .returned (.tuple #[.agg #[.int .i64 ((atF N z).from_ : Int), .int .i64 ((atF N z).to_ : Int), vb], .int .i64 (atE N z : Int)]) ∧ Bs 5 w' vb (atF N z).b ∧ Ext w w' := by
  have KF := Lib.hid (fun W (hW : Ext w W) => Flights_ref (h.ext hW))
  have hzr : ∀ W, (zeroValue 45).run Try.prog W = .ok (.agg #[.int .i64 0, .int .i64 0, .slice none 0 0]) W := fun W => by kernel_rfl
  have HE1 := Lib.hid (ext_new w (.cells #[.int .i64 0, .int .i64 0, .slice none 0 0] 45))
  have HBr := Lib.hid (Blk.new w 45 #[.int .i64 0, .int .i64 0, .slice none 0 0])
  have HLEN := Lib.hid (flN_length h.1)
  have HAE : Hid (atE N z = if z < 0 then 2 else if z.toNat < (flN N).length then 0 else 6) := Lib.hid rfl
  have HAF : Hid (atF N z = if atE N z = 0 then (flN N).getD z.toNat fl0 else fl0) := Lib.hid rfl
  clear h
  go_enter Try.func37, Try.ntmps37
  go_wp2_with fail
  generalize w.alloc (.cells #[.int .i64 0, .int .i64 0, .slice none 0 0] 45) = w1 at *
  refine (KF.out w1 HE1.out).mono ?_
  rintro e w2 ⟨v, rfl, hF, hE2⟩
  have HBr2 := Lib.hid (HBr.out.ext hE2)
  have HE12 := Lib.hid hE2
  have HE2 := Lib.hid (HE1.out.trans hE2)
  have HF := Lib.hid hF
  obtain ⟨A, c, rfl⟩ := hF.form
  have hlen := HLEN.out
  clear HBr hF hE2 KF
  by_cases h0 : z < 0
  · have hd : decide (z < 0) = true := decide_eq_true h0
    have e1 : atE N z = 2 := by rw [HAE.out, if_pos h0]
    have e2 : atF N z = fl0 := by rw [HAF.out, e1]; rfl
    have HRES := Lib.hid (And.intro e1 e2)
    clear h0 e1 e2 HAE HAF
    go_wp2_with (refine wpList_store_row rfl 45 _ _ rfl _ _ rfl rfl _ _ HBr2.out (Try.flSize _ _ _) rfl (fl_one _ _ _ _ _) ?_)
    refine bodyPost_ret (v := .tuple #[.agg #[.int .i64 0, .int .i64 0, .slice none 0 0], .int .i64 2]) (results_row2 Try.results37 _ _ w.heap.size _ #[.int .i64 0, .int .i64 0, .slice none 0 0] (0, 0) _ rfl (Blk.row HBr2.out _) Try.underlying45 rfl (Try.flSize _ _ _)) rfl ?_
    rw [HRES.out.1, HRES.out.2]
    exact ⟨_, rfl, Bs.nil _ _ _ _ (Nat.zero_le _), HE2.out.setRow (Nat.le_refl _) _⟩
  · have hd : decide (z < 0) = false := decide_eq_false h0
    by_cases h1 : z.toNat < (flN N).length
    · have e1 : atE N z = 0 := by rw [HAE.out, if_neg h0, if_pos h1]
      have e2 : atF N z = (flN N).getD z.toNat fl0 := by rw [HAF.out, if_pos e1]
      obtain ⟨m, rfl⟩ : ∃ m : Nat, z = (m : Int) := ⟨z.toNat, by omega⟩
      rw [Int.toNat_natCast] at h1 e2
      obtain ⟨gr, c', Ab, cb, e, c0, c1, c2, hbs⟩ := HF.out.at_ HE12.out h1
      cases e
      rw [← e2] at c0 c1 c2 hbs
      have HBS := Lib.hid hbs
      have hd2 : decide (((flN N).length : Int) ≤ (m : Int)) = false := decide_eq_false (by omega)
      clear hbs HAE HAF e2 h0 HF
      generalize hfb : (atF N (m : Int)).b = fb at *
      generalize hfa : (atF N (m : Int)).from_ = fa at *
      generalize hft : (atF N (m : Int)).to_ = ft at *
      have HRES := Lib.hid (And.intro e1 (And.intro hfa (And.intro hft hfb)))
      clear e1 hfa hft hfb
      generalize (flN N).length = len at *
      go_wp2_with (refine wpList_store_row rfl 45 _ _ rfl _ _ rfl rfl _ _ HBr2.out (Try.flSize _ _ _) rfl (fl_one _ _ _ _ _) ?_)
      refine bodyPost_ret (v := .tuple #[.agg #[.int .i64 (fa : Int), .int .i64 (ft : Int), .slice Ab fb.length cb], .int .i64 0]) (results_row2 Try.results37 _ _ w.heap.size _ #[.int .i64 (fa : Int), .int .i64 (ft : Int), .slice Ab fb.length cb] (0, 0) _ rfl (Blk.row HBr2.out _) Try.underlying45 rfl (Try.flSize _ _ _)) rfl ?_
      rw [HRES.out.1, HRES.out.2.1, HRES.out.2.2.1, HRES.out.2.2.2]
      exact ⟨_, rfl, Ext.bs HBS.out (grown_row _ _ _) HBr2.out (by decide), HE2.out.setRow (Nat.le_refl _) _⟩
    · have e1 : atE N z = 6 := by rw [HAE.out, if_neg h0, if_neg h1]
      have e2 : atF N z = fl0 := by rw [HAF.out, e1]; rfl
      have hd2 : decide (((flN N).length : Int) ≤ z) = true := decide_eq_true (by omega)
      have HRES := Lib.hid (And.intro e1 e2)
      clear h0 e1 e2 HAE HAF h1
      go_wp2_with (refine wpList_store_row rfl 45 _ _ rfl _ _ rfl rfl _ _ HBr2.out (Try.flSize _ _ _) rfl (fl_one _ _ _ _ _) ?_)
      refine bodyPost_ret (v := .tuple #[.agg #[.int .i64 0, .int .i64 0, .slice none 0 0], .int .i64 6]) (results_row2 Try.results37 _ _ w.heap.size _ #[.int .i64 0, .int .i64 0, .slice none 0 0] (0, 0) _ rfl (Blk.row HBr2.out _) Try.underlying45 rfl (Try.flSize _ _ _)) rfl ?_
      rw [HRES.out.1, HRES.out.2]
      exact ⟨_, rfl, Bs.nil _ _ _ _ (Nat.zero_le _), HE2.out.setRow (Nat.le_refl _) _⟩

end Go.Proofs.Ytahooohokdbnpaa
