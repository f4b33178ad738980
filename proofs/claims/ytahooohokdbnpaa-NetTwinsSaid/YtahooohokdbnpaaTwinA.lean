
/-
  Contracts of slices.Clone of rows of bytes, ref04.Net.Copy.
-/
import Derived.Test.YtahooohokdbnpaaFlK
import Derived.Deep.WholeRow
set_option linter.unusedVariables false
set_option linter.unusedSimpArgs false
namespace Go.Proofs.Ytahooohokdbnpaa
open Go.RowKit Go.Shelf Go.Maps Pl

attribute [local go_sem] Oper.semAt_some

theorem Lin.lx {w : World} {B : Nat} {A : Option Addr} {n c : Nat} {l : List (List UInt8)} (h : Lin 36 5 w B (.slice A n c) l) : LinX w A l := (h.r (T := fun _ => True) (fun _ _ => trivial)).x
set_option maxHeartbeats 1000000 in
set_option maxRecDepth 100000 in
theorem cloneL (w : World) (A : Option Addr) (l : List (List UInt8)) (n c : Nat) (hn : n = l.length) (hb : LinX w A l) (hl : l.length ≤ 1000) :
    Calls Try.prog 50 #[.slice A n c] w fun e w' => ∃ v, e = .returned v ∧ Lin 36 5 w' w.heap.size v l ∧ Ext w w' := by
  have hq := fun (W : World) (a : Option Addr) (n c : Nat) => Lib.run_eql_slice_nil W 30 36 a n c 0 0 Try.underlying30
  have HNL := Lib.hid hn
  cases A with
  | none =>
    have hn0 : l = [] := by
      rcases hb with h | ⟨b, o, e, _⟩
      · exact h
      · cases e
    subst hn0
    obtain rfl : n = 0 := hn
    go_enter Try.func50, Try.ntmps50
    go_wp2_with fail
    go_ret
    exact ⟨_, rfl, Lin.nil _ _ _ _, Ext.refl w⟩
  | some p =>
    have hq1 := fun W => hq W (some p) n c
    simp only [Option.isNone_some] at hq1
    have HO : Hid (Lin 36 5 (w.alloc (.cells #[] 36)) w.heap.size (.slice (some ⟨w.heap.size, 0, none⟩) 0 0) []) := Lib.hid ⟨[], World.ownsRow_made w #[] 0 (Nat.le_refl _) (Nat.zero_le _) (by simp), fun i hi => by simp at hi⟩
    have HB := Lib.hid (hb.ext (ext_new w (.cells #[] 36)))
    clear hb hq hn
    go_enter Try.func50, Try.ntmps50
    go_wp2_with (at_builtin; refine wpList_appendL rfl _ _ rfl rfl HO.out _ _ _ rfl l HB.out HNL.out (by simp; omega) (by simp) ?_; intro v1 w1 hO1 hG1 hR1)
    go_ret
    exact ⟨_, rfl, by simpa using hO1, (ext_new w _).grown hG1 (fun k e => by cases e; exact Nat.le_refl _)⟩

theorem LinR.slice {T : Nat → Prop} {w : World} {v : Value} {l : List (List UInt8)} (h : LinR T w v l) : ∃ A n c, v = .slice A n c := by
  obtain ⟨A, c, e, _⟩ := h
  exact ⟨A, _, c, e⟩
theorem refZero : ∃ zc : Array Value, zc.size = 38 ∧ ∀ w, (zeroValue 34).run Try.prog w = .ok (.agg zc) w :=
  ⟨refCells 0, by simp [refCells], fun w => by kernel_rfl⟩
set_option maxHeartbeats 2000000 in
set_option maxRecDepth 100000 in
theorem Copy_ref {w : World} {T : Nat → Prop} {r : Nat} {N : Nt} (h : RefAt w T r N) :
    Calls Try.prog 35 #[.pointer (some ⟨r, 0, none⟩)] w fun e w' => ∃ T' r', e = .returned (.pointer (some ⟨r', 0, none⟩)) ∧ RefAt w' T' r' N ∧ w.heap.size ≤ r' ∧ (∀ k, T' k → k = r' ∨ (T k ∧ k ≠ r)) ∧ Ext w w' := by
  obtain ⟨zc, hzs, hzr⟩ := refZero
  obtain ⟨h0, hlo, hg, hk, cs, hb, hsz, h36, h37, hl⟩ := id h
  have H := Lib.hid h
  have HBR := Lib.hid hb
  have HL := Lib.hid hl
  have HX := Lib.hid (ext_new w (.cells zc 34))
  have HB := Lib.hid (Blk.new w 34 zc)
  have hone : cs.all (·.oneCell') = true := by
    rw [Array.all_eq_true]
    intro i hi
    have hi38 : i < 38 := by omega
    have hget : cs[i]? = some cs[i] := Array.getElem?_eq_getElem hi
    by_cases e36 : i < 36
    · obtain ⟨v, hv, hr⟩ := hl (i / 6) (i % 6) (by omega) (by omega)
      rw [show i / 6 * 6 + i % 6 = i by omega, hget] at hv
      obtain ⟨A, n, c, e⟩ := hr.slice
      have e2 : cs[i] = v := by injection hv
      rw [e2, e]
      rfl
    · by_cases e37 : i = 36
      · subst e37
        rw [hget] at h36
        have e2 : cs[36] = .int .i64 (N.ends : Int) := by injection h36
        rw [e2]
        rfl
      · obtain rfl : i = 37 := by omega
        rw [hget] at h37
        have e2 : cs[37] = .int .i64 (N.lost : Int) := by injection h37
        rw [e2]
        rfl
  have HONE := Lib.hid hone
  have HSZ := Lib.hid hsz
  have HZS := Lib.hid hzs
  have hi38 : (Try.prog.info? 34).map (·.size) = some 38 := by kernel_rfl
  have HI38 := Lib.hid hi38
  have H36 := Lib.hid (And.intro h36 h37)
  have HREST := Lib.hid (And.intro h0 (And.intro hlo (And.intro hg hk)))
  clear h h0 hlo hg hk hb hsz h36 h37 hl hone hzs hi38
  go_enter Try.func35, Try.ntmps35
  go_wp2_with (first | (refine wpList_load_row rfl 34 _ rfl _ rfl _ _ _ _ HBR.out Try.underlying34 rfl (by rw [HI38.out, HSZ.out]) ?_) | (refine wpList_store_row rfl 34 _ _ rfl _ cs rfl rfl _ _ HB.out (by rw [HI38.out, HSZ.out]) (by rw [HZS.out, HSZ.out]) HONE.out ?_))
  go_ret
  have hB2 := Blk.row HB.out cs
  have hE2 := HX.out.setRow (g := w.heap.size) (Nat.le_refl _) cs
  obtain ⟨h0, hlo, hg, hk⟩ := HREST.out
  refine ⟨fun k => k = w.heap.size ∨ (T k ∧ k ≠ r), w.heap.size, rfl, ⟨h0, hlo, .inl rfl, fun k hkk => ?_, cs, hB2, HSZ.out, H36.out.1, H36.out.2, fun a b ha hb => ?_⟩, Nat.le_refl _, fun k h => h, hE2⟩
  · rcases hkk with h | ⟨h, hne⟩
    · exact .inl h
    · rcases hk k h with h1 | ⟨cur, h1⟩
      · exact absurd h1 hne
      · exact .inr ⟨cur, h1.ext hE2⟩
  · obtain ⟨v, hv, hr⟩ := HL.out a b ha hb
    refine ⟨v, hv, ?_⟩
    obtain ⟨A, c, e, q1, q2, q3⟩ := hr
    refine ⟨A, c, e, q1, q2, ?_⟩
    rcases q3 with q3 | ⟨gr, o, cur, e', hbk, hT, hi⟩
    · exact .inl q3
    · exact .inr ⟨gr, o, cur, e', hbk.ext hE2, .inr ⟨hT, fun e3 => by subst e3; exact absurd (hbk.type HBR.out).1 (by decide)⟩, fun i hi' => by
        obtain ⟨vb, u1, u2⟩ := hi i hi'
        exact ⟨vb, u1, u2.ext hE2⟩⟩

end Go.Proofs.Ytahooohokdbnpaa
