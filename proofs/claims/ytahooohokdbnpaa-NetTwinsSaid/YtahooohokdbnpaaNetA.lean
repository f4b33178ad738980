
/-
  Contracts of net.New, none, isEnd, Line, Lost, push, Send.
-/
import Derived.Test.YtahooohokdbnpaaNetM
import Derived.Test.YtahooohokdbnpaaOwn
import Derived.Test.YtahooohokdbnpaaTwo
set_option linter.unusedVariables false
set_option linter.unusedSimpArgs false
namespace Go.Proofs.Ytahooohokdbnpaa
open Go.RowKit Go.Maps Pl

attribute [local go_sem] Oper.semAt_some

theorem none_net {w : World} {S : Nat → Prop} {g nb : Nat} {N : Nt} (h : NetAt w S g nb N) : Calls Try.prog 42 #[.pointer (some ⟨g, 0, none⟩)] w fun e w' => e = .returned (.bool false) ∧ w = w' := by
  obtain ⟨h0, hlo, gm, F, c, hb, hm, hl, hs1, hs2, hk⟩ := h
  have he : w.cell? ⟨g, 0, none⟩ = some (.int .i64 (N.ends : Int)) := by rw [hb.cell]; rfl
  have hz : ((N.ends : Int) == 0) = false := by rw [beq_eq_false_iff_ne]; have := h0.e1; omega
  clear hb hm hl hk
  go_enter Try.func42, Try.ntmps42
  go_wp2_with fail
  go_ret
  exact ⟨rfl, rfl⟩
theorem none_nil (w : World) : Calls Try.prog 42 #[.pointer none] w fun e w' => e = .returned (.bool true) ∧ w = w' := by
  go_enter Try.func42, Try.ntmps42
  go_wp2_with fail
  go_ret
  exact ⟨rfl, rfl⟩
theorem isEnd_net {w : World} {S : Nat → Prop} {g nb : Nat} {N : Nt} (h : NetAt w S g nb N) (z : Int) : Calls Try.prog 43 #[.pointer (some ⟨g, 0, none⟩), .int .i64 z] w fun e w' => e = .returned (.bool (endB N z)) ∧ w = w' := by
  obtain ⟨h0, hlo, gm, F, c, hb, hm, hl, hs1, hs2, hk⟩ := h
  have he : w.cell? ⟨g, 0, none⟩ = some (.int .i64 (N.ends : Int)) := by rw [hb.cell]; rfl
  have HR : Hid (endB N z = (decide (1 ≤ z) && decide (z ≤ (N.ends : Int)))) := Lib.hid rfl
  clear hb hm hl hk
  by_cases h1 : 1 ≤ z
  · have d1 : decide (1 ≤ z) = true := decide_eq_true h1
    rw [d1, Bool.true_and] at HR
    rw [HR.out]
    clear h1
    go_enter Try.func43, Try.ntmps43
    go_wp2_with fail
    go_ret
    exact ⟨rfl, rfl⟩
  · have d1 : decide (1 ≤ z) = false := decide_eq_false h1
    rw [d1, Bool.false_and] at HR
    rw [HR.out]
    clear h1
    go_enter Try.func43, Try.ntmps43
    go_wp2_with fail
    go_ret
    exact ⟨rfl, rfl⟩
theorem Lost_net {w : World} {S : Nat → Prop} {g nb : Nat} {N : Nt} (h : NetAt w S g nb N) : Calls Try.prog 32 #[.pointer (some ⟨g, 0, none⟩)] w fun e w' => e = .returned (.int .i64 (N.lost : Int)) ∧ w = w' := by
  have K := Lib.hid (none_net h)
  obtain ⟨h0, hlo, gm, F, c, hb, hm, hl, hs1, hs2, hk⟩ := h
  have he : w.cell? ⟨g, 2, none⟩ = some (.int .i64 (N.lost : Int)) := by rw [hb.cell]; rfl
  clear hb hm hl hk
  go_enter Try.func32, Try.ntmps32
  go_wp2_with fail
  refine K.out.mono ?_
  rintro e w' ⟨rfl, rfl⟩
  go_wp2_with fail
  go_ret
  exact ⟨rfl, rfl⟩

theorem Try.lineZero (w : World) : (zeroValue 30).run Try.prog w = .ok (.slice none 0 0) w := by kernel_rfl
theorem Line_net {w : World} {S : Nat → Prop} {g nb : Nat} {N : Nt} (h : NetAt w S g nb N) {a b : Int} (ha : I64 a) (hb' : I64 b) :
    Calls Try.prog 31 #[.pointer (some ⟨g, 0, none⟩), .int .i64 a, .int .i64 b] w fun e w' => e = .returned (.int .i64 (lineN N a b : Int)) ∧ w = w' := by
  have K := Lib.hid (none_net h)
  obtain ⟨h0, hlo, gm, F, c, hb, hm, hl, hs1, hs2, hk⟩ := h
  have he : w.cell? ⟨g, 1, none⟩ = some (.map (some gm)) := by rw [hb.cell]; rfl
  have hkey := key_pair ha hb'
  obtain ⟨A, cc, hv⟩ := hl.len h0 ha hb'
  generalize lineN N a b = n at *
  have hlk := hm.look1 Try.pairKeys Try.underlying73 (Try.lineZero _) hkey
  rw [hv] at hlk
  clear hb hm hl hk hv hkey
  go_enter Try.func31, Try.ntmps31
  go_wp2_with fail
  refine K.out.mono ?_
  rintro e w' ⟨rfl, rfl⟩
  go_wp2_with fail
  go_ret
  exact ⟨rfl, rfl⟩

set_option maxRecDepth 100000 in
theorem New_no (w : World) (z : Int) (h : ¬ (1 ≤ z ∧ z ≤ 5)) : Calls Try.prog 12 #[.int .i64 z] w fun e w' => e = .returned (.tuple #[.pointer none, .int .i64 2]) ∧ w = w' := by
  by_cases h1 : z < 1
  · have d1 : decide (z < 1) = true := decide_eq_true h1
    clear h h1
    go_enter Try.func12, Try.ntmps12
    go_wp2_with fail
    go_ret2
    exact ⟨rfl, rfl⟩
  · have d1 : decide (z < 1) = false := decide_eq_false h1
    have d2 : decide (5 < z) = true := decide_eq_true (by omega)
    clear h h1
    go_enter Try.func12, Try.ntmps12
    go_wp2_with fail
    go_ret2
    exact ⟨rfl, rfl⟩
set_option maxRecDepth 100000 in
theorem New_net (w : World) (n : Nat) (h1 : 1 ≤ n) (h5 : n ≤ 5) : Calls Try.prog 12 #[.int .i64 (n : Int)] w fun e w' => ∃ S g, e = .returned (.tuple #[.pointer (some ⟨g, 0, none⟩), .int .i64 0]) ∧ NetAt w' S g 0 (newN n) ∧ (∀ k, S k → w.heap.size ≤ k) ∧ Ext w w' := by
  have d1 : decide ((n : Int) < 1) = false := decide_eq_false (by omega)
  have d2 : decide (5 < (n : Int)) = false := decide_eq_false (by omega)
  have hmm := @run_makeMap Try.prog
  have HOK := Lib.hid (okN_new h1 h5)
  have HM := Lib.hid ((Mp.made w Try.prog 79).ext (ext_new _ (.cells #[.int .i64 (n : Int), .map (some w.heap.size), .int .i64 0] 75)))
  have HB := Lib.hid (Blk.new (w.alloc (.map #[] 0)) 75 #[.int .i64 (n : Int), .map (some w.heap.size), .int .i64 0])
  rw [World.size_alloc] at HB
  have HE := Lib.hid (((Ext.refl w).alloc (.map #[] 0)).alloc (.cells #[.int .i64 (n : Int), .map (some w.heap.size), .int .i64 0] 75))
  clear h1 h5
  go_enter Try.func12, Try.ntmps12
  go_wp2_with fail
  go_ret2
  refine ⟨fun k => k = w.heap.size ∨ k = w.heap.size + 1, w.heap.size + 1, rfl, ⟨HOK.out, Nat.le_refl _, w.heap.size, _, _, HB.out, HM.out, ⟨fun p hp => .inl ⟨rfl, rfl⟩, fun p q v u k _ _ _ hF => (by cases hF), fun l v hF => (by cases hF)⟩, .inr rfl, .inl rfl, fun k hk => ?_⟩, fun k hk => by rcases hk with rfl | rfl <;> omega, HE.out⟩
  rcases hk with rfl | rfl
  · exact .inr (.inl rfl)
  · exact .inl rfl

/-! ## slices.Clone -/
theorem Try.info8 : (Try.prog.info? 5).map (fun i => (i.zero, i.size, i.bytes)) = some (some (.int .u8 0), 1, 1) := by kernel_rfl
theorem Try.byt : Byt Try.prog 36 5 := ⟨Try.underlying36, Try.info8⟩
set_option maxRecDepth 100000 in
theorem clone8 (w : World) (A : Option Addr) (l : List UInt8) (c : Nat) (hb : By w A l) (hl : l.length ≤ 70368744177664) :
    Calls Try.prog 41 #[.slice A l.length c] w fun e w' => ∃ v, e = .returned v ∧ Own 5 w' w.heap.size v l ∧ Ext w w' := by
  have hq := fun (W : World) (a : Option Addr) (n c : Nat) => Lib.run_eql_slice_nil W 36 5 a n c 0 0 Try.underlying36
  cases A with
  | none =>
    have hn : l = [] := by
      rcases hb with h | ⟨b, o, e, _⟩
      · exact h
      · cases e
    subst hn
    go_enter Try.func41, Try.ntmps41
    go_wp2_with fail
    go_ret
    exact ⟨_, rfl, Own.nil _ _ _, Ext.refl w⟩
  | some p =>
    have hq1 := fun W => hq W (some p) l.length c
    simp only [Option.isNone_some] at hq1
    have HO : Hid (Own 5 (w.alloc (.cells #[] 5)) w.heap.size (.slice (some ⟨w.heap.size, 0, none⟩) 0 0) []) := Lib.hid (World.ownsRow_made w #[] 0 (Nat.le_refl _) (Nat.zero_le _) (by simp))
    have HB := Lib.hid (hb.ext (ext_new w (.cells #[] 5)))
    clear hb hq
    go_enter Try.func41, Try.ntmps41
    go_wp2_with (at_builtin; refine wpList_append8 Try.byt rfl _ _ rfl rfl HO.out _ _ _ rfl l HB.out rfl (by simp; omega) (by simp) ?_; intro v1 w1 hO1 hG1 hR1)
    go_ret
    exact ⟨_, rfl, by simpa using hO1, (ext_new w _).grown hG1 (fun k e => by cases e; exact Nat.le_refl _)⟩

end Go.Proofs.Ytahooohokdbnpaa
