
/-
  Contracts of net.Len, Clear.
-/
import Derived.Test.YtahooohokdbnpaaNetH
set_option linter.unusedVariables false
set_option linter.unusedSimpArgs false
namespace Go.Proofs.Ytahooohokdbnpaa
open Go.RowKit Go.Shelf Go.Maps Pl

attribute [local go_sem] Oper.semAt_some

set_option maxHeartbeats 2000000 in
set_option maxRecDepth 100000 in
theorem Len_net {w : World} {S : Nat → Prop} {g nb : Nat} {N : Nt} (h : NetAt w S g nb N) :
    Calls Try.prog 15 #[.pointer (some ⟨g, 0, none⟩)] w fun e w' => e = .returned (.int .i64 ((flN N).length : Int)) ∧ Ext w w' := by
  have KF := Lib.hid (fun W (hW : Ext w W) => flights_net (h.ext hW))
  have HLEN := Lib.hid (flN_length h.1)
  have HE1 := Lib.hid (ext_new w (.cells #[.int .i64 0] 3))
  have HB := Lib.hid (Blk.new w 3 #[.int .i64 0])
  clear h
  refine callsIn_wide.1 (callsIn_of_wp_marks (n := 3) Try.func15 rfl trivial (wpIn_wide.2 (wp_quiet ?_)) rfl)
  simp only [Try.ntmps15, List.size_toArray, List.length_cons, List.length_nil, Nat.reduceAdd, Nat.reduceSub, Array.replicate_succ, Array.replicate_zero, List.push_toArray, List.append_toArray, List.nil_append, List.cons_append]
  go_wp2_with fail
  generalize w.alloc (.cells #[.int .i64 0] 3) = w1 at *
  refine (KF.out w1 HE1.out).mono ?_
  rintro e w4 ⟨gl, rfl, ⟨v, cs, hv, hrow, hcells⟩, hgl, hE4⟩
  have hle := HLEN.out
  have hbl := HB.out.lt
  have HC4 : Hid (flC w1 gl v cs (flN N) w4) := Lib.hid ⟨hv, row_down hrow (Nat.zero_le _), fun k cur hb => hb.ext hE4⟩
  have HRW := Lib.hid (World.ownsRow.lt hrow)
  have HB4 := Lib.hid (HB.out.ext hE4)
  have HE4 := Lib.hid (HE1.out.trans hE4)
  have hs4 := hE4.size
  have hgl4 := hv.lt
  have HNG : Hid (¬ flG w1 gl v w.heap.size) := Lib.hid (fun h => by
    rcases h with h | h | ⟨cur, h⟩
    · omega
    · have := (HRW.out _ h).1; omega
    · exact absurd (HB.out.type h).1 (by decide))
  have hG : ∀ k, flG w1 gl v k → k < w4.heap.size := fun k hk => by
    rcases hk with rfl | h1 | ⟨cur, h1⟩
    · exact hgl4
    · exact (HRW.out k h1).2
    · exact Nat.lt_of_lt_of_le h1.lt hs4
  go_wp2_with fail
  refine wp_rangeF (σ := Nat) 3 (by omega) (gf := 52) (lb := #[.pointer (some ⟨gl, 0, none⟩)]) rfl (enters_of Try.func52 (by kernel_rfl) rfl) (flights_seq w1 gl v cs (flN N) hcells (by omega) 2 (by omega))
    (fun W hg => HC4.out.keep (fun k hk _ => hg.block k hk (by simp))) hG (fun N s args s' A hx => by obtain ⟨_, _, _, vb, rfl, _⟩ := hx; rfl) (fun N' s args s' => flX_firm _ N' s args s')
    (fun s W => s ≤ (flN N).length ∧ Blk W w.heap.size 3 #[.int .i64 (s : Int)] ∧ Ext w W) (fun _ _ _ => False)
    (fun s A B row h hg hr => ⟨h.1, h.2.1.firm hg (fun r e => (hr r e).2), h.2.2.grown hg (fun k e => by have := (hr k e).1; have := HE4.out.size; omega)⟩)
    (fun c s A B row h hg hr => h) ⟨Nat.zero_le _, HB4.out, HE4.out⟩
    (fun args T => (T.setIfInBounds 6 (args.getD 0 undef)).setIfInBounds 7 (args.getD 1 undef)) ?assign ?body ?done ?stop
  case assign =>
    rintro l s args s' W K ⟨_, _, _, vb, rfl, _⟩ hK
    generalize (flN N).getD s fl0 = f at *
    gi_wp2_with fail
    exact hK
  case body =>
    rintro l s args s' W ⟨hsl, hb, hE⟩ ⟨hs2, rfl, _, vb, rfl, hbs⟩
    simp only [Array.getD_eq_getD_getElem?, List.getElem?_toArray, List.getElem?_cons_zero, List.getElem?_cons_succ, Option.getD_some, List.setIfInBounds_toArray, List.set_cons_succ, List.set_cons_zero]
    obtain ⟨Ab, cb, rfl, _⟩ := hbs
    have c1 := cell1 hb
    have f1 := hb.frozen 0
    have hs3 : s ≤ 1000 := by omega
    have HB5 := Lib.hid hb
    have HE5 := Lib.hid hE
    have HS2 := Lib.hid hs2
    clear hb hE hs2 hsl HC4 hrow hcells hv
    generalize (flN N).getD s fl0 = f at *
    gi_wp2_with fail
    have g1 := grown_set W ⟨w.heap.size, 0, none⟩ (.int .i64 ((s : Int) + 1))
    have hK := (KK.refl w4.heap.size (flG w1 gl v) (w4.heap.size + 2) 0 5 W).step g1 HB5.out HNG.out (.inl (by show w.heap.size < _; omega)) (by decide)
    exact ⟨hK.1, hK.2.1, HS2.out, HB5.out.set 0 (.int .i64 ((s : Int) + 1)), HE5.out.setCell (by show _ ≤ w.heap.size; omega) _⟩
  case done =>
    rintro D s W hD rfl ⟨hsl, hb, hE⟩ hK
    have c1 := cell1 hb
    have HE5 := Lib.hid hE
    have HK5 := Lib.hid hK
    clear hb hE hK hsl HC4 hrow hcells
    generalize hfl : (flN N).length = fl at *
    go_wp2_with fail
    exact postM_mark HK5.out (results_tmp Try.results15 _ _ _) (by rw [hfl]; exact ⟨rfl, HE5.out.mark (by have := HE4.out.size; omega)⟩)
  case stop =>
    rintro D c s W _ _ h _
    exact h.elim

/-! ## Clear -/
theorem clearL_zero (L : Lns) (z : Nat) : clearL L z 0 = L := by
  funext q
  unfold clearL
  rw [if_neg (by omega)]
theorem clearL_succ (L : Lns) (z n : Nat) : clearL L z (n + 1) = setL (clearL L z n) (n + 1, z) [] := by
  funext q
  obtain ⟨a, b⟩ := q
  unfold setL clearL
  by_cases h1 : (a, b) = (n + 1, z)
  · rw [if_pos h1]
    cases h1
    rw [if_pos (by simp)]
  · rw [if_neg h1]
    by_cases h2 : 1 ≤ a ∧ a ≤ n ∧ b = z
    · rw [if_pos h2, if_pos ⟨h2.1, by show a ≤ n + 1; omega, h2.2.2⟩]
    · rw [if_neg h2, if_neg (fun h => by
        by_cases e : a = n + 1
        · exact h1 (by rw [e]; exact congrArg (Prod.mk (n + 1)) h.2.2)
        · exact h2 ⟨h.1, by have := h.2.1; show a ≤ n; omega, h.2.2⟩)]
theorem clearL_ahead (L : Lns) (z n : Nat) : clearL L z n (n + 1, z) = L (n + 1, z) := by
  unfold clearL
  rw [if_neg (fun h => by have := h.2.1; simp at this; omega)]
theorem clearK_le {N : Nt} (h : OkN N) (z : Nat) : ∀ n, clearK N.L z n ≤ 32 * n
  | 0 => Nat.le_refl _
  | n + 1 => by
    have h1 := clearK_le h z n
    have h2 := h.full (n + 1, z)
    show clearK N.L z n + (N.L (n + 1, z)).length ≤ _
    omega
theorem LnsAt.dropped {w w' : World} {S : Nat → Prop} {F : Lit → Option Value} {N : Nt} (hl : LnsAt w S F N) (h : OkN N) {p : Nat × Nat} (hp : p ∈ linesOf N.ends) {T : Nat → Prop} (hC : Chg T w w') (hT : ∀ k cur, T k → ¬ Blk w k 5 cur) (hr : ∀ k cur, Blk w k 36 cur → ¬ T k) :
    LnsAt w' S (updF F (kl p) none) { N with L := setL N.L p [] } := by
  have h2 := hl.chg2 hC hT hr
  refine ⟨fun q hq => ?_, fun q r u x k hq hr' hne hu hx hk => ?_, fun l' u hF => ?_⟩
  · by_cases e : q = p
    · subst e
      refine .inl ⟨updF_same _ _ _, ?_⟩
      show setL N.L q [] q = []
      rw [setL_same]
    · have hk : kl q ≠ kl p := fun e' => e (kl_inj h hq hp e')
      rw [updF_other _ _ hk]
      show (F (kl q) = none ∧ setL N.L p [] q = []) ∨ ∃ v, F (kl q) = some v ∧ Lin _ _ w' 0 v (setL N.L p [] q) ∧ _
      rw [setL_other _ _ e]
      exact h2.here q hq
  · by_cases e1 : q = p
    · subst e1; rw [updF_same] at hu; cases hu
    · by_cases e2 : r = p
      · subst e2; rw [updF_same] at hx; cases hx
      · rw [updF_other _ _ (fun e' => e1 (kl_inj h hq hp e'))] at hu
        rw [updF_other _ _ (fun e' => e2 (kl_inj h hr' hp e'))] at hx
        exact hl.apart q r u x k hq hr' hne hu hx hk
  · by_cases e : l' = kl p
    · rw [e, updF_same] at hF; cases hF
    · rw [updF_other _ _ e] at hF
      exact hl.none_ l' u hF

set_option maxHeartbeats 2000000 in
set_option maxRecDepth 100000 in
theorem Clear_net {w : World} {S : Nat → Prop} {g nb : Nat} {N : Nt} (h : NetAt w S g nb N) (z : Int) (hz : I64 z) :
    Calls Try.prog 27 #[.pointer (some ⟨g, 0, none⟩), .int .i64 z] w fun e w' => e = .returned (.int .i64 (clearC N z : Int)) ∧ NetAt w' S g nb (clearN N z) ∧ Chg S w w' := by
  have KN := Lib.hid (none_net h)
  have K1 := Lib.hid (isEnd_net h z)
  have H := Lib.hid h
  have HCC : Hid (clearC N z = if endB N z then clearK N.L z.toNat N.ends else 0) := Lib.hid rfl
  have HCN : Hid (clearN N z = if endB N z then { N with L := clearL N.L z.toNat N.ends } else N) := Lib.hid rfl
  clear h
  cases he : endB N z with
  | false =>
    rw [he] at K1 HCC HCN
    simp only [Bool.false_eq_true, if_false] at HCC HCN
    rw [HCC.out, HCN.out]
    go_enter Try.func27, Try.ntmps27
    go_wp2_with fail
    refine KN.out.mono ?_
    rintro e w' ⟨rfl, rfl⟩
    go_wp2_with fail
    refine K1.out.mono ?_
    rintro e w' ⟨rfl, rfl⟩
    go_wp2_with fail
    go_ret
    exact ⟨rfl, H.out, Chg.refl _ _⟩
  | true =>
    rw [he] at K1 HCC HCN
    simp only [if_true] at HCC HCN
    rw [HCC.out, HCN.out]
    have hez := (endB_iff N z).1 he
    obtain ⟨m, rfl⟩ : ∃ m : Nat, z = (m : Int) := ⟨z.toNat, by omega⟩
    simp only [Int.toNat_natCast]
    have hok := H.out.1
    have h5 := hok.e5
    have HKL := Lib.hid (clearK_le hok m)
    have HMEM : Hid (∀ k, k < N.ends → (k + 1, m) ∈ linesOf N.ends) := Lib.hid (fun k hk => (mem_linesOf _ _).2 ⟨⟨by show 1 ≤ k + 1; omega, by show k + 1 ≤ _; omega⟩, by show 1 ≤ m; omega, by show m ≤ _; omega⟩)
    have HSK : Hid (∀ k, clearK N.L m (k + 1) = clearK N.L m k + (N.L (k + 1, m)).length) := Lib.hid (fun k => rfl)
    clear HCC HCN
    go_enter Try.func27, Try.ntmps27
    go_wp2_with fail
    refine KN.out.mono ?_
    rintro e w' ⟨rfl, rfl⟩
    go_wp2_with fail
    refine K1.out.mono ?_
    rintro e w' ⟨rfl, rfl⟩
    go_wp2_with fail
    go_loopw [5, 6] (fun c i wr => ∃ k : Nat, k ≤ N.ends ∧ c = .int .i64 (clearK N.L m k : Int) ∧ i = .int .i64 ((k + 1 : Nat) : Int) ∧ NetAt wr S g nb { N with L := clearL N.L m k } ∧ Chg S w wr) (fun _ i _ => N.ends + 1 - (intOf i).toNat)
    case atStart => exact ⟨0, Nat.zero_le _, rfl, rfl, by rw [clearL_zero]; exact H.out, Chg.refl _ _⟩
    case round =>
      obtain ⟨k, hk, rfl, rfl, hN, hC⟩ := hrel
      have HN := Lib.hid hN
      have HC := Lib.hid hC
      clear hN hC KN K1
      obtain ⟨h0, hlo, gm, F, cc, hb, hm, hln, hs1, hs2, hkk⟩ := HN.out
      have hce : wr.cell? ⟨g, 0, none⟩ = some (.int .i64 (N.ends : Int)) := by rw [hb.cell]; rfl
      have hcm : wr.cell? ⟨g, 1, none⟩ = some (.map (some gm)) := by rw [hb.cell]; rfl
      by_cases hlt : k < N.ends
      · have hd : decide (((k + 1 : Nat) : Int) ≤ (N.ends : Int)) = true := decide_eq_true (by omega)
        have hp := HMEM.out k hlt
        obtain ⟨i1, i2, i3, i4, i5⟩ := lines_small hok hp
        have KL := Lib.hid (Line_net HN.out i1 i2)
        have hln2 : lineN { N with L := clearL N.L m k } (((k + 1, m) : Nat × Nat).1 : Int) (((k + 1, m) : Nat × Nat).2 : Int) = (N.L (k + 1, m)).length := by
          have e1 : endB { N with L := clearL N.L m k } (((k + 1, m) : Nat × Nat).1 : Int) = true := i3
          have e2 : endB { N with L := clearL N.L m k } (((k + 1, m) : Nat × Nat).2 : Int) = true := i4
          unfold lineN
          rw [e1, e2, i5]
          show (clearL N.L m k (k + 1, m)).length = _
          rw [clearL_ahead]
        rw [hln2] at KL
        have hkey := key_pair i1 i2
        rw [show (((k + 1, m) : Nat × Nat).1 : Int) = (k : Int) + 1 from rfl, show (((k + 1, m) : Nat × Nat).2 : Int) = (m : Int) from rfl] at KL hkey
        have hfull := hok.full (k + 1, m)
        have hckl := HKL.out k
        have HSUM := Lib.hid (HSK.out k)
        have HM := Lib.hid hm
        have HLN := Lib.hid hln
        have HB := Lib.hid hb
        have HKK := Lib.hid hkk
        clear hm hln hb hkk hln2 i1 i2 i3 i4 i5
        generalize (N.L (k + 1, m)).length = ln at *
        generalize clearK N.L m k = ck at *
        go_wp2_with fail
        refine KL.out.mono ?_
        rintro e w' ⟨rfl, rfl⟩
        go_wp2_with (refine wpList_delete_mp HM.out Try.pairKeys Try.underlying73 rfl _ _ rfl rfl rfl hkey ?_; intro w8 c8 hM8 hc8 hG8)
        have hgm : g ≠ gm := fun e => by
          obtain ⟨es, cl, he⟩ := HM.out.map
          have hb := HB.out
          rw [← e] at he
          unfold Blk at hb
          rw [hb] at he
          cases he
        have hnb : ∀ j t cur, j = gm → ¬ Blk wr j t cur := fun j t cur e hx => by
          obtain ⟨es, cl, he⟩ := HM.out.map
          rw [← e] at he
          unfold Blk at hx
          rw [hx] at he
          cases he
        have hC8 : Chg (fun j => j = gm) wr w8 := Chg.of_grown hG8 (fun j e => by cases e; rfl)
        have hl8 := HLN.out.dropped h0 hp hC8 (fun j cur e => hnb j _ cur e) (fun j cur hx e => hnb j _ cur e hx)
        refine ⟨⟨k + 1, by omega, by rw [HSUM.out]; go_num, by go_num, ?_, HC.out.trans hC8 (fun j e => .inl (by rw [e]; exact hs2))⟩, by simp [intOf]; omega⟩
        rw [clearL_succ]
        refine ⟨okN_set (N := { N with L := clearL N.L m k }) h0 (fun x hx => by simp at hx) (by simp), hlo, gm, _, _, HB.out.grown hG8 (by simpa using hgm), hM8, hl8, hs1, hs2, fun j hj => ?_⟩
        rcases HKK.out j hj with h3 | h3 | ⟨c, h3⟩
        · exact .inl h3
        · exact .inr (.inl h3)
        · by_cases e1 : j = gm
          · exact .inr (.inl e1)
          · exact .inr (.inr ⟨c, h3.grown hG8 (by simpa using e1)⟩)
      · obtain rfl : k = N.ends := by omega
        have hd : decide (((N.ends + 1 : Nat) : Int) ≤ (N.ends : Int)) = false := decide_eq_false (by omega)
        clear hb hm hln hkk
        go_wp2_with fail
        go_ret
        exact ⟨rfl, HN.out, HC.out⟩

end Go.Proofs.Ytahooohokdbnpaa
