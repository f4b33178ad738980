
/-
  Contract of law04.flights.
-/
import Derived.Test.YtahooohokdbnpaaNetL
set_option linter.unusedVariables false
set_option linter.unusedSimpArgs false
namespace Go.Proofs.Ytahooohokdbnpaa
open Go.RowKit Go.Shelf Go.Maps Pl

attribute [local go_sem] Oper.semAt_some

theorem Own.keptB {e : TypeId} {w w' : World} {B : Nat} {v : Value} {l : List UInt8} (h : Own e w B v l) (hk : ∀ k cur, Blk w k e cur → Blk w' k e cur) : Own e w' B v l := by
  obtain ⟨h1, h2⟩ := h
  refine ⟨h1, ?_⟩
  rcases h2 with h2 | ⟨g, cap, cur, rfl, hb, hh, r⟩
  · exact .inl h2
  · exact .inr ⟨g, cap, cur, rfl, hb, hk g cur hh, r⟩
/-- flights whose bytes the call itself has made -/
def FlOwn (w : World) (B : Nat) (cs : List Value) (fs : List Fl) : Prop :=
  cs.length = 3 * fs.length ∧ ∀ i, i < fs.length → ∃ vb, cs[3 * i]? = some (.int .i64 ((fs.getD i fl0).from_ : Int)) ∧ cs[3 * i + 1]? = some (.int .i64 ((fs.getD i fl0).to_ : Int)) ∧ cs[3 * i + 2]? = some vb ∧ Own 5 w B vb (fs.getD i fl0).b
theorem FlOwn.nil (w : World) (B : Nat) : FlOwn w B [] [] := ⟨rfl, fun i hi => by simp at hi⟩
theorem FlOwn.cells {w : World} {B : Nat} {cs : List Value} {fs : List Fl} (h : FlOwn w B cs fs) : FlCells w cs fs := by
  obtain ⟨h1, h2⟩ := h
  refine ⟨h1, fun i hi => ?_⟩
  obtain ⟨vb, a, b, c, d⟩ := h2 i hi
  exact ⟨vb, a, b, c, Bs.of_own d⟩
theorem FlOwn.kept {w0 w1 : World} {B : Nat} {cs : List Value} {fs : List Fl} (h : FlOwn w0 B cs fs) (hk : ∀ k cur, Blk w0 k 5 cur → Blk w1 k 5 cur) : FlOwn w1 B cs fs := by
  obtain ⟨h1, h2⟩ := h
  refine ⟨h1, fun i hi => ?_⟩
  obtain ⟨vb, a, b, c, d⟩ := h2 i hi
  exact ⟨vb, a, b, c, d.keptB hk⟩
theorem FlOwn.snoc {w : World} {B : Nat} {cs : List Value} {fs : List Fl} (h : FlOwn w B cs fs) (f : Fl) {vb : Value} (hb : Own 5 w B vb f.b) : FlOwn w B (cs ++ [.int .i64 (f.from_ : Int), .int .i64 (f.to_ : Int), vb]) (fs ++ [f]) := by
  obtain ⟨h1, h2⟩ := h
  refine ⟨by rw [List.length_append, List.length_append, h1]; simp; omega, fun i hi => ?_⟩
  rw [List.length_append] at hi
  simp only [List.length_cons, List.length_nil] at hi
  by_cases hin : i < fs.length
  · rw [getD_app_l _ _ _ _ hin, List.getElem?_append_left (by omega), List.getElem?_append_left (by omega), List.getElem?_append_left (by omega)]
    exact h2 i hin
  · obtain rfl : i = fs.length := by omega
    rw [getD_app_at _ _ _ rfl, List.getElem?_append_right (by omega), List.getElem?_append_right (by omega), List.getElem?_append_right (by omega), h1]
    refine ⟨vb, ?_, ?_, ?_, hb⟩
    · rw [Nat.sub_self]; rfl
    · rw [show 3 * fs.length + 1 - 3 * fs.length = 1 by omega]; rfl
    · rw [show 3 * fs.length + 2 - 3 * fs.length = 2 by omega]; rfl
theorem row_firm {A B : World} {N : Nat} {e : TypeId} {sz n : Nat} {v : Value} {xs : List Value} {row : Option Nat} (h : A.ownsRow N e sz v n xs) (hg : A.grownBy B row) (hr : ∀ r, row = some r → ∃ o : Obj, A.heap[r]? = some o ∧ o.isCells = false) : B.ownsRow N e sz v n xs := by
  obtain ⟨h2, h3⟩ := h
  refine ⟨h2, ?_⟩
  rcases h3 with h3 | ⟨g, cap, cur, rfl, hb, hh, r⟩
  · exact .inl h3
  · exact .inr ⟨g, cap, cur, rfl, hb, Blk.firm (t := e) hh hg hr, r⟩
theorem results_cells2 {P : Program} {fn : Func} {p q : Tmp} {ty tz : TypeId} (h : fn.results = #[.cell p ty, .cell q tz]) (tmps : Array Value) (w : World) (a b : Addr) (u v : Value)
    (hp : tmps.getD p undef = .pointer (some a)) (hq : tmps.getD q undef = .pointer (some b)) (hu : (loadVar ty a).run P w = .ok u w) (hv : (loadVar tz b).run P w = .ok v w) :
    (results fn tmps).run P w = .ok (.tuple #[u, v]) w := by
  have hp' : tmps[p]?.getD undef = .pointer (some a) := by simpa using hp
  have hq' : tmps[q]?.getD undef = .pointer (some b) := by simpa using hq
  simp [results, h, hp', hq', asAddr, hu, hv]
theorem take_snoc (fs : List Fl) {s : Nat} (hs : s < fs.length) : fs.take (s + 1) = fs.take s ++ [fs.getD s fl0] := by
  rw [List.take_succ_eq_append_getElem hs]
  simp [List.getD_eq_getElem?_getD, hs]

theorem load_flights {w : World} {p : Addr} {A : Option Addr} {n c : Nat} (h : w.cell? p = some (.slice A n c)) : (loadVar 41 p).run Try.prog w = .ok (.slice A n c) w := by
  simp [go_sem, h]
theorem load_yes {w : World} {p : Addr} {b : Bool} (h : w.cell? p = some (.bool b)) : (loadVar 4 p).run Try.prog w = .ok (.bool b) w := by
  simp [go_sem, h]
theorem set_far {w : World} {p : Addr} {u : Value} {k : Nat} {o : Obj} (h : k ≠ p.block) (hk : w.heap[k]? = some o) : (w.setCell p u).heap[k]? = some o :=
  ((grown_set w p u).block k (Array.getElem?_eq_some_iff.1 hk).1 (fun e => h (by simpa using e))).trans hk
/-- what All tells -/
def AllPost (fs : List Fl) (w : World) (e : Ending) (w' : World) : Prop :=
  ∃ ga gl v cs, e = .returned (allV ga) ∧ FlCells w cs fs ∧ alC w ga gl v cs fs w' ∧ w.heap.size ≤ gl ∧ w.heap.size ≤ ga ∧ (∀ k, v.ownBlock = some k → w.heap.size ≤ k) ∧ Ext w w'
set_option maxHeartbeats 4000000 in
set_option maxRecDepth 100000 in
theorem flights_of {w : World} {p : Value} {fs : List Fl} (hA : ∀ W, Ext w W → Calls Try.prog 36 #[p] W (AllPost fs W)) (hl : fs.length ≤ 1000000) (hbig : ∀ f ∈ fs, f.b.length ≤ 1048576) (most : Int) (hm : I64 most) :
    Calls Try.prog 16 #[p, .int .i64 most] w fun e w' => ∃ v cs, e = .returned (.tuple #[v, .bool true]) ∧ w'.ownsRow w.heap.size 45 3 v (upTo fs most).length cs ∧ FlOwn w' w.heap.size cs (upTo fs most) ∧ Ext w w' := by
  have KA := Lib.hid hA
  have HL := Lib.hid hl
  have HBIG := Lib.hid hbig
  clear hA hbig
  have HE1 := Lib.hid ((((ext_new w (.cells #[.int .i64 most] 3)).alloc (.cells #[.slice none 0 0] 41)).alloc (.cells #[.bool false] 4)).alloc (.cells #[.slice none 0 0] 41))
  refine callsIn_wide.1 (callsIn_of_wp_marks (n := 3) Try.func16 rfl trivial (wpIn_wide.2 (wp_quiet ?_)) rfl)
  simp only [Try.ntmps16, List.size_toArray, List.length_cons, List.length_nil, Nat.reduceAdd, Nat.reduceSub, Array.replicate_succ, Array.replicate_zero, List.push_toArray, List.append_toArray, List.nil_append, List.cons_append]
  have HB0 := Lib.hid (((((Blk.new w 3 #[.int .i64 most]).alloc (.cells #[.slice none 0 0] 41)).alloc (.cells #[.bool false] 4)).alloc (.cells #[.slice none 0 0] 41)))
  have HB1 := Lib.hid (((Blk.new (w.alloc (.cells #[.int .i64 most] 3)) 41 #[.slice none 0 0]).alloc (.cells #[.bool false] 4)).alloc (.cells #[.slice none 0 0] 41))
  have HB2 := Lib.hid ((Blk.new ((w.alloc (.cells #[.int .i64 most] 3)).alloc (.cells #[.slice none 0 0] 41)) 4 #[.bool false]).alloc (.cells #[.slice none 0 0] 41))
  have HB3 := Lib.hid (Blk.new (((w.alloc (.cells #[.int .i64 most] 3)).alloc (.cells #[.slice none 0 0] 41)).alloc (.cells #[.bool false] 4)) 41 #[.slice none 0 0])
  simp only [World.size_alloc] at HB1 HB2 HB3
  have hsz : ((((w.alloc (.cells #[.int .i64 most] 3)).alloc (.cells #[.slice none 0 0] 41)).alloc (.cells #[.bool false] 4)).alloc (.cells #[.slice none 0 0] 41)).heap.size = w.heap.size + 4 := by simp
  go_wp2_with fail
  generalize ((((w.alloc (.cells #[.int .i64 most] 3)).alloc (.cells #[.slice none 0 0] 41)).alloc (.cells #[.bool false] 4)).alloc (.cells #[.slice none 0 0] 41)) = w1 at *
  refine (KA.out w1 HE1.out).mono ?_
  rintro e w4 ⟨ga, gl, v, cs, rfl, hfc, hac, hgl, hga, hvo, hE4⟩
  have HFC := Lib.hid hfc
  have HAC := Lib.hid hac
  have HE4 := Lib.hid (HE1.out.trans hE4)
  have HA0 := Lib.hid (HB0.out.ext hE4)
  have HA1 := Lib.hid (HB1.out.ext hE4)
  have HA2 := Lib.hid (HB2.out.ext hE4)
  have HA3 := Lib.hid (HB3.out.ext hE4)
  have hs4 := hE4.size
  have HNG : Hid (¬ alG w1 ga gl v (w.heap.size + 1 + 1 + 1)) := Lib.hid (fun h => by
    rcases h with h | h | h | ⟨cur, h⟩
    · omega
    · omega
    · have := hvo _ h; omega
    · exact absurd (HB3.out.type h).1 (by decide))
  have HNIL := fun W => nil_closure 68 (by kernel_rfl) 51 #[.pointer (some ⟨ga, 0, none⟩)] W
  clear hfc hac hE4 HB0 HB1 HB2 HB3 hvo
  unfold allV
  go_wp2_with fail
  refine wp_rangeBox2 (σ := Nat) 3 (by omega) (gf := 51) (lb := #[.pointer (some ⟨ga, 0, none⟩)]) rfl (enters_of Try.func51 (by kernel_rfl) rfl) (all_seq w1 ga gl v cs fs HFC.out HL.out (fun W h => alG_lt h) HBIG.out 2 (by omega))
    (fun W' hg => ⟨HAC.out.1.grown hg (by simp), HAC.out.2.keep (fun k hk _ => hg.block k hk (by simp))⟩) (alG_lt HAC.out) (fun N s args s' A hx => by obtain ⟨_, _, _, vb, rfl, _⟩ := hx; rfl) (fun N' s args s' => alX_firm _ N' s args s')
    (fun s A => s ≤ fs.length ∧ (1 ≤ most → (s : Int) < most) ∧ Blk A w.heap.size 3 #[.int .i64 most] ∧ Blk A (w.heap.size + 1) 41 #[.slice none 0 0] ∧ Blk A (w.heap.size + 1 + 1) 4 #[.bool false] ∧
      (∃ v' cs', Blk A (w.heap.size + 1 + 1 + 1) 41 #[v'] ∧ A.ownsRow (w4.heap.size + 3) 45 3 v' s cs' ∧ FlOwn A w.heap.size cs' (fs.take s)) ∧ Ext w A)
    (fun c s A => c = .ret ∧ s ≤ fs.length ∧ 1 ≤ most ∧ (s : Int) = most ∧ Blk A (w.heap.size + 1 + 1) 4 #[.bool true] ∧
      (∃ v' cs', Blk A (w.heap.size + 1) 41 #[v'] ∧ A.ownsRow (w4.heap.size + 3) 45 3 v' s cs' ∧ FlOwn A w.heap.size cs' (fs.take s)) ∧ Ext w A)
    (fun s A B row h hg hr => by
      obtain ⟨h1, h2, h3, h4, h5, ⟨v', cs', h6, h7, h8⟩, h9⟩ := h
      have hf : ∀ r, row = some r → ∃ o : Obj, A.heap[r]? = some o ∧ o.isCells = false := fun r e => (hr r e).2
      exact ⟨h1, h2, h3.firm hg hf, h4.firm hg hf, h5.firm hg hf, ⟨v', cs', h6.firm hg hf, row_firm h7 hg hf, h8.kept (fun k cur hb => hb.firm hg hf)⟩, h9.grown hg (fun k e => by have := (hr k e).1; have := HE4.out.size; omega)⟩)
    (fun c s A B row h hg hr => by
      obtain ⟨h0, h1, h2, h3, h5, ⟨v', cs', h6, h7, h8⟩, h9⟩ := h
      have hf : ∀ r, row = some r → ∃ o : Obj, A.heap[r]? = some o ∧ o.isCells = false := fun r e => (hr r e).2
      exact ⟨h0, h1, h2, h3, h5.firm hg hf, ⟨v', cs', h6.firm hg hf, row_firm h7 hg hf, h8.kept (fun k cur hb => hb.firm hg hf)⟩, h9.grown hg (fun k e => by have := (hr k e).1; have := HE4.out.size; omega)⟩)
    ⟨Nat.zero_le _, fun h => by show ((0 : Nat) : Int) < most; omega, HA0.out, HA1.out, HA2.out, ⟨_, [], HA3.out, World.ownsRow_nil _ _ _ _, FlOwn.nil _ _⟩, HE4.out⟩ 45
    (fun args gx T => ((((T.setIfInBounds 15 (args.getD 0 undef)).setIfInBounds 16 (args.getD 1 undef)).setIfInBounds 8 (args.getD 0 undef)).setIfInBounds 9 (.pointer (some ⟨gx, 0, none⟩)))) ?assign ?body ?done ?stop
  case assign =>
    rintro l2 s args s' A K ⟨hsl, _, _, vb, rfl, hb⟩ hK
    obtain ⟨Ab, cb, rfl, _⟩ := hb.form
    generalize fs.getD s fl0 = f at *
    have hx := hK A.heap.size _ (Blk.new A 45 _) (Nat.le_refl _) (World.grownBy_alloc A _ none)
    clear hsl
    gi_wp2_with fail
    exact hx
  case body =>
    rintro l2 s args s' gx A Wb ⟨hsl, hms, hb0, hb1, hb2, ⟨v', cs', hb3, hrow, hown⟩, hEA⟩ hgA hl2 ⟨hsl2, rfl, hN, vb, rfl, hb⟩ hgx hgxA
    have hgx0 : Blk Wb gx 45 #[.int .i64 ((fs.getD s fl0).from_ : Int), .int .i64 ((fs.getD s fl0).to_ : Int), vb] := hgx
    simp only [Array.getD_eq_getD_getElem?, List.getElem?_toArray, List.getElem?_cons_zero, List.getElem?_cons_succ, Option.getD_some, List.setIfInBounds_toArray, List.set_cons_succ, List.set_cons_zero]
    have hf2 : ∀ r, (some l2 : Option Nat) = some r → ∃ o : Obj, A.heap[r]? = some o ∧ o.isCells = false := fun r e => by cases e; exact hl2.2
    have HTK := Lib.hid (take_snoc fs hsl2)
    have hl1 : s ≤ 1000000 := by have := HL.out; omega
    have HSL := Lib.hid hsl2
    have HMS := Lib.hid hms
    have HSN := Lib.hid ((hown.kept (fun k cur h => h.firm hgA hf2)).snoc (fs.getD s fl0) (hb.down (by have := HE4.out.size; omega)))
    rw [← HTK.out] at HSN
    have HB0 := Lib.hid (hb0.firm hgA hf2)
    have HB1 := Lib.hid (hb1.firm hgA hf2)
    have HB2 := Lib.hid (hb2.firm hgA hf2)
    have HB3 := Lib.hid (hb3.firm hgA hf2)
    have HRW := Lib.hid (row_firm hrow hgA hf2)
    have HEb := Lib.hid (hEA.grown hgA (fun k e => by cases e; have := hl2.1; have := HE4.out.size; omega))
    have HN := Lib.hid hN
    have HG := Lib.hid (alG_lt HAC.out)
    have HLT := Lib.hid (World.ownsRow.lt HRW.out)
    obtain ⟨Ab, cb, rfl, _⟩ := hb.form
    obtain ⟨Av, cv, rfl⟩ := row_form hrow
    have c3 := cell1 HB3.out
    have f3 := HB3.out.frozen 0
    have c0 := cell1 HB0.out
    obtain ⟨c90, c91, c92⟩ := cell3 hgx0
    have h4le : w.heap.size + 4 ≤ w4.heap.size := by omega
    have hbl3 := HB3.out.lt
    have hNG := HNG.out
    clear hms hb0 hb1 hb2 hb3 hrow hown hEA hb hgx hsl2 hsl
    generalize (fs.getD s fl0).b = fb at *
    generalize (fs.getD s fl0).from_ = ffa at *
    generalize (fs.getD s fl0).to_ = fft at *
    have HIN := Lib.hid (info_parts Try.infoFl)
    have HOW := Lib.hid (World.ownsRow.alloc HRW.out (.cells #[.int .i64 (ffa : Int), .int .i64 (fft : Int), .slice Ab fb.length cb] 45))
    have HNW := Lib.hid (blk_news3 (Blk.new Wb 45 #[.int .i64 (ffa : Int), .int .i64 (fft : Int), .slice Ab fb.length cb]))
    have HA := Lib.hid (ext_new Wb (.cells #[.int .i64 (ffa : Int), .int .i64 (fft : Int), .slice Ab fb.length cb] 45))
    have HVN : Hid (∀ (b : Nat), b < w4.heap.size → Value.ownBlock (.slice Av s cv) ≠ some b) := Lib.hid (fun b hb e => by have := (HLT.out b e).1; omega)
    -- what holds behind the append and the store
    have HST : Hid (∀ v4 w5, w5.ownsRow (w4.heap.size + 3) 45 3 v4 (s + 1) (cs' ++ [.int .i64 (ffa : Int), .int .i64 (fft : Int), .slice Ab fb.length cb]) →
        (Wb.alloc (.cells #[.int .i64 (ffa : Int), .int .i64 (fft : Int), .slice Ab fb.length cb] 45)).grownBy w5 (Value.ownBlock (.slice Av s cv)) → 
        Blk w5 (w.heap.size + 1 + 1 + 1) 41 #[.slice Av s cv] ∧ Blk (w5.setCell ⟨w.heap.size + 1 + 1 + 1, 0, none⟩ v4) (w.heap.size + 1 + 1 + 1) 41 #[v4] ∧ Blk (w5.setCell ⟨w.heap.size + 1 + 1 + 1, 0, none⟩ v4) w.heap.size 3 #[.int .i64 most] ∧
        Blk (w5.setCell ⟨w.heap.size + 1 + 1 + 1, 0, none⟩ v4) (w.heap.size + 1) 41 #[.slice none 0 0] ∧ Blk (w5.setCell ⟨w.heap.size + 1 + 1 + 1, 0, none⟩ v4) (w.heap.size + 1 + 1) 4 #[.bool false] ∧
        (w5.setCell ⟨w.heap.size + 1 + 1 + 1, 0, none⟩ v4).ownsRow (w4.heap.size + 3) 45 3 v4 (s + 1) (cs' ++ [.int .i64 (ffa : Int), .int .i64 (fft : Int), .slice Ab fb.length cb]) ∧
        KK w4.heap.size (alG w1 ga gl v) (w4.heap.size + 2) 1 5 Wb (w5.setCell ⟨w.heap.size + 1 + 1 + 1, 0, none⟩ v4) ∧ Ext w (w5.setCell ⟨w.heap.size + 1 + 1 + 1, 0, none⟩ v4)) := Lib.hid (fun v4 w5 ho hg => by
      have k0 := (KK.refl w4.heap.size (alG w1 ga gl v) (w4.heap.size + 2) 1 5 Wb)
      have k1 := k0.stepO (World.grownBy_alloc Wb (.cells #[.int .i64 (ffa : Int), .int .i64 (fft : Int), .slice Ab fb.length cb] 45) none) (fun r e => by cases e)
      have k2 := k1.stepO hg (fun k e => ⟨⟨45, (by
        obtain ⟨_, h3⟩ := HOW.out
        rcases h3 with ⟨h3, _⟩ | ⟨g', cap, cur, h3, _, hh, _⟩
        · rw [h3] at e; cases e
        · rw [h3] at e; cases e; exact ⟨cur, hh, by decide⟩)⟩, fun hG => by have := HG.out k hG; have := (HLT.out k e).1; omega, .inr (by have := (HLT.out k e).1; omega)⟩)
      have b3 := (HB3.out.ext HA.out).grown hg (fun e => HVN.out _ (by omega) e.symm)
      have b0 := (HB0.out.ext HA.out).grown hg (fun e => HVN.out _ (by omega) e.symm)
      have b1 := (HB1.out.ext HA.out).grown hg (fun e => HVN.out _ (by omega) e.symm)
      have b2 := (HB2.out.ext HA.out).grown hg (fun e => HVN.out _ (by omega) e.symm)
      have g6 := grown_set w5 ⟨w.heap.size + 1 + 1 + 1, 0, none⟩ v4
      have k3 := k2.step g6 b3 hNG (.inl (by show w.heap.size + 1 + 1 + 1 < _; omega)) (by decide)
      refine ⟨b3, b3.set 0 v4, b0.grown g6 (by first | (simp; omega) | simp), b1.grown g6 (by first | (simp; omega) | simp), b2.grown g6 (by first | (simp; omega) | simp), World.ownsRow.kept ho g6 (.inr (fun e => by
        have h9 := (World.ownsRow.lt ho _ e).1
        have h8 : w4.heap.size + 3 ≤ w.heap.size + 1 + 1 + 1 := h9
        omega)), k3, ((HEb.out.trans HA.out).grown hg (fun k e => by have := (HLT.out k e).1; omega)).setCell (by show _ ≤ w.heap.size + 1 + 1 + 1; omega) v4⟩)
    obtain ⟨i0, hi, hz0, hz1, hz2⟩ := HIN.out
    by_cases hq : (s : Int) + 1 = most
    · have hqd : ((s : Int) + 1 == most) = true := by rw [beq_iff_eq]; exact hq
      have HQ := Lib.hid hq
      clear hq
      gi_wp2_with (gi_at_builtin; refine wpListIn_append_own_at _ rfl _ _ _ rfl (w4.heap.size + 3) 45 i0 (.agg #[.int .i64 0, .int .i64 0, .slice none 0 0]) 3 40 Try.underlying41 hi hz0 hz1 hz2 rfl (by omega) _ s cs' rfl HOW.out ⟨Wb.heap.size, 0, none⟩ 1 1 [.int .i64 (ffa : Int), .int .i64 (fft : Int), .slice Ab fb.length cb] rfl rfl HNW.out (by intro u hu; simp at hu; rcases hu with rfl | rfl | rfl <;> rfl) (by unfold maxLen; omega) (by omega) (by have := HN.out; simp; omega) ?_; intro v4 w5 hown4 hG4 hnil4 hat4; obtain ⟨A4, c4, rfl⟩ := row_form hown4; have HF := Lib.hid (HST.out _ _ hown4 hG4); have hc4 := cell1 HF.out.1; have hf4 := HF.out.1.frozen 0; have hc5 := cell1 HF.out.2.1; have hc6 := cell1 HF.out.2.2.1; have hc7 := cell1 HF.out.2.2.2.1; have hf7 := HF.out.2.2.2.1.frozen 0; have HB7 := HF.out.2.2.2.2.1.grown (grown_set _ ⟨w.heap.size + 1, 0, none⟩ (.slice A4 (s + 1) c4)) (by simp); have hc8 := cell1 HB7; have hf8 := HB7.frozen 0; clear hown4 hG4 hnil4 hat4)
      obtain ⟨_, b3, b0, b1, b2, hr, hk, hE⟩ := HF.out
      have g7 := grown_set ((w5.setCell ⟨w.heap.size + 1 + 1 + 1, 0, none⟩ (.slice A4 (s + 1) c4))) ⟨w.heap.size + 1, 0, none⟩ (.slice A4 (s + 1) c4)
      have g8 := grown_set (((w5.setCell ⟨w.heap.size + 1 + 1 + 1, 0, none⟩ (.slice A4 (s + 1) c4))).setCell ⟨w.heap.size + 1, 0, none⟩ (.slice A4 (s + 1) c4)) ⟨w.heap.size + 1 + 1, 0, none⟩ (.bool true)
      have k7 := hk.1.trans ((KeepsFrom.cells g7 b1).trans (KeepsFrom.cells g8 HB7))
      refine ⟨k7, rfl, HSL.out, by have := HQ.out; omega, by have := HQ.out; go_num, HB7.set 0 (.bool true), ⟨_, _, (b1.set 0 (.slice A4 (s + 1) c4)).grown g8 (by simp), World.ownsRow.kept (World.ownsRow.kept hr g7 (.inr (fun e => ?_))) g8 (.inr (fun e => ?_)), HSN.out.kept (fun k cur hb => ?_)⟩, (hE.setCell (by show _ ≤ w.heap.size + 1; omega) _).setCell (by show _ ≤ w.heap.size + 1 + 1; omega) _⟩
      · have h9 := (World.ownsRow.lt hr _ e).1
        have h8 : w4.heap.size + 3 ≤ w.heap.size + 1 := h9
        omega
      · have h9 := (World.ownsRow.lt hr _ e).1
        have h8 : w4.heap.size + 3 ≤ w.heap.size + 1 + 1 := h9
        omega
      · have hb6 := hk.2.2 k cur hb
        exact (hb6.grown g7 (fun e => by cases e; exact absurd (hb6.type b1).1 (by decide))).grown g8 (fun e => by cases e; exact absurd (hb6.type b2).1 (by decide))
    · have hqd : ((s : Int) + 1 == most) = false := by rw [beq_eq_false_iff_ne]; exact hq
      have HQ := Lib.hid hq
      clear hq
      gi_wp2_with (gi_at_builtin; refine wpListIn_append_own_at _ rfl _ _ _ rfl (w4.heap.size + 3) 45 i0 (.agg #[.int .i64 0, .int .i64 0, .slice none 0 0]) 3 40 Try.underlying41 hi hz0 hz1 hz2 rfl (by omega) _ s cs' rfl HOW.out ⟨Wb.heap.size, 0, none⟩ 1 1 [.int .i64 (ffa : Int), .int .i64 (fft : Int), .slice Ab fb.length cb] rfl rfl HNW.out (by intro u hu; simp at hu; rcases hu with rfl | rfl | rfl <;> rfl) (by unfold maxLen; omega) (by omega) (by have := HN.out; simp; omega) ?_; intro v4 w5 hown4 hG4 hnil4 hat4; obtain ⟨A4, c4, rfl⟩ := row_form hown4; have HF := Lib.hid (HST.out _ _ hown4 hG4); have hc4 := cell1 HF.out.1; have hf4 := HF.out.1.frozen 0; have hc5 := cell1 HF.out.2.1; have hc6 := cell1 HF.out.2.2.1; clear hown4 hG4 hnil4 hat4)
      obtain ⟨_, b3, b0, b1, b2, hr, hk, hE⟩ := HF.out
      refine ⟨hk.1, ⟨hk.2.1.1, fun k _ hk1 hor => hk.2.1.2 k hk1 hor⟩, HSL.out, fun h1 => by have := HQ.out; have := HMS.out h1; omega, b0, b1, b2, ⟨_, _, b3, hr, HSN.out.kept hk.2.2⟩, hE⟩
  case done =>
    rintro D s A hD rfl ⟨hsl, hms, hb0, hb1, hb2, ⟨v', cs', hb3, hrow, hown⟩, hEA⟩ hK
    obtain ⟨Av, cv, rfl⟩ := row_form hrow
    have c3 := cell1 hb3
    have c1 := cell1 hb1
    have f1 := hb1.frozen 0
    have hb2' := hb2.grown (grown_set A ⟨w.heap.size + 1, 0, none⟩ (.slice Av fs.length cv)) (by simp)
    have c2 := cell1 hb2'
    have f2 := hb2'.frozen 0
    have hup : upTo fs most = fs := by
      unfold upTo
      rw [if_neg (fun h => by have := hms h.1; omega)]
    have HUP := Lib.hid hup
    have HB1 := Lib.hid hb1
    have HB2 := Lib.hid hb2
    have HB2' := Lib.hid hb2'
    have HR := Lib.hid hrow
    have HO := Lib.hid hown
    have HE := Lib.hid hEA
    have HK := Lib.hid hK
    clear hb0 hb1 hb2 hb3 hb2' hrow hown hEA hK hms hsl hup
    go_wp2_with fail
    have g1 := grown_set A ⟨w.heap.size + 1, 0, none⟩ (.slice Av fs.length cv)
    have g2 := grown_set (A.setCell ⟨w.heap.size + 1, 0, none⟩ (.slice Av fs.length cv)) ⟨w.heap.size + 1 + 1, 0, none⟩ (.bool true)
    have b1 := (HB1.out.set 0 (.slice Av fs.length cv)).grown g2 (by simp)
    have b2 := HB2'.out.set 0 (.bool true)
    have hKs : ((A.setCell ⟨w.heap.size + 1, 0, none⟩ (.slice Av fs.length cv)).setCell ⟨w.heap.size + 1 + 1, 0, none⟩ (.bool true)).heap[D]? = some (.deferred (some [])) :=
      set_far (by show D ≠ w.heap.size + 1 + 1; omega) (set_far (by show D ≠ w.heap.size + 1; omega) HK.out)
    refine postM_mark hKs (results_cells2 Try.results16 _ _ ⟨w.heap.size + 1, 0, none⟩ ⟨w.heap.size + 1 + 1, 0, none⟩ (.slice Av fs.length cv) (.bool true) rfl rfl (load_flights (cell1 (b1.mark hKs))) (load_yes (cell1 (b2.mark hKs)))) ?_
    rw [HUP.out]
    have HO' := HO.out
    rw [List.take_length] at HO'
    have r2 := World.ownsRow.kept (World.ownsRow.kept HR.out g1 (.inr (fun e => by
      have h9 := (World.ownsRow.lt HR.out _ e).1
      have h8 : w4.heap.size + 3 ≤ w.heap.size + 1 := h9
      omega))) g2 (.inr (fun e => by
      have h9 := (World.ownsRow.lt HR.out _ e).1
      have h8 : w4.heap.size + 3 ≤ w.heap.size + 1 + 1 := h9
      omega))
    have hfb : ∀ r, some D = some r → ∃ o : Obj, ((A.setCell ⟨w.heap.size + 1, 0, none⟩ (.slice Av fs.length cv)).setCell ⟨w.heap.size + 1 + 1, 0, none⟩ (.bool true)).heap[r]? = some o ∧ o.isCells = false := fun r e => by cases e; exact ⟨_, hKs, rfl⟩
    refine ⟨_, _, rfl, row_down (row_firm r2 (grownBy_putObj' _ D _) hfb) (by omega), HO'.kept (fun k cur hb => ?_), ((HE.out.setCell (by show _ ≤ w.heap.size + 1; omega) _).setCell (by show _ ≤ w.heap.size + 1 + 1; omega) _).mark (by omega)⟩
    exact ((hb.grown g1 (fun e => by cases e; exact absurd (hb.type HB1.out).1 (by decide))).grown g2 (fun e => by cases e; exact absurd (hb.type HB2.out).1 (by decide))).mark hKs
  case stop =>
    rintro D c s A hD _ ⟨rfl, hs1, hm1, hsm, hb2, ⟨v', cs', hb1, hrow, hown⟩, hEA⟩ hK
    have HB1 := Lib.hid hb1
    have HB2 := Lib.hid hb2
    have HR := Lib.hid hrow
    have HO := Lib.hid hown
    have HE := Lib.hid hEA
    have HK := Lib.hid hK
    clear hb1 hb2 hrow hown hEA hK
    go_wp2_with fail
    obtain ⟨Av, cv, e⟩ := row_form HR.out
    have HB1' := HB1.out
    rw [e] at HB1'
    have hup : upTo fs most = fs.take s := by
      unfold upTo
      rw [if_pos ⟨hm1, by omega⟩, ← hsm, Int.toNat_natCast]
    refine postM_mark HK.out (results_cells2 Try.results16 _ _ ⟨w.heap.size + 1, 0, none⟩ ⟨w.heap.size + 1 + 1, 0, none⟩ (.slice Av s cv) (.bool true) rfl rfl (load_flights (cell1 (HB1'.mark HK.out))) (load_yes (cell1 (HB2.out.mark HK.out)))) ?_
    rw [hup, ← e, List.length_take, Nat.min_eq_left hs1]
    have hfb : ∀ r, some D = some r → ∃ o : Obj, A.heap[r]? = some o ∧ o.isCells = false := fun r e => by cases e; exact ⟨_, HK.out, rfl⟩
    exact ⟨_, _, rfl, row_down (row_firm HR.out (grownBy_putObj' _ D _) hfb) (by omega), HO.out.kept (fun k cur hb => hb.mark HK.out), HE.out.mark (by omega)⟩

theorem flights_law {w : World} {S : Nat → Prop} {g nb : Nat} {N : Nt} (h : NetAt w S g nb N) (most : Int) (hm : I64 most) :
    Calls Try.prog 16 #[.pointer (some ⟨g, 0, none⟩), .int .i64 most] w fun e w' => ∃ v cs, e = .returned (.tuple #[v, .bool true]) ∧ w'.ownsRow w.heap.size 45 3 v (upTo (flN N) most).length cs ∧ FlOwn w' w.heap.size cs (upTo (flN N) most) ∧ Ext w w' :=
  flights_of (fun W hW => All_net (h.ext hW)) (by have := flN_length h.1; omega) (flN_big h.1) most hm

end Go.Proofs.Ytahooohokdbnpaa
