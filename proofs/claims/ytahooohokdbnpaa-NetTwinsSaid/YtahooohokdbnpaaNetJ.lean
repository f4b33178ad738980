
/-
  net.All: an iterator upon the iterator of flights.
-/
import Derived.Test.YtahooohokdbnpaaNetI
import Derived.Laws.EntriesVeiled
set_option linter.unusedVariables false
set_option linter.unusedSimpArgs false
namespace Go.Proofs.Ytahooohokdbnpaa
open Go.RowKit Go.Shelf Go.Maps Pl

attribute [local go_sem] Oper.semAt_some

theorem roundIn_any {n n' : Nat} {P : Program} {l l' : Nat} {f : FuncId} {tmps : Array Value} {assign body : Code} {w : World} {R : Ending → World → Prop} (h : RoundIn Fence.wide n P l f tmps assign body w R) : RoundIn (Fence.wide.inRound l') n' P l f tmps assign body w R :=
  ⟨h.1, fun c cs _ => h.2 c cs (room_wide _)⟩

/-- the rounds of All: each flight with bytes of its own -/
def alX (fs : List Fl) (N s : Nat) (args : Array Value) (s' : Nat) (A : World) : Prop :=
  s < fs.length ∧ s' = s + 1 ∧ N + 1 ≤ A.heap.size ∧ ∃ vb, args = #[.int .i64 (s : Int), .agg #[.int .i64 ((fs.getD s fl0).from_ : Int), .int .i64 ((fs.getD s fl0).to_ : Int), vb]] ∧ Own 5 A N vb (fs.getD s fl0).b
theorem alX_firm (fs : List Fl) (N s : Nat) (args : Array Value) (s' : Nat) : Firm (alX fs N s args s') := by
  rintro A B row ⟨h1, h2, hN, vb, h3, h4⟩ hg hr
  exact ⟨h1, h2, Nat.le_trans hN hg.size, vb, h3, h4.firm hg hr⟩
/-- what the closure of All has caught -/
def alC (w0 : World) (ga gl : Nat) (v : Value) (cs : List Value) (fs : List Fl) (W : World) : Prop := Blk W ga 68 #[flightsV gl] ∧ flC w0 gl v cs fs W
def alG (w0 : World) (ga gl : Nat) (v : Value) (k : Nat) : Prop := k = ga ∨ flG w0 gl v k
theorem flC.firm {w0 A B : World} {gl : Nat} {v : Value} {cs : List Value} {fs : List Fl} {row : Option Nat} (h : flC w0 gl v cs fs A) (hg : A.grownBy B row) (hr : ∀ r, row = some r → ∃ o : Obj, A.heap[r]? = some o ∧ o.isCells = false) : flC w0 gl v cs fs B := by
  obtain ⟨h1, ⟨h2, h3⟩, h4⟩ := h
  refine ⟨h1.firm hg hr, ⟨h2, ?_⟩, fun k cur hb => (h4 k cur hb).firm hg hr⟩
  rcases h3 with h3 | ⟨g, cap, cur, rfl, hb, hh, r⟩
  · exact .inl h3
  · exact .inr ⟨g, cap, cur, rfl, hb, Blk.firm (t := 45) hh hg hr, r⟩

/-- as wp_rangeBox; the body is told of the world ahead of its round -/
theorem wp_rangeBox2 {P : Program} {σ : Type} {g : Operand} {ps : Array Tmp} {assign body : Code} {Q : Exit → Act → World → Prop} {a : Act} {w : World} (n : Nat) (h1 : 1 ≤ n) {gf : Nat} {lb : Array Value} (hg : a.eval g = .func (.func gf) #[] lb)
    (eg : ∀ args w, (callFunc gf args).run P w = .ok (.enter gf args) w) {G : Nat → Prop} {c0 : Nat} {X : Nat → σ → Array Value → σ → World → Prop} {S Sp : σ → Prop} {s0 : σ} {C : World → Prop}
    (hseq : SeqX (n - 1) P gf lb G c0 X S Sp s0 C) (hC : ∀ W, w.grownBy W none → C W) (hG : ∀ k, G k → k < w.heap.size) (hps : ∀ N s args s' A, X N s args s' A → args.size = ps.size) (hX : ∀ N s args s', Firm (X N s args s'))
    (I : σ → World → Prop) (Ix : Code → σ → World → Prop) (hI : OwnFrom w.heap.size I) (hIx : ∀ c, OwnFrom w.heap.size (Ix c)) (h0 : I s0 w) (ty : TypeId) (F : Array Value → Nat → Array Value → Array Value)
    (hassign : ∀ (l : Nat) s args s' (W : World) (K : Act → World → Prop), X (w.heap.size + 2) s args s' W → (∀ gx W', Blk W' gx ty (boxOf args) → W.heap.size ≤ gx → W.grownBy W' none → K { tmps := F args gx a.tmps, defers := [] } W') →
      assign.wpIn (Fence.wide.inRound l) (n - 1 - 1) P (Exit.then K (fun _ _ _ => False)) { tmps := (ps.zip args).foldl (fun t (p, v) => t.setIfInBounds p v) a.tmps, defers := [] } W)
    (hbody : ∀ (l : Nat) s args s' gx (A W : World), I s A → A.grownBy W (some l) → (w.heap.size ≤ l ∧ ∃ o : Obj, A.heap[l]? = some o ∧ o.isCells = false) → X (w.heap.size + 2) s args s' W → Blk W gx ty (boxOf args) → A.heap.size ≤ gx → body.wpIn (Fence.wide.inRound l) (n - 1 - 1) P (postX2 A.heap.size w.heap.size G (w.heap.size + 2) c0 I Ix s' W) { tmps := F args gx a.tmps, defers := [] } W)
    (hdone : ∀ (D : Nat) s (W : World), w.heap.size ≤ D → S s → I s W → W.heap[D]? = some (.deferred (some [])) → Q .normal { a with defers := { target := .collected D, args := #[] } :: a.defers } W)
    (hstop : ∀ (D : Nat) (c : Code) s (W : World), w.heap.size ≤ D → Sp s → Ix c s W → W.heap[D]? = some (.deferred (some [])) → c.wp P Q { a with defers := { target := .collected D, args := #[] } :: a.defers } W) :
    (Code.rangeFunc g ps assign body).wp P Q a w :=
  wp_rangeX2 n h1 hg eg hseq hC hG hps hX I Ix hI hIx h0 (fun A args a' W' => ∃ gx, a' = { tmps := F args gx a.tmps, defers := [] } ∧ Blk W' gx ty (boxOf args) ∧ A.heap.size ≤ gx)
    (fun A args a' X Y row h hg hr => by obtain ⟨gx, e, hb, hl⟩ := h; exact ⟨gx, e, hb.firm hg hr, hl⟩)
    (fun l s args s' W K hx hK => hassign l s args s' W K hx (fun gx W' hb hl hg => hK _ _ ⟨gx, rfl, hb, hl⟩ hg))
    (fun l s args s' a' A W hi hgA hl hx hax => by obtain ⟨gx, e, hb, hgx⟩ := hax; subst e; exact hbody l s args s' gx A W hi hgA hl hx hb hgx) hdone hstop

set_option maxHeartbeats 4000000 in
set_option maxRecDepth 100000 in
theorem all_seq (w0 : World) (ga gl : Nat) (v : Value) (cs : List Value) (fs : List Fl) (hc : FlCells w0 cs fs) (hl : fs.length ≤ 1000000) (hga : ∀ W, alC w0 ga gl v cs fs W → ∀ k, alG w0 ga gl v k → k < W.heap.size) (hbig : ∀ f ∈ fs, f.b.length ≤ 1048576) (n : Nat) (hn : 1 ≤ n) :
    SeqX n Try.prog 51 #[.pointer (some ⟨ga, 0, none⟩)] (alG w0 ga gl v) 1 (alX fs) (fun s => s = fs.length) (fun s => s ≤ fs.length) 0 (alC w0 ga gl v cs fs) := by
  intro l J Jx W hC hJ hJx hY h0
  refine callsIn_of_wp_marks Try.func51 rfl trivial (wpIn_wide.2 (wp_quiet ?_)) rfl
  simp only [Try.ntmps51, List.size_toArray, List.length_cons, List.length_nil, Nat.reduceAdd, Nat.reduceSub, Array.replicate_succ, Array.replicate_zero, List.push_toArray, List.append_toArray, List.nil_append, List.cons_append]
  have hca := cell1 hC.1
  have HG := Lib.hid (hga W hC)
  have HC := Lib.hid hC
  have HJ := Lib.hid hJ
  have HJx := Lib.hid hJx
  have HY := Lib.hid hY
  have H0 := Lib.hid h0
  have HCC := Lib.hid hc
  have HBIG := Lib.hid hbig
  have hca2 : ∀ x t, (W.alloc (.cells #[x] t)).cell? ⟨ga, 0, none⟩ = some (flightsV gl) := fun x t => (ext_new W (.cells #[x] t)).cell hca
  clear hC hJ hJx hY h0 hc hga hbig
  have HBY := Lib.hid (Blk.new W 86 #[.func (.yield l) #[] #[]])
  have HE1 := Lib.hid (ext_new W (.cells #[.func (.yield l) #[] #[]] 86))
  have HGA := Lib.hid (HC.out.1.ext HE1.out)
  have HF1 := Lib.hid (HC.out.2.ext HE1.out)
  have hca1 := cell1 HGA.out
  have hsz1 : (W.alloc (.cells #[.func (.yield l) #[] #[]] 86)).heap.size = W.heap.size + 1 := World.size_alloc _ _
  have HJ1 := Lib.hid (HJ.out 0 W _ none H0.out (ext_grown HE1.out none) (fun r e => by cases e))
  clear hca hca2
  go_wp2_with fail
  generalize W.alloc (.cells #[.func (.yield l) #[] #[]] 86) = W1 at *
  refine wp_rangeBox2 (σ := Nat) 3 (by omega) (gf := 52) (lb := #[.pointer (some ⟨gl, 0, none⟩)]) rfl (enters_of Try.func52 (by kernel_rfl) rfl) (flights_seq w0 gl v cs fs HCC.out hl 2 (by omega))
    (fun W' hg => HF1.out.keep (fun k hk _ => hg.block k hk (by simp))) (fun k hk => Nat.lt_of_lt_of_le (HG.out k (.inr hk)) HE1.out.size) (fun N s args s' A hx => by obtain ⟨_, _, _, vb, rfl, _⟩ := hx; rfl) (fun N' s args s' => flX_firm _ N' s args s')
    (fun s A => J s A ∧ Blk A W.heap.size 86 #[.func (.yield l) #[] #[]] ∧ Blk A ga 68 #[flightsV gl] ∧ flC w0 gl v cs fs A ∧ W.heap.size + 1 ≤ A.heap.size)
    (fun c s A => c = .ret ∧ s ≤ fs.length ∧ Jx s A)
    (fun s A B row h hg hr => ⟨HJ.out s A B row h.1 hg (fun r e => ⟨by have := (hr r e).1; omega, (hr r e).2⟩), h.2.1.firm hg (fun r e => (hr r e).2), h.2.2.1.firm hg (fun r e => (hr r e).2), h.2.2.2.1.firm hg (fun r e => (hr r e).2), Nat.le_trans h.2.2.2.2 hg.size⟩)
    (fun c s A B row h hg hr => ⟨h.1, h.2.1, HJx.out s A B row h.2.2 hg (fun r e => ⟨by have := (hr r e).1; omega, (hr r e).2⟩)⟩)
    ⟨HJ1.out, HBY.out, HGA.out, HF1.out, by omega⟩ 45
    (fun args gx T => (((T.setIfInBounds 6 (args.getD 0 undef)).setIfInBounds 7 (args.getD 1 undef)).setIfInBounds 3 (args.getD 0 undef)).setIfInBounds 4 (.pointer (some ⟨gx, 0, none⟩))) ?assign ?body ?done ?stop
  case assign =>
    rintro l2 s args s' A K ⟨hsl, _, _, vb, rfl, hb⟩ hK
    obtain ⟨Ab, cb, rfl, _⟩ := hb
    generalize fs.getD s fl0 = f at *
    have hx := hK A.heap.size _ (Blk.new A 45 _) (Nat.le_refl _) (World.grownBy_alloc A _ none)
    clear hsl
    gi_wp2_with fail
    exact hx
  case body =>
    rintro l2 s args s' gx A Wb ⟨hJs, hby, hga2, hfc, hsz⟩ hgA hl2 ⟨hsl, rfl, hN, vb, rfl, hb⟩ hgx hgxA
    have hgx0 : Blk Wb gx 45 #[.int .i64 ((fs.getD s fl0).from_ : Int), .int .i64 ((fs.getD s fl0).to_ : Int), vb] := hgx
    simp only [Array.getD_eq_getD_getElem?, List.getElem?_toArray, List.getElem?_cons_zero, List.getElem?_cons_succ, Option.getD_some, List.setIfInBounds_toArray, List.set_cons_succ, List.set_cons_zero]
    obtain ⟨Ab, cb, rfl, _⟩ := id hb
    have hf2 : ∀ r, (some l2 : Option Nat) = some r → ∃ o : Obj, A.heap[r]? = some o ∧ o.isCells = false := fun r e => by cases e; exact hl2.2
    have hbyb := hby.firm hgA hf2
    have hgab := hga2.firm hgA hf2
    have hfcb := hfc.firm hgA hf2
    have hbf : (fs.getD s fl0).b.length ≤ 1048576 := HBIG.out _ (by rw [List.getD_eq_getElem?_getD, List.getElem?_eq_getElem hsl]; exact List.getElem_mem hsl)
    obtain ⟨A', c', e', hbb, _, _⟩ := hb.by_
    cases e'
    have KC := Lib.hid (clone8 Wb Ab (fs.getD s fl0).b cb hbb (by omega))
    have HXF : Hid (∀ B v5, W.heap.size + 1 ≤ B.heap.size → Own 5 B W.heap.size v5 (fs.getD s fl0).b → alX fs W.heap.size s #[.int .i64 (s : Int), .agg #[.int .i64 ((fs.getD s fl0).from_ : Int), .int .i64 ((fs.getD s fl0).to_ : Int), v5]] (s + 1) B) := Lib.hid (fun B v5 h1 h2 => ⟨hsl, rfl, h1, v5, rfl, h2⟩)
    have HSL := Lib.hid hsl
    have hnil := fun W => nil_yield 86 (by kernel_rfl) l W
    obtain ⟨c0, c1, c2⟩ := cell3 hgx0
    clear hgx hb hbb hsl
    generalize (fs.getD s fl0).b = fb at *
    generalize (fs.getD s fl0).from_ = ffa at *
    generalize (fs.getD s fl0).to_ = fft at *
    gi_wp2_with fail
    refine ⟨trivial, (callsIn_wide.2 KC.out).mono ?_⟩
    rintro e w5 ⟨v5, rfl, hO, hE5⟩
    obtain ⟨Av, cv, rfl, _⟩ := hO.form
    have hB5 := hgx0.ext hE5
    have c52 := (cell3 hB5).2.2
    have f52 := hB5.frozen 2
    have hB6 := store_fl (A' := Av) (n' := fb.length) (c' := cv) hB5
    obtain ⟨c60, c61, c62⟩ := cell3 hB6
    have hg6 := grown_set w5 ⟨gx, 2, none⟩ (.slice Av fb.length cv)
    have hgxl := hgx0.lt
    have hbyl := hby.lt
    have hs5 := hE5.size
    have hby6 := (hbyb.ext hE5).far (p := ⟨gx, 2, none⟩) (by show W.heap.size ≠ gx; omega) (.slice Av fb.length cv)
    have c7 := cell1 hby6
    have hgA6 : A.grownBy (w5.setCell ⟨gx, 2, none⟩ (.slice Av fb.length cv)) (some l2) :=
      ⟨hg6.os.trans ((Below.os hE5).trans hgA.os), hg6.tape.trans ((Below.tape hE5).trans hgA.tape), hg6.output.trans ((Below.output hE5).trans hgA.output), Nat.le_trans hgA.size (Nat.le_trans hs5 hg6.size), fun k hk hne =>
        (hg6.block k (by have := hgA.size; omega) (fun e => absurd (show k = gx by simpa using e) (by omega))).trans ((hE5.block (by have := hgA.size; omega)).trans (hgA.block k hk hne))⟩
    have hJ6 := HJ.out s A _ (some l2) hJs hgA6 (fun r e => by cases e; exact ⟨by have := hl2.1; omega, hl2.2⟩)
    have HOL := Lib.hid hO.lt
    have hO6 : Own 5 (w5.setCell ⟨gx, 2, none⟩ (.slice Av fb.length cv)) W.heap.size (.slice Av fb.length cv) fb := row_down (World.ownsRow.kept hO hg6 (.inr (fun e => by have := (HOL.out gx e).1; omega))) (by omega)
    have hcel : ∀ k, Value.ownBlock (.slice Av fb.length cv) = some k → ∃ cur, Blk (w5.setCell ⟨gx, 2, none⟩ (.slice Av fb.length cv)) k 5 cur := fun k e => by
      obtain ⟨_, h2⟩ := hO6
      rcases h2 with ⟨h2, _⟩ | ⟨g', cap, cur, h2, _, hh, _⟩
      · rw [h2] at e; cases e
      · rw [h2] at e; cases e; exact ⟨cur, hh⟩
    obtain ⟨fn, tmps, assign, body, hy, hR⟩ := HY.out s _ (s + 1) _ hJ6 (HXF.out _ _ (by have := hg6.size; omega) hO6)
    have HR2 := Lib.hid (roundIn_any (l' := l2) (n' := 0) hR)
    have HW6 : Hid (∀ k, k < Wb.heap.size → k ≠ gx → (w5.setCell ⟨gx, 2, none⟩ (.slice Av fb.length cv)).heap[k]? = Wb.heap[k]?) := Lib.hid (fun k hk hne => (hg6.block k (by omega) (fun e => hne (by simpa using e))).trans (hE5.block hk))
    have HCEL := Lib.hid hcel
    have HS6 := Lib.hid hg6.size
    have HBY6 := Lib.hid hby6
    have HGA6 := Lib.hid ((hgab.ext hE5).grown hg6 (by
      have h1 := HG.out ga (.inl rfl)
      simp; omega))
    have HFC6 := Lib.hid ((hfcb.ext hE5).keep (W' := w5.setCell ⟨gx, 2, none⟩ (.slice Av fb.length cv)) (fun k hk hf => hg6.block k hk (fun e => by
      have h9 : k = gx := by simpa using e
      have := HG.out k (.inr hf)
      omega)))
    clear hR hO hE5 hg6 hgA6 hJ6 hO6 hcel hby6 hB6 hgab hfcb KC hJs hby hga2 hfc HJ1 H0
    gi_wp2_with fail
    refine HR2.out.mono ?_
    rintro e w7 (⟨rfl, hJ7, hk7, hkf7⟩ | ⟨rfl, hJx7, hkf7⟩)
    · have HK7 := Lib.hid hk7
      have HJ7 := Lib.hid hJ7
      have HKF := Lib.hid hkf7
      clear hk7 hJ7 hkf7
      gi_wp2_with fail
      refine ⟨⟨by have := HK7.out.1; have := HS6.out; omega, fun k o hk ho hc => ?_⟩, ⟨by have := HK7.out.1; have := HS6.out; omega, fun k hk1 hk2 hor => ?_⟩, HJ7.out, ?_, ?_, ?_, ?_⟩
      · have hlt := (Array.getElem?_eq_some_iff.1 ho).1
        have hne : k ≠ gx := fun e => by
          rw [e] at ho
          have h8 := hgx0
          unfold Blk at h8
          rw [h8] at ho
          cases ho
          cases hc
        exact HKF.out.same k o (by omega) ((HW6.out k hlt hne).trans ho) hc
      · rcases hor with h | h
        · exact (HK7.out.2 k (by have := HS6.out; omega) (.inl (.inr h))).trans (HW6.out k hk2 (by omega))
        · omega
      · exact (HK7.out.2 W.heap.size (by have := HS6.out; omega) (.inr ⟨Nat.le_refl _, by omega⟩)).trans HBY6.out
      · exact (HK7.out.2 ga HGA6.out.lt (.inl (.inl rfl))).trans HGA6.out
      · exact HFC6.out.keep (fun k hk hf => HK7.out.2 k hk (.inl (.inr hf)))
      · have := HK7.out.1
        have := HS6.out
        omega
    · have HJx7 := Lib.hid hJx7
      have HKF := Lib.hid hkf7
      clear hJx7 hkf7
      gi_wp2_with fail
      refine ⟨⟨by have := HKF.out.size; have := HS6.out; omega, fun k o hk ho hc => ?_⟩, rfl, HSL.out, HJx7.out⟩
      have hlt := (Array.getElem?_eq_some_iff.1 ho).1
      have hne : k ≠ gx := fun e => by
        rw [e] at ho
        have h8 := hgx0
        unfold Blk at h8
        rw [h8] at ho
        cases ho
        cases hc
      exact HKF.out.same k o (by omega) ((HW6.out k hlt hne).trans ho) hc
  case done =>
    rintro D s A hD rfl ⟨hJs, hby, hga2, hfc, hsz⟩ hK
    have HJs := Lib.hid hJs
    have HK := Lib.hid hK
    clear hJs hK hby hga2 hfc
    go_wp2_with fail
    refine (show ∀ tm, quietQ (bodyPostM Fence.wide n Try.prog Try.f51 fun e B => (∃ v, e = .returned v) ∧ ((∃ s, s = fs.length ∧ J s B) ∨ ∃ s, s ≤ fs.length ∧ Jx s B)) .ret { tmps := tm, defers := [{ target := .collected D, args := #[] }] } A from fun tm => postM_mark HK.out (results_none (fn := Try.f51) rfl _ _ _) ⟨⟨_, rfl⟩, .inl ⟨_, rfl, HJ.out _ A _ (some D) HJs.out (grownBy_putObj' A D _) (fun r e => by cases e; exact ⟨by omega, _, HK.out, rfl⟩)⟩⟩) _
  case stop =>
    rintro D c s A hD _ ⟨rfl, hs, hJxs⟩ hK
    have HJs := Lib.hid hJxs
    have HK := Lib.hid hK
    have HS := Lib.hid hs
    clear hJxs hK hs
    go_wp2_with fail
    exact postM_mark HK.out (results_none (fn := Try.f51) rfl _ _ _) ⟨⟨_, rfl⟩, .inr ⟨s, HS.out, HJx.out s A _ (some D) HJs.out (grownBy_putObj' A D _) (fun r e => by cases e; exact ⟨by omega, _, HK.out, rfl⟩)⟩⟩

abbrev allV (ga : Nat) : Value := .func (.func 51) #[] #[.pointer (some ⟨ga, 0, none⟩)]
set_option maxHeartbeats 2000000 in
set_option maxRecDepth 100000 in
theorem All_net {w : World} {S : Nat → Prop} {g nb : Nat} {N : Nt} (h : NetAt w S g nb N) :
    Calls Try.prog 36 #[.pointer (some ⟨g, 0, none⟩)] w fun e w' => ∃ ga gl v cs, e = .returned (allV ga) ∧ FlCells w cs (flN N) ∧ alC w ga gl v cs (flN N) w' ∧ w.heap.size ≤ gl ∧ w.heap.size ≤ ga ∧ (∀ k, v.ownBlock = some k → w.heap.size ≤ k) ∧ Ext w w' := by
  have KF := Lib.hid (flights_net h)
  clear h
  go_enter Try.func36, Try.ntmps36
  go_wp2_with fail
  refine KF.out.mono ?_
  rintro e w2 ⟨gl, rfl, ⟨v, cs, hv, hrow, hcells⟩, hgl, hE2⟩
  have hX := ext_new w2 (.cells #[flightsV gl] 68)
  have HB := Lib.hid (Blk.new w2 68 #[flightsV gl])
  have HC : Hid (flC w gl v cs (flN N) (w2.alloc (.cells #[flightsV gl] 68))) := Lib.hid (flC.ext ⟨hv, row_down hrow (Nat.zero_le _), fun k cur hb => hb.ext hE2⟩ hX)
  have HLT := Lib.hid (World.ownsRow.lt hrow)
  have HCE := Lib.hid hcells
  have HE := Lib.hid (hE2.trans hX)
  have hs2 := hE2.size
  clear hv hrow hcells hX hE2
  unfold flightsV
  unfold flightsV at HB
  go_wp2_with fail
  go_ret
  exact ⟨_, gl, v, cs, rfl, HCE.out, ⟨HB.out, HC.out⟩, hgl, hs2, fun k hk => (HLT.out k hk).1, HE.out⟩

end Go.Proofs.Ytahooohokdbnpaa
