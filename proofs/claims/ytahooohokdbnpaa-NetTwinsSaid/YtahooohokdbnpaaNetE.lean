
/-
  Contract of net.find.
-/
import Derived.Test.YtahooohokdbnpaaNetD
import Derived.Deep.WholeRow
import Derived.WalkMore
import Derived.Deep.CutBlock
set_option linter.unusedVariables false
set_option linter.unusedSimpArgs false
namespace Go.Proofs.Ytahooohokdbnpaa
open Go.RowKit Go.Shelf Go.Maps Pl

attribute [local go_sem] Oper.semAt_some

section
variable {P : Program}
theorem results_row3 {fn : Func} {p u v : Tmp} {ty : TypeId} (h : fn.results = #[.cell p ty, .tmp u, .tmp v]) (tmps : Array Value) (w : World) (g : Nat) (t : TypeId) (cs : Array Value) (fr : Nat × Nat) (d : TypeDesc)
    (hp : tmps.getD p undef = .pointer (some ⟨g, 0, none⟩)) (hg : w.heap[g]? = some (.cells cs t fr))
    (hu : P.underlying ty = some d) (hd : (match d with | .struct _ | .array _ _ => true | _ => false) = true) (hi : (P.info? ty).map (·.size) = some cs.size) :
    (results fn tmps).run P w = .ok (.tuple #[.agg cs, tmps.getD u undef, tmps.getD v undef]) w := by
  have hp' : tmps[p]?.getD undef = .pointer (some ⟨g, 0, none⟩) := by simpa using hp
  simp [results, h, hp', asAddr, run_loadVar_row w g t ty cs fr d hg hu hd hi]
theorem results_row2 {fn : Func} {p u : Tmp} {ty : TypeId} (h : fn.results = #[.cell p ty, .tmp u]) (tmps : Array Value) (w : World) (g : Nat) (t : TypeId) (cs : Array Value) (fr : Nat × Nat) (d : TypeDesc)
    (hp : tmps.getD p undef = .pointer (some ⟨g, 0, none⟩)) (hg : w.heap[g]? = some (.cells cs t fr))
    (hu : P.underlying ty = some d) (hd : (match d with | .struct _ | .array _ _ => true | _ => false) = true) (hi : (P.info? ty).map (·.size) = some cs.size) :
    (results fn tmps).run P w = .ok (.tuple #[.agg cs, tmps.getD u undef]) w := by
  have hp' : tmps[p]?.getD undef = .pointer (some ⟨g, 0, none⟩) := by simpa using hp
  simp [results, h, hp', asAddr, run_loadVar_row w g t ty cs fr d hg hu hd hi]
end
theorem Try.flSize (x y z : Value) : (Try.prog.info? 45).map (·.size) = some (#[x, y, z] : Array Value).size := by
  obtain ⟨i0, hi, hz0, hz1, hz2⟩ := info_parts Try.infoFl
  rw [hi]
  simp [hz1]

theorem Blk.row {w : World} {g : Nat} {t : TypeId} {cs : Array Value} (h : Blk w g t cs) (cells : Array Value) : Blk (w.setRow g cells) g t cells := setRow_heap w g cs _ t _ h
theorem grown_row (w : World) (g : Nat) (cells : Array Value) : w.grownBy (w.setRow g cells) (some g) :=
  ⟨rfl, rfl, rfl, by rw [size_setRow]; exact Nat.le_refl _, fun k _ hk => setRow_other w g k cells (fun e => hk (by rw [e]))⟩
theorem Ext.setRow {a w : World} (h : Ext a w) {g : Nat} (hg : a.heap.size ≤ g) (cells : Array Value) : Ext a (w.setRow g cells) := h.grown (grown_row w g cells) (fun k e => by cases e; exact hg)
theorem store_row_run {P : Program} {o : Oper} {ty : TypeId} {x y : Operand} (ho : o.op = .store ty x y) {ρ : Operand → Value} {w : World} {g : Nat} {cells : Array Value} (hx : ρ x = .pointer (some ⟨g, 0, none⟩)) (hy : ρ y = .agg cells)
    {t : TypeId} {old : Array Value} (hg : Blk w g t old) (hi : (P.info? ty).map (·.size) = some cells.size) (hold : old.size = cells.size) (h1 : cells.all (·.oneCell') = true) :
    (execOp ρ o).run P w = .ok .skip (w.setRow g cells) := by
  unfold execOp
  simp only [ho, hx, hy, Instr.storeAt, Instr.sureAddr, Sem.run_bind, Sem.run_pure, Result.andThen_ok, run_storeVar_row w g t ty old cells hg hi hold h1]
theorem wpListIn_skipRun {F : Fence} {n : Nat} {P : Program} {ops : Array Oper} {rest : List Oper} {o : Oper} {a : Act} {w w' : World} {Q : Exit → Act → World → Prop} (hw : Region.wanted o (yielded ops a.tmps) = true) (hab : o.about P w a.eval = none) (hnd : ∀ c, o.op ≠ .defer c)
    (hr : (execOp a.eval o).run P w = .ok .skip w') (h : wpListIn F n P ops Q rest (a.put o.dst undef) w') : wpListIn F n P ops Q (o :: rest) a w := by
  refine wpListIn_step fun K hK => ?_
  rw [if_pos hw]
  refine ⟨fun f hf => (by rw [hab] at hf; cases hf), ?_⟩
  rw [Oper.semAt_plain F _ _ hnd, hr]
  exact hK _ _ h

theorem row_down {w : World} {B B' : Nat} {e : TypeId} {sz n : Nat} {v : Value} {xs : List Value} (h : w.ownsRow B e sz v n xs) (hB : B' ≤ B) : w.ownsRow B' e sz v n xs := by
  obtain ⟨h1, h2⟩ := h
  refine ⟨h1, ?_⟩
  rcases h2 with h2 | ⟨g, cap, cur, hv, hb, r⟩
  · exact .inl h2
  · exact .inr ⟨g, cap, cur, hv, Nat.le_trans hB hb, r⟩
theorem fl_one (x y : Int) (A : Option Addr) (n c : Nat) : (#[Value.int .i64 x, Value.int .i64 y, Value.slice A n c] : Array Value).all (·.oneCell') = true := by simp [Value.oneCell']
theorem load_errno {w : World} {p : Addr} {n : Int} (h : w.cell? p = some (.int .i64 n)) : (Instr.loadAt 26 (.pointer (some p))).run Try.prog w = .ok (.int .i64 n) w := by
  simp [go_sem, h]
theorem load_i64 {w : World} {p : Addr} {n : Int} (h : w.cell? p = some (.int .i64 n)) : (Instr.loadAt 3 (.pointer (some p))).run Try.prog w = .ok (.int .i64 n) w := by
  simp [go_sem, h]
def KK (B : Nat) (G : Nat → Prop) (N c0 : Nat) (e : TypeId) (W W' : World) : Prop := KeepsFrom B W W' ∧ Keeps G N c0 W W' ∧ ∀ k cur, Blk W k e cur → Blk W' k e cur
theorem KK.refl (B : Nat) (G : Nat → Prop) (N c0 : Nat) (e : TypeId) (W : World) : KK B G N c0 e W W := ⟨KeepsFrom.none (World.grownBy.refl W _), Keeps.refl _ _ _ _, fun _ _ h => h⟩
theorem KK.step {B : Nat} {G : Nat → Prop} {N c0 : Nat} {e : TypeId} {W Wa Wb : World} (h : KK B G N c0 e W Wa) {k : Nat} (hg : Wa.grownBy Wb (some k)) {t : TypeId} {cs : Array Value} (hb : Blk Wa k t cs) (hG : ¬ G k) (hk : k < N ∨ N + c0 ≤ k) (ht : t ≠ e) : KK B G N c0 e W Wb :=
  ⟨h.1.trans (KeepsFrom.cells hg hb), h.2.1.trans (Keeps.grown hg (fun r e => by cases e; exact ⟨hG, hk⟩)), fun i cur hi => (h.2.2 i cur hi).grown hg (fun e => by
    cases e
    exact ht (hb.type (h.2.2 _ cur hi)).1)⟩
theorem cell1 {w : World} {g : Nat} {t : TypeId} {x : Value} (h : Blk w g t #[x]) : w.cell? ⟨g, 0, none⟩ = some x := by rw [h.cell]; rfl
theorem cell3 {w : World} {g : Nat} {t : TypeId} {x y z : Value} (h : Blk w g t #[x, y, z]) : w.cell? ⟨g, 0, none⟩ = some x ∧ w.cell? ⟨g, 1, none⟩ = some y ∧ w.cell? ⟨g, 2, none⟩ = some z := by
  refine ⟨?_, ?_, ?_⟩ <;> rw [h.cell] <;> rfl
def boxOf (args : Array Value) : Array Value := match args.getD 1 undef with | .agg cs => cs | _ => #[]
/-- a range over a function whose second variable has a block of its own -/
theorem wp_rangeBox {P : Program} {σ : Type} {g : Operand} {ps : Array Tmp} {assign body : Code} {Q : Exit → Act → World → Prop} {a : Act} {w : World} (n : Nat) (h1 : 1 ≤ n) {gf : Nat} {lb : Array Value} (hg : a.eval g = .func (.func gf) #[] lb)
    (eg : ∀ args w, (callFunc gf args).run P w = .ok (.enter gf args) w) {G : Nat → Prop} {c0 : Nat} {X : Nat → σ → Array Value → σ → World → Prop} {S Sp : σ → Prop} {s0 : σ} {C : World → Prop}
    (hseq : SeqX (n - 1) P gf lb G c0 X S Sp s0 C) (hC : ∀ W, w.grownBy W none → C W) (hG : ∀ k, G k → k < w.heap.size) (hps : ∀ N s args s' A, X N s args s' A → args.size = ps.size) (hX : ∀ N s args s', Firm (X N s args s'))
    (I : σ → World → Prop) (Ix : Code → σ → World → Prop) (hI : OwnFrom w.heap.size I) (hIx : ∀ c, OwnFrom w.heap.size (Ix c)) (h0 : I s0 w) (ty : TypeId) (F : Array Value → Nat → Array Value → Array Value)
    (hassign : ∀ (l : Nat) s args s' (W : World) (K : Act → World → Prop), X (w.heap.size + 2) s args s' W → (∀ gx W', Blk W' gx ty (boxOf args) → W.heap.size ≤ gx → W.grownBy W' none → K { tmps := F args gx a.tmps, defers := [] } W') →
      assign.wpIn (Fence.wide.inRound l) (n - 1 - 1) P (Exit.then K (fun _ _ _ => False)) { tmps := (ps.zip args).foldl (fun t (p, v) => t.setIfInBounds p v) a.tmps, defers := [] } W)
    (hXN : ∀ s args s' W, X (w.heap.size + 2) s args s' W → w.heap.size + 2 ≤ W.heap.size)
    (hbody : ∀ (l : Nat) s args s' gx (W : World), I s W → X (w.heap.size + 2) s args s' W → Blk W gx ty (boxOf args) → w.heap.size + 2 ≤ gx → body.wpIn (Fence.wide.inRound l) (n - 1 - 1) P (postX w.heap.size G (w.heap.size + 2) c0 I Ix s' W) { tmps := F args gx a.tmps, defers := [] } W)
    (hdone : ∀ (D : Nat) s (W : World), w.heap.size ≤ D → S s → I s W → W.heap[D]? = some (.deferred (some [])) → Q .normal { a with defers := { target := .collected D, args := #[] } :: a.defers } W)
    (hstop : ∀ (D : Nat) (c : Code) s (W : World), w.heap.size ≤ D → Sp s → Ix c s W → W.heap[D]? = some (.deferred (some [])) → c.wp P Q { a with defers := { target := .collected D, args := #[] } :: a.defers } W) :
    (Code.rangeFunc g ps assign body).wp P Q a w :=
  wp_rangeX n h1 hg eg hseq hC hG hps hX I Ix hI hIx h0 (fun args a' W' => ∃ gx, a' = { tmps := F args gx a.tmps, defers := [] } ∧ Blk W' gx ty (boxOf args) ∧ w.heap.size + 2 ≤ gx)
    (fun args a' A B row h hg hr => by obtain ⟨gx, e, hb, hl⟩ := h; exact ⟨gx, e, hb.firm hg hr, hl⟩)
    (fun l s args s' W K hx hK => hassign l s args s' W K hx (fun gx W' hb hl hg => hK _ _ ⟨gx, rfl, hb, Nat.le_trans (hXN _ _ _ _ hx) hl⟩ hg))
    (fun l s args s' a' W hi hx hax => by obtain ⟨gx, e, hb, hl⟩ := hax; subst e; exact hbody l s args s' gx W hi hx hb hl) hdone hstop

set_option maxHeartbeats 4000000 in
set_option maxRecDepth 100000 in
theorem find_net {w : World} {S : Nat → Prop} {g nb : Nat} {N : Nt} (h : NetAt w S g nb N) (z : Int) (hz : I64 z) :
    Calls Try.prog 39 #[.pointer (some ⟨g, 0, none⟩), .int .i64 z] w fun e w' => ∃ vb, e = .returned (.tuple #[.agg #[.int .i64 ((atF N z).from_ : Int), .int .i64 ((atF N z).to_ : Int), vb], .int .i64 (atK N z : Int), .int .i64 (atE N z : Int)]) ∧ Bs 5 w' vb (atF N z).b ∧ Ext w w' := by
  have KN := Lib.hid (fun W (hW : Ext w W) => none_net (h.ext hW))
  have KF := Lib.hid (fun W (hW : Ext w W) => flights_net (h.ext hW))
  have HLEN := Lib.hid (flN_length h.1)
  have hzr : (zeroValue 45).run Try.prog w = .ok (.agg #[.int .i64 0, .int .i64 0, .slice none 0 0]) w := by kernel_rfl
  have HE0 := Lib.hid ((ext_new w (.cells #[.int .i64 z] 3)).alloc (.cells #[.int .i64 0, .int .i64 0, .slice none 0 0] 45))
  have HBp := Lib.hid ((Blk.new w 3 #[.int .i64 z]).alloc (.cells #[.int .i64 0, .int .i64 0, .slice none 0 0] 45))
  have HBr := Lib.hid (Blk.new (w.alloc (.cells #[.int .i64 z] 3)) 45 #[.int .i64 0, .int .i64 0, .slice none 0 0])
  rw [World.size_alloc] at HBr
  have HSTEP : Hid (∀ s, s < (flN N).length → (aheadAt (flN N) (s + 1) : Int) = (if ((flN N).getD s fl0).line = (foundAt (flN N) s).line then (aheadAt (flN N) s : Int) else -1) + 1) := Lib.hid (fun s hs => aheadAt_step hs)
  have HAE : Hid (atE N z = if z < 0 then 2 else if z.toNat < (flN N).length then 0 else 6) := Lib.hid rfl
  have HAF : Hid (atF N z = if atE N z = 0 then (flN N).getD z.toNat fl0 else fl0) := Lib.hid rfl
  have HAK : Hid (atK N z = if atE N z = 0 then aheadN (flN N) z.toNat (atF N z) else 0) := Lib.hid rfl
  clear h
  refine callsIn_wide.1 (callsIn_of_wp_marks (n := 3) Try.func39 rfl trivial (wpIn_wide.2 (wp_quiet ?_)) rfl)
  simp only [Try.ntmps39, List.size_toArray, List.length_cons, List.length_nil, Nat.reduceAdd, Nat.reduceSub, Array.replicate_succ, Array.replicate_zero, List.push_toArray, List.append_toArray, List.nil_append, List.cons_append]
  go_wp2_with fail
  generalize (w.alloc (.cells #[.int .i64 z] 3)).alloc (.cells #[.int .i64 0, .int .i64 0, .slice none 0 0] 45) = w1 at *
  go_step3
  go_wp2_with fail
  refine (KN.out w1 HE0.out).mono ?_
  rintro e w' ⟨rfl, rfl⟩
  have hcz : w1.cell? ⟨w.heap.size, 0, none⟩ = some (.int .i64 z) := by rw [HBp.out.cell]; rfl
  by_cases hneg : z < 0
  · have hd : decide (z < 0) = true := decide_eq_true hneg
    have e0 : atE N z = 2 := by rw [HAE.out, if_pos hneg]
    have eF : atF N z = fl0 := by rw [HAF.out, e0]; rfl
    have eK : atK N z = 0 := by rw [HAK.out, e0]; rfl
    have HRES := Lib.hid (And.intro e0 (And.intro eF eK))
    clear hneg e0 eF eK
    go_wp2_with (refine wpList_store_row rfl 45 _ _ rfl _ _ rfl rfl _ _ HBr.out (Try.flSize _ _ _) rfl (fl_one _ _ _ _ _) ?_)
    rw [Exit.noGoto_ret]
    exact postM_ret (results_row3 Try.results39 _ _ (w.heap.size + 1) _ #[.int .i64 0, .int .i64 0, .slice none 0 0] (0, 0) _ rfl (HBr.out.row _) Try.underlying45 rfl (Try.flSize _ _ _)) (by
      rw [HRES.out.1, HRES.out.2.1, HRES.out.2.2]
      exact ⟨_, rfl, Bs.nil _ _ _ _ (Nat.zero_le _), HE0.out.setRow (by omega) _⟩)
  · have hd : decide (z < 0) = false := decide_eq_false hneg
    have hlt0 := HBr.out.lt
    have HBf := Lib.hid (((Blk.new w1 45 #[.int .i64 0, .int .i64 0, .slice none 0 0]).alloc (.cells #[.int .i64 0] 3)).alloc (.cells #[.int .i64 6] 26))
    have HBa := Lib.hid ((Blk.new (w1.alloc (.cells #[.int .i64 0, .int .i64 0, .slice none 0 0] 45)) 3 #[.int .i64 0]).alloc (.cells #[.int .i64 6] 26))
    have HBe := Lib.hid (Blk.new ((w1.alloc (.cells #[.int .i64 0, .int .i64 0, .slice none 0 0] 45)).alloc (.cells #[.int .i64 0] 3)) 26 #[.int .i64 6])
    simp only [World.size_alloc] at HBa HBe
    have HX3 : Hid (Ext w1 _) := Lib.hid ((((Ext.refl w1).alloc (.cells #[.int .i64 0, .int .i64 0, .slice none 0 0] 45)).alloc (.cells #[.int .i64 0] 3)).alloc (.cells #[.int .i64 6] 26))
    have HE3 := Lib.hid (HE0.out.trans HX3.out)
    have HBp3 := Lib.hid (HBp.out.ext HX3.out)
    have HBr3 := Lib.hid (HBr.out.ext HX3.out)
    clear HE0 HBp HBr HX3
    go_wp2_with fail
    generalize ((w1.alloc (.cells #[.int .i64 0, .int .i64 0, .slice none 0 0] 45)).alloc (.cells #[.int .i64 0] 3)).alloc (.cells #[.int .i64 6] 26) = w3 at *
    generalize w1.heap.size = bf at *
    clear hcz
    go_step3
    go_wp2_with fail
    refine (KF.out w3 HE3.out).mono ?_
    rintro e w4 ⟨gl, rfl, ⟨v, cs, hv, hrow, hcells⟩, hgl, hE4⟩
    have hle := HLEN.out
    have hbe := HBe.out.lt
    have HC4 : Hid (flC w3 gl v cs (flN N) w4) := Lib.hid ⟨hv, row_down hrow (Nat.zero_le _), fun k cur hb => hb.ext hE4⟩
    have HRW := Lib.hid (World.ownsRow.lt hrow)
    have HNG : Hid (∀ k, (k = bf ∨ k = bf + 1 ∨ k = bf + 1 + 1) → ¬ flG w3 gl v k) := Lib.hid (fun k hk h => by
      have h3 : k < w3.heap.size := by omega
      rcases h with h | h | ⟨cur, h⟩
      · omega
      · have := (HRW.out k h).1; omega
      · rcases hk with rfl | rfl | rfl
        · exact absurd (HBf.out.type h).1 (by decide)
        · exact absurd (HBa.out.type h).1 (by decide)
        · exact absurd (HBe.out.type h).1 (by decide))
    have HBf4 := Lib.hid (HBf.out.ext hE4)
    have HBa4 := Lib.hid (HBa.out.ext hE4)
    have HBe4 := Lib.hid (HBe.out.ext hE4)
    have HBp4 := Lib.hid (HBp3.out.ext hE4)
    have HBr4 := Lib.hid (HBr3.out.ext hE4)
    have HE4 := Lib.hid (HE3.out.trans hE4)
    have hs4 := hE4.size
    have hgl4 := hv.lt
    clear HBf HBa HBe HBp3 HBr3 HE3
    have hG : ∀ k, flG w3 gl v k → k < w4.heap.size := fun k hk => by
      rcases hk with rfl | h1 | ⟨cur, h1⟩
      · exact hgl4
      · exact (HRW.out k h1).2
      · exact Nat.lt_of_lt_of_le h1.lt hs4
    go_wp2_with fail
    refine wp_rangeBox (σ := Nat) 3 (by omega) (gf := 52) (lb := #[.pointer (some ⟨gl, 0, none⟩)]) rfl (enters_of Try.func52 (by kernel_rfl) rfl) (flights_seq w3 gl v cs (flN N) hcells (by omega) 2 (by omega))
      (fun W hg => HC4.out.keep (fun k hk _ => hg.block k hk (by simp))) hG (fun N s args s' A hx => by obtain ⟨_, _, _, vb, rfl, _⟩ := hx; rfl) (fun N' s args s' => flX_firm _ N' s args s')
      (fun s W => s ≤ z.toNat ∧ (∃ vb, Blk W bf 45 #[.int .i64 ((foundAt (flN N) s).from_ : Int), .int .i64 ((foundAt (flN N) s).to_ : Int), vb] ∧ Bs 5 W vb (foundAt (flN N) s).b) ∧ Blk W (bf + 1) 3 #[.int .i64 (aheadAt (flN N) s : Int)] ∧ Blk W (bf + 1 + 1) 26 #[.int .i64 6] ∧
        Blk W w.heap.size 3 #[.int .i64 z] ∧ Blk W (w.heap.size + 1) 45 #[.int .i64 0, .int .i64 0, .slice none 0 0] ∧ Ext w W)
      (fun c s W => c = .exit 0 ∧ s = z.toNat + 1 ∧ (∃ vb, Blk W bf 45 #[.int .i64 ((foundAt (flN N) s).from_ : Int), .int .i64 ((foundAt (flN N) s).to_ : Int), vb] ∧ Bs 5 W vb (foundAt (flN N) s).b) ∧ Blk W (bf + 1) 3 #[.int .i64 (aheadAt (flN N) s : Int)] ∧ Blk W (bf + 1 + 1) 26 #[.int .i64 0] ∧
        Blk W (w.heap.size + 1) 45 #[.int .i64 0, .int .i64 0, .slice none 0 0] ∧ Ext w W)
      (fun s A B row h hg hr => ⟨h.1, h.2.1.elim (fun vb h => ⟨vb, h.1.firm hg (fun r e => (hr r e).2), h.2.kept (fun k cur hb => hb.firm hg (fun r e => (hr r e).2))⟩), h.2.2.1.firm hg (fun r e => (hr r e).2), h.2.2.2.1.firm hg (fun r e => (hr r e).2), h.2.2.2.2.1.firm hg (fun r e => (hr r e).2), h.2.2.2.2.2.1.firm hg (fun r e => (hr r e).2), h.2.2.2.2.2.2.grown hg (fun k e => by have := (hr k e).1; have := HE4.out.size; omega)⟩)
      (fun c s A B row h hg hr => ⟨h.1, h.2.1, h.2.2.1.elim (fun vb h => ⟨vb, h.1.firm hg (fun r e => (hr r e).2), h.2.kept (fun k cur hb => hb.firm hg (fun r e => (hr r e).2))⟩), h.2.2.2.1.firm hg (fun r e => (hr r e).2), h.2.2.2.2.1.firm hg (fun r e => (hr r e).2), h.2.2.2.2.2.1.firm hg (fun r e => (hr r e).2), h.2.2.2.2.2.2.grown hg (fun k e => by have := (hr k e).1; have := HE4.out.size; omega)⟩)
      ⟨Nat.zero_le _, ⟨_, HBf4.out, Bs.nil _ _ _ _ (Nat.zero_le _)⟩, HBa4.out, HBe4.out, HBp4.out, HBr4.out, HE4.out⟩ 45
      (fun args gx T => (((T.setIfInBounds 21 (args.getD 0 undef)).setIfInBounds 22 (args.getD 1 undef)).setIfInBounds 10 (args.getD 0 undef)).setIfInBounds 11 (.pointer (some ⟨gx, 0, none⟩))) ?assign (fun s args s' W hx => hx.2.2.1) ?body ?done ?stop
    case assign =>
      rintro l s args s' W K ⟨hsl, _, _, vb, rfl, hb⟩ hK
      obtain ⟨Ab, cb, rfl, _⟩ := hb
      generalize (flN N).getD s fl0 = f at *
      have hx := hK W.heap.size _ (Blk.new W 45 _) (Nat.le_refl _) (World.grownBy_alloc W _ none)
      gi_wp2_with fail
      exact hx
    case body =>
      rintro l s args s' gx W ⟨hsz, ⟨vf, hbf, hvf⟩, hba, hbe', hbp, hbr, hE⟩ ⟨hsl, rfl, hN, vb, rfl, hb⟩ hgx hgxl
      have hgx0 : Blk W gx 45 #[.int .i64 (((flN N).getD s fl0).from_ : Int), .int .i64 (((flN N).getD s fl0).to_ : Int), vb] := hgx
      have hst := HSTEP.out s hsl
      have hfs : foundAt (flN N) (s + 1) = (flN N).getD s fl0 := by unfold foundAt; rw [if_neg (by omega)]; rfl
      obtain ⟨Ab, cb, rfl, _⟩ := id hb
      obtain ⟨Af, cf, rfl, _⟩ := id hvf
      have hK0 := KK.refl w4.heap.size (flG w3 gl v) (w4.heap.size + 2) 0 5 W
      simp only [Array.getD_eq_getD_getElem?, List.getElem?_toArray, List.getElem?_cons_zero, List.getElem?_cons_succ, Option.getD_some, List.setIfInBounds_toArray, List.set_cons_succ, List.set_cons_zero]
      have HFS := Lib.hid hfs
      have HST : Hid ((aheadAt (flN N) (s + 1) : Int) = (if ((flN N).getD s fl0).from_ = (foundAt (flN N) s).from_ ∧ ((flN N).getD s fl0).to_ = (foundAt (flN N) s).to_ then (aheadAt (flN N) s : Int) else -1) + 1) := Lib.hid (by
        rw [hst]
        congr 1
        unfold Fl.line
        simp only [Prod.mk.injEq])
      have ha0 := Nat.le_trans (aheadAt_le (flN N) s) hle
      clear hgx hst hfs hvf
      have HBS := Lib.hid hb
      clear hb hsl hN HC4 HSTEP HAE HAF HAK KN KF HLEN
      generalize (flN N).getD s fl0 = f at *
      generalize foundAt (flN N) s = f0 at *
      generalize aheadAt (flN N) s = a0 at *
      generalize f0.b.length = q0 at *
      generalize hfa : f.from_ = fa at *
      generalize hfb : f.to_ = fb at *
      generalize hfl : f.b.length = fbl at *
      generalize f0.from_ = qa at *
      generalize f0.to_ = qb at *
      clear hfl
      have hcase : (fa = qa ∧ fb = qb) ∨ fa ≠ qa ∨ (fa = qa ∧ fb ≠ qb) := by omega
      rcases hcase with hcase | hcase | hcase
      -- WAYS
      · have n1 : ((fa : Int) != (qa : Int)) = false := by rw [bne_eq_false_iff_eq]; omega
        have n2 : ((fb : Int) != (qb : Int)) = false := by rw [bne_eq_false_iff_eq]; omega
        have hA1 : (aheadAt (flN N) (s + 1) : Int) = (a0 : Int) + 1 := by rw [HST.out, if_pos ⟨by omega, by omega⟩]
        clear hcase
        by_cases hsz2 : s = z.toNat
        · have d7 : ((s : Int) == z) = true := by rw [beq_iff_eq]; omega
          have HZ := Lib.hid hsz2
          clear hsz2
          have hgxa := hgx0
          have hbfa := hbf
          have hbaa := hba
          have hbea := hbe'
          have hbpa := hbp
          have hbra := hbr
          have hEa := hE
          have hKa := hK0
          have gb := grown_row W bf #[.int .i64 (fa : Int), .int .i64 (fb : Int), .slice Ab fbl cb]
          have hbfb := hbfa.row #[.int .i64 (fa : Int), .int .i64 (fb : Int), .slice Ab fbl cb]
          have hbab := hbaa.grown gb (by first | (simp; omega) | simp)
          have hbeb := hbea.grown gb (by first | (simp; omega) | simp)
          have hbpb := hbpa.grown gb (by first | (simp; omega) | simp)
          have hbrb := hbra.grown gb (by first | (simp; omega) | simp)
          have hEb := hEa.setRow (g := bf) (by omega) #[.int .i64 (fa : Int), .int .i64 (fb : Int), .slice Ab fbl cb]
          have hKb := hKa.step gb hbfa (HNG.out _ (.inl rfl)) (.inl (by omega)) (by decide)
          have gc := grown_set (W.setRow bf #[.int .i64 (fa : Int), .int .i64 (fb : Int), .slice Ab fbl cb]) ⟨bf + 1, 0, none⟩ (.int .i64 ((a0 : Int) + 1))
          have hbfc := hbfb.grown gc (by first | (simp; omega) | simp)
          have hbec := hbeb.grown gc (by first | (simp; omega) | simp)
          have hbpc := hbpb.grown gc (by first | (simp; omega) | simp)
          have hbrc := hbrb.grown gc (by first | (simp; omega) | simp)
          have hbac := hbab.set 0 (.int .i64 ((a0 : Int) + 1))
          have hEc := hEb.setCell (p := ⟨bf + 1, 0, none⟩) (by show _ ≤ bf + 1; omega) (.int .i64 ((a0 : Int) + 1))
          have hKc := hKb.step gc hbab (HNG.out _ (.inr (.inl rfl))) (.inl (by show bf + 1 < _; omega)) (by decide)
          obtain ⟨c10, c11, c12⟩ := cell3 hgx0
          obtain ⟨c20, c21, c22⟩ := cell3 hbf
          have c5 := cell1 hbab
          have f5 := hbab.frozen 0
          have c6 := cell1 hbpc
          have c7 := cell1 hbec
          have f7 := hbec.frozen 0
          gi_wp2_with (refine wpListIn_skipRun rfl rfl (by intro c h; cases h) (store_row_run (cells := #[.int .i64 (fa : Int), .int .i64 (fb : Int), .slice Ab fbl cb]) rfl rfl rfl hbfa (Try.flSize _ _ _) rfl (fl_one _ _ _ _ _)) ?_)
          have gd := grown_set ((W.setRow bf #[.int .i64 (fa : Int), .int .i64 (fb : Int), .slice Ab fbl cb]).setCell ⟨bf + 1, 0, none⟩ (.int .i64 ((a0 : Int) + 1))) ⟨bf + 1 + 1, 0, none⟩ (.int .i64 0)
          have hKd := hKc.step gd hbec (HNG.out _ (.inr (.inr rfl))) (.inl (by show bf + 1 + 1 < _; omega)) (by decide)
          exact ⟨hKd.1, rfl, by rw [HZ.out], ⟨_, by rw [HFS.out, hfa, hfb]; exact hbfc.grown gd (by first | (simp; omega) | simp), by rw [HFS.out]; exact HBS.out.kept hKd.2.2⟩, by rw [hA1]; exact hbac.grown gd (by simp), hbec.set 0 (.int .i64 0), hbrc.grown gd (by first | (simp; omega) | simp), hEc.setCell (p := ⟨bf + 1 + 1, 0, none⟩) (by show _ ≤ bf + 1 + 1; omega) _⟩
        · have d7 : ((s : Int) == z) = false := by rw [beq_eq_false_iff_ne]; omega
          have hgxa := hgx0
          have hbfa := hbf
          have hbaa := hba
          have hbea := hbe'
          have hbpa := hbp
          have hbra := hbr
          have hEa := hE
          have hKa := hK0
          have gb := grown_row W bf #[.int .i64 (fa : Int), .int .i64 (fb : Int), .slice Ab fbl cb]
          have hbfb := hbfa.row #[.int .i64 (fa : Int), .int .i64 (fb : Int), .slice Ab fbl cb]
          have hbab := hbaa.grown gb (by first | (simp; omega) | simp)
          have hbeb := hbea.grown gb (by first | (simp; omega) | simp)
          have hbpb := hbpa.grown gb (by first | (simp; omega) | simp)
          have hbrb := hbra.grown gb (by first | (simp; omega) | simp)
          have hEb := hEa.setRow (g := bf) (by omega) #[.int .i64 (fa : Int), .int .i64 (fb : Int), .slice Ab fbl cb]
          have hKb := hKa.step gb hbfa (HNG.out _ (.inl rfl)) (.inl (by omega)) (by decide)
          have gc := grown_set (W.setRow bf #[.int .i64 (fa : Int), .int .i64 (fb : Int), .slice Ab fbl cb]) ⟨bf + 1, 0, none⟩ (.int .i64 ((a0 : Int) + 1))
          have hbfc := hbfb.grown gc (by first | (simp; omega) | simp)
          have hbec := hbeb.grown gc (by first | (simp; omega) | simp)
          have hbpc := hbpb.grown gc (by first | (simp; omega) | simp)
          have hbrc := hbrb.grown gc (by first | (simp; omega) | simp)
          have hbac := hbab.set 0 (.int .i64 ((a0 : Int) + 1))
          have hEc := hEb.setCell (p := ⟨bf + 1, 0, none⟩) (by show _ ≤ bf + 1; omega) (.int .i64 ((a0 : Int) + 1))
          have hKc := hKb.step gc hbab (HNG.out _ (.inr (.inl rfl))) (.inl (by show bf + 1 < _; omega)) (by decide)
          obtain ⟨c10, c11, c12⟩ := cell3 hgx0
          obtain ⟨c20, c21, c22⟩ := cell3 hbf
          have c5 := cell1 hbab
          have f5 := hbab.frozen 0
          have c6 := cell1 hbpc
          gi_wp2_with (refine wpListIn_skipRun rfl rfl (by intro c h; cases h) (store_row_run (cells := #[.int .i64 (fa : Int), .int .i64 (fb : Int), .slice Ab fbl cb]) rfl rfl rfl hbfa (Try.flSize _ _ _) rfl (fl_one _ _ _ _ _)) ?_)
          exact ⟨hKc.1, hKc.2.1, by omega, ⟨_, by rw [HFS.out, hfa, hfb]; exact hbfc, by rw [HFS.out]; exact HBS.out.kept hKc.2.2⟩, by rw [hA1]; exact hbac, hbec, hbpc, hbrc, hEc⟩
      · have n1 : ((fa : Int) != (qa : Int)) = true := by rw [bne_iff_ne]; omega
        have hA1 : (aheadAt (flN N) (s + 1) : Int) = 0 := by rw [HST.out, if_neg (by omega)]; rfl
        clear hcase
        by_cases hsz2 : s = z.toNat
        · have d7 : ((s : Int) == z) = true := by rw [beq_iff_eq]; omega
          have HZ := Lib.hid hsz2
          clear hsz2
          have ga1 := grown_set W ⟨bf + 1, 0, none⟩ (.int .i64 (-1))
          have hgxa := hgx0.grown ga1 (by first | (simp; omega) | simp)
          have hbfa := hbf.grown ga1 (by first | (simp; omega) | simp)
          have hbea := hbe'.grown ga1 (by first | (simp; omega) | simp)
          have hbpa := hbp.grown ga1 (by first | (simp; omega) | simp)
          have hbra := hbr.grown ga1 (by first | (simp; omega) | simp)
          have hbaa := hba.set 0 (.int .i64 (-1))
          have hEa := hE.setCell (p := ⟨bf + 1, 0, none⟩) (by show _ ≤ bf + 1; omega) (.int .i64 (-1))
          have hKa := hK0.step ga1 hba (HNG.out _ (.inr (.inl rfl))) (.inl (by show bf + 1 < _; omega)) (by decide)
          have gb := grown_row (W.setCell ⟨bf + 1, 0, none⟩ (.int .i64 (-1))) bf #[.int .i64 (fa : Int), .int .i64 (fb : Int), .slice Ab fbl cb]
          have hbfb := hbfa.row #[.int .i64 (fa : Int), .int .i64 (fb : Int), .slice Ab fbl cb]
          have hbab := hbaa.grown gb (by first | (simp; omega) | simp)
          have hbeb := hbea.grown gb (by first | (simp; omega) | simp)
          have hbpb := hbpa.grown gb (by first | (simp; omega) | simp)
          have hbrb := hbra.grown gb (by first | (simp; omega) | simp)
          have hEb := hEa.setRow (g := bf) (by omega) #[.int .i64 (fa : Int), .int .i64 (fb : Int), .slice Ab fbl cb]
          have hKb := hKa.step gb hbfa (HNG.out _ (.inl rfl)) (.inl (by omega)) (by decide)
          have gc := grown_set ((W.setCell ⟨bf + 1, 0, none⟩ (.int .i64 (-1))).setRow bf #[.int .i64 (fa : Int), .int .i64 (fb : Int), .slice Ab fbl cb]) ⟨bf + 1, 0, none⟩ (.int .i64 0)
          have hbfc := hbfb.grown gc (by first | (simp; omega) | simp)
          have hbec := hbeb.grown gc (by first | (simp; omega) | simp)
          have hbpc := hbpb.grown gc (by first | (simp; omega) | simp)
          have hbrc := hbrb.grown gc (by first | (simp; omega) | simp)
          have hbac := hbab.set 0 (.int .i64 0)
          have hEc := hEb.setCell (p := ⟨bf + 1, 0, none⟩) (by show _ ≤ bf + 1; omega) (.int .i64 0)
          have hKc := hKb.step gc hbab (HNG.out _ (.inr (.inl rfl))) (.inl (by show bf + 1 < _; omega)) (by decide)
          obtain ⟨c10, c11, c12⟩ := cell3 hgx0
          obtain ⟨c20, c21, c22⟩ := cell3 hbf
          obtain ⟨c30, c31, c32⟩ := cell3 hgxa
          have c4 := cell1 hba
          have f4 := hba.frozen 0
          have c5 := cell1 hbab
          have f5 := hbab.frozen 0
          have c6 := cell1 hbpc
          have c7 := cell1 hbec
          have f7 := hbec.frozen 0
          gi_wp2_with (refine wpListIn_skipRun rfl rfl (by intro c h; cases h) (store_row_run (cells := #[.int .i64 (fa : Int), .int .i64 (fb : Int), .slice Ab fbl cb]) rfl rfl rfl hbfa (Try.flSize _ _ _) rfl (fl_one _ _ _ _ _)) ?_)
          have gd := grown_set (((W.setCell ⟨bf + 1, 0, none⟩ (.int .i64 (-1))).setRow bf #[.int .i64 (fa : Int), .int .i64 (fb : Int), .slice Ab fbl cb]).setCell ⟨bf + 1, 0, none⟩ (.int .i64 0)) ⟨bf + 1 + 1, 0, none⟩ (.int .i64 0)
          have hKd := hKc.step gd hbec (HNG.out _ (.inr (.inr rfl))) (.inl (by show bf + 1 + 1 < _; omega)) (by decide)
          exact ⟨hKd.1, rfl, by rw [HZ.out], ⟨_, by rw [HFS.out, hfa, hfb]; exact hbfc.grown gd (by first | (simp; omega) | simp), by rw [HFS.out]; exact HBS.out.kept hKd.2.2⟩, by rw [hA1]; exact hbac.grown gd (by simp), hbec.set 0 (.int .i64 0), hbrc.grown gd (by first | (simp; omega) | simp), hEc.setCell (p := ⟨bf + 1 + 1, 0, none⟩) (by show _ ≤ bf + 1 + 1; omega) _⟩
        · have d7 : ((s : Int) == z) = false := by rw [beq_eq_false_iff_ne]; omega
          have ga1 := grown_set W ⟨bf + 1, 0, none⟩ (.int .i64 (-1))
          have hgxa := hgx0.grown ga1 (by first | (simp; omega) | simp)
          have hbfa := hbf.grown ga1 (by first | (simp; omega) | simp)
          have hbea := hbe'.grown ga1 (by first | (simp; omega) | simp)
          have hbpa := hbp.grown ga1 (by first | (simp; omega) | simp)
          have hbra := hbr.grown ga1 (by first | (simp; omega) | simp)
          have hbaa := hba.set 0 (.int .i64 (-1))
          have hEa := hE.setCell (p := ⟨bf + 1, 0, none⟩) (by show _ ≤ bf + 1; omega) (.int .i64 (-1))
          have hKa := hK0.step ga1 hba (HNG.out _ (.inr (.inl rfl))) (.inl (by show bf + 1 < _; omega)) (by decide)
          have gb := grown_row (W.setCell ⟨bf + 1, 0, none⟩ (.int .i64 (-1))) bf #[.int .i64 (fa : Int), .int .i64 (fb : Int), .slice Ab fbl cb]
          have hbfb := hbfa.row #[.int .i64 (fa : Int), .int .i64 (fb : Int), .slice Ab fbl cb]
          have hbab := hbaa.grown gb (by first | (simp; omega) | simp)
          have hbeb := hbea.grown gb (by first | (simp; omega) | simp)
          have hbpb := hbpa.grown gb (by first | (simp; omega) | simp)
          have hbrb := hbra.grown gb (by first | (simp; omega) | simp)
          have hEb := hEa.setRow (g := bf) (by omega) #[.int .i64 (fa : Int), .int .i64 (fb : Int), .slice Ab fbl cb]
          have hKb := hKa.step gb hbfa (HNG.out _ (.inl rfl)) (.inl (by omega)) (by decide)
          have gc := grown_set ((W.setCell ⟨bf + 1, 0, none⟩ (.int .i64 (-1))).setRow bf #[.int .i64 (fa : Int), .int .i64 (fb : Int), .slice Ab fbl cb]) ⟨bf + 1, 0, none⟩ (.int .i64 0)
          have hbfc := hbfb.grown gc (by first | (simp; omega) | simp)
          have hbec := hbeb.grown gc (by first | (simp; omega) | simp)
          have hbpc := hbpb.grown gc (by first | (simp; omega) | simp)
          have hbrc := hbrb.grown gc (by first | (simp; omega) | simp)
          have hbac := hbab.set 0 (.int .i64 0)
          have hEc := hEb.setCell (p := ⟨bf + 1, 0, none⟩) (by show _ ≤ bf + 1; omega) (.int .i64 0)
          have hKc := hKb.step gc hbab (HNG.out _ (.inr (.inl rfl))) (.inl (by show bf + 1 < _; omega)) (by decide)
          obtain ⟨c10, c11, c12⟩ := cell3 hgx0
          obtain ⟨c20, c21, c22⟩ := cell3 hbf
          obtain ⟨c30, c31, c32⟩ := cell3 hgxa
          have c4 := cell1 hba
          have f4 := hba.frozen 0
          have c5 := cell1 hbab
          have f5 := hbab.frozen 0
          have c6 := cell1 hbpc
          gi_wp2_with (refine wpListIn_skipRun rfl rfl (by intro c h; cases h) (store_row_run (cells := #[.int .i64 (fa : Int), .int .i64 (fb : Int), .slice Ab fbl cb]) rfl rfl rfl hbfa (Try.flSize _ _ _) rfl (fl_one _ _ _ _ _)) ?_)
          exact ⟨hKc.1, hKc.2.1, by omega, ⟨_, by rw [HFS.out, hfa, hfb]; exact hbfc, by rw [HFS.out]; exact HBS.out.kept hKc.2.2⟩, by rw [hA1]; exact hbac, hbec, hbpc, hbrc, hEc⟩
      · have n1 : ((fa : Int) != (qa : Int)) = false := by rw [bne_eq_false_iff_eq]; omega
        have n2 : ((fb : Int) != (qb : Int)) = true := by rw [bne_iff_ne]; omega
        have hA1 : (aheadAt (flN N) (s + 1) : Int) = 0 := by rw [HST.out, if_neg (by omega)]; rfl
        clear hcase
        by_cases hsz2 : s = z.toNat
        · have d7 : ((s : Int) == z) = true := by rw [beq_iff_eq]; omega
          have HZ := Lib.hid hsz2
          clear hsz2
          have ga1 := grown_set W ⟨bf + 1, 0, none⟩ (.int .i64 (-1))
          have hgxa := hgx0.grown ga1 (by first | (simp; omega) | simp)
          have hbfa := hbf.grown ga1 (by first | (simp; omega) | simp)
          have hbea := hbe'.grown ga1 (by first | (simp; omega) | simp)
          have hbpa := hbp.grown ga1 (by first | (simp; omega) | simp)
          have hbra := hbr.grown ga1 (by first | (simp; omega) | simp)
          have hbaa := hba.set 0 (.int .i64 (-1))
          have hEa := hE.setCell (p := ⟨bf + 1, 0, none⟩) (by show _ ≤ bf + 1; omega) (.int .i64 (-1))
          have hKa := hK0.step ga1 hba (HNG.out _ (.inr (.inl rfl))) (.inl (by show bf + 1 < _; omega)) (by decide)
          have gb := grown_row (W.setCell ⟨bf + 1, 0, none⟩ (.int .i64 (-1))) bf #[.int .i64 (fa : Int), .int .i64 (fb : Int), .slice Ab fbl cb]
          have hbfb := hbfa.row #[.int .i64 (fa : Int), .int .i64 (fb : Int), .slice Ab fbl cb]
          have hbab := hbaa.grown gb (by first | (simp; omega) | simp)
          have hbeb := hbea.grown gb (by first | (simp; omega) | simp)
          have hbpb := hbpa.grown gb (by first | (simp; omega) | simp)
          have hbrb := hbra.grown gb (by first | (simp; omega) | simp)
          have hEb := hEa.setRow (g := bf) (by omega) #[.int .i64 (fa : Int), .int .i64 (fb : Int), .slice Ab fbl cb]
          have hKb := hKa.step gb hbfa (HNG.out _ (.inl rfl)) (.inl (by omega)) (by decide)
          have gc := grown_set ((W.setCell ⟨bf + 1, 0, none⟩ (.int .i64 (-1))).setRow bf #[.int .i64 (fa : Int), .int .i64 (fb : Int), .slice Ab fbl cb]) ⟨bf + 1, 0, none⟩ (.int .i64 0)
          have hbfc := hbfb.grown gc (by first | (simp; omega) | simp)
          have hbec := hbeb.grown gc (by first | (simp; omega) | simp)
          have hbpc := hbpb.grown gc (by first | (simp; omega) | simp)
          have hbrc := hbrb.grown gc (by first | (simp; omega) | simp)
          have hbac := hbab.set 0 (.int .i64 0)
          have hEc := hEb.setCell (p := ⟨bf + 1, 0, none⟩) (by show _ ≤ bf + 1; omega) (.int .i64 0)
          have hKc := hKb.step gc hbab (HNG.out _ (.inr (.inl rfl))) (.inl (by show bf + 1 < _; omega)) (by decide)
          obtain ⟨c10, c11, c12⟩ := cell3 hgx0
          obtain ⟨c20, c21, c22⟩ := cell3 hbf
          obtain ⟨c30, c31, c32⟩ := cell3 hgxa
          have c4 := cell1 hba
          have f4 := hba.frozen 0
          have c5 := cell1 hbab
          have f5 := hbab.frozen 0
          have c6 := cell1 hbpc
          have c7 := cell1 hbec
          have f7 := hbec.frozen 0
          gi_wp2_with (refine wpListIn_skipRun rfl rfl (by intro c h; cases h) (store_row_run (cells := #[.int .i64 (fa : Int), .int .i64 (fb : Int), .slice Ab fbl cb]) rfl rfl rfl hbfa (Try.flSize _ _ _) rfl (fl_one _ _ _ _ _)) ?_)
          have gd := grown_set (((W.setCell ⟨bf + 1, 0, none⟩ (.int .i64 (-1))).setRow bf #[.int .i64 (fa : Int), .int .i64 (fb : Int), .slice Ab fbl cb]).setCell ⟨bf + 1, 0, none⟩ (.int .i64 0)) ⟨bf + 1 + 1, 0, none⟩ (.int .i64 0)
          have hKd := hKc.step gd hbec (HNG.out _ (.inr (.inr rfl))) (.inl (by show bf + 1 + 1 < _; omega)) (by decide)
          exact ⟨hKd.1, rfl, by rw [HZ.out], ⟨_, by rw [HFS.out, hfa, hfb]; exact hbfc.grown gd (by first | (simp; omega) | simp), by rw [HFS.out]; exact HBS.out.kept hKd.2.2⟩, by rw [hA1]; exact hbac.grown gd (by simp), hbec.set 0 (.int .i64 0), hbrc.grown gd (by first | (simp; omega) | simp), hEc.setCell (p := ⟨bf + 1 + 1, 0, none⟩) (by show _ ≤ bf + 1 + 1; omega) _⟩
        · have d7 : ((s : Int) == z) = false := by rw [beq_eq_false_iff_ne]; omega
          have ga1 := grown_set W ⟨bf + 1, 0, none⟩ (.int .i64 (-1))
          have hgxa := hgx0.grown ga1 (by first | (simp; omega) | simp)
          have hbfa := hbf.grown ga1 (by first | (simp; omega) | simp)
          have hbea := hbe'.grown ga1 (by first | (simp; omega) | simp)
          have hbpa := hbp.grown ga1 (by first | (simp; omega) | simp)
          have hbra := hbr.grown ga1 (by first | (simp; omega) | simp)
          have hbaa := hba.set 0 (.int .i64 (-1))
          have hEa := hE.setCell (p := ⟨bf + 1, 0, none⟩) (by show _ ≤ bf + 1; omega) (.int .i64 (-1))
          have hKa := hK0.step ga1 hba (HNG.out _ (.inr (.inl rfl))) (.inl (by show bf + 1 < _; omega)) (by decide)
          have gb := grown_row (W.setCell ⟨bf + 1, 0, none⟩ (.int .i64 (-1))) bf #[.int .i64 (fa : Int), .int .i64 (fb : Int), .slice Ab fbl cb]
          have hbfb := hbfa.row #[.int .i64 (fa : Int), .int .i64 (fb : Int), .slice Ab fbl cb]
          have hbab := hbaa.grown gb (by first | (simp; omega) | simp)
          have hbeb := hbea.grown gb (by first | (simp; omega) | simp)
          have hbpb := hbpa.grown gb (by first | (simp; omega) | simp)
          have hbrb := hbra.grown gb (by first | (simp; omega) | simp)
          have hEb := hEa.setRow (g := bf) (by omega) #[.int .i64 (fa : Int), .int .i64 (fb : Int), .slice Ab fbl cb]
          have hKb := hKa.step gb hbfa (HNG.out _ (.inl rfl)) (.inl (by omega)) (by decide)
          have gc := grown_set ((W.setCell ⟨bf + 1, 0, none⟩ (.int .i64 (-1))).setRow bf #[.int .i64 (fa : Int), .int .i64 (fb : Int), .slice Ab fbl cb]) ⟨bf + 1, 0, none⟩ (.int .i64 0)
          have hbfc := hbfb.grown gc (by first | (simp; omega) | simp)
          have hbec := hbeb.grown gc (by first | (simp; omega) | simp)
          have hbpc := hbpb.grown gc (by first | (simp; omega) | simp)
          have hbrc := hbrb.grown gc (by first | (simp; omega) | simp)
          have hbac := hbab.set 0 (.int .i64 0)
          have hEc := hEb.setCell (p := ⟨bf + 1, 0, none⟩) (by show _ ≤ bf + 1; omega) (.int .i64 0)
          have hKc := hKb.step gc hbab (HNG.out _ (.inr (.inl rfl))) (.inl (by show bf + 1 < _; omega)) (by decide)
          obtain ⟨c10, c11, c12⟩ := cell3 hgx0
          obtain ⟨c20, c21, c22⟩ := cell3 hbf
          obtain ⟨c30, c31, c32⟩ := cell3 hgxa
          have c4 := cell1 hba
          have f4 := hba.frozen 0
          have c5 := cell1 hbab
          have f5 := hbab.frozen 0
          have c6 := cell1 hbpc
          gi_wp2_with (refine wpListIn_skipRun rfl rfl (by intro c h; cases h) (store_row_run (cells := #[.int .i64 (fa : Int), .int .i64 (fb : Int), .slice Ab fbl cb]) rfl rfl rfl hbfa (Try.flSize _ _ _) rfl (fl_one _ _ _ _ _)) ?_)
          exact ⟨hKc.1, hKc.2.1, by omega, ⟨_, by rw [HFS.out, hfa, hfb]; exact hbfc, by rw [HFS.out]; exact HBS.out.kept hKc.2.2⟩, by rw [hA1]; exact hbac, hbec, hbpc, hbrc, hEc⟩
      -- ENDWAYS
    case done =>
      rintro D s W hD rfl ⟨hsz, ⟨vf, hbf, hvf⟩, hba, hbe', hbp, hbr, hE⟩ hK
      have e0 : atE N z = 6 := by rw [HAE.out, if_neg (show ¬ z < 0 by omega), if_neg (by omega)]
      have eF : atF N z = fl0 := by rw [HAF.out, e0]; rfl
      have eK : atK N z = 0 := by rw [HAK.out, e0]; rfl
      have HRES := Lib.hid (And.intro e0 (And.intro eF eK))
      have c7 := cell1 hbe'
      have HBr := Lib.hid hbr
      have HE := Lib.hid hE
      have HK := Lib.hid hK
      clear e0 eF eK hbf hvf hba hbp hbr hE hK hsz hrow hcells HC4 HSTEP
      go_upto_region 16 with fail
      refine wp_eager (grow_pre (w.heap.size + 1)) (n := 5) (by kernel_rfl) (by kernel_rfl) ?_
      refine Eg.batchK (grow_pre (w.heap.size + 1)) (by intro c a d v w h; cases d <;> exact h) (by kernel_rfl) (n := 4) [0] [] _ (by kernel_rfl) (fun K hK => ?_); (simp only [pickOps, List.getElem?_toArray, List.getElem?_cons_zero, List.getElem?_cons_succ, Option.toList_some, List.cons_append, List.nil_append]); (repeat (first | go_big_quiet_step (fail) | quiet_step (fail))); refine wpQuiet_nil (hK _ ?_); clear hK K
      (refine Eg.read (grow_pre (w.heap.size + 1)) (by intro c a d v w h; cases d <;> exact h) (by kernel_rfl) (i := 1) (n := 3) (l := [0]) rfl (by kernel_rfl) (by kernel_rfl) rfl ⟨_, fun w' hR => load_run rfl (load_errno (cell_grown (w := W.drew) c7 hR (by simp; omega))), ?_⟩); (simp only [Act.put, List.setIfInBounds_toArray, List.getElem_toArray, List.getElem_cons_succ, List.getElem_cons_zero, List.set_cons_succ, List.set_cons_zero])
      refine Eg.act (grow_pre (w.heap.size + 1)) (i := 2) (n := 2) (l := [0, 1]) rfl (by kernel_rfl) ?_
      go_wp2_with (refine wpList_store_row rfl 45 _ _ rfl _ _ rfl rfl _ _ HBr.out.drew (Try.flSize _ _ _) rfl (fl_one _ _ _ _ _) ?_)
      refine ⟨grown_row _ _ _, ?_⟩
      refine Eg.batchK (grow_pre (w.heap.size + 1)) (by intro c a d v w h; cases d <;> exact h) (by kernel_rfl) (n := 0) [3, 4] [0, 1, 2] _ (by kernel_rfl) (fun K hK => ?_); (simp only [pickOps, List.getElem?_toArray, List.getElem?_cons_zero, List.getElem?_cons_succ, Option.toList_some, List.cons_append, List.nil_append]); (repeat (first | go_big_quiet_step (fail) | quiet_step (fail))); refine wpQuiet_nil (hK _ ?_); clear hK K
      refine Eg.finish (by kernel_rfl) ?_
      go_wp2_with fail
      rw [Exit.noGoto_ret]
      have hKs : (W.drew.setRow (w.heap.size + 1) #[.int .i64 0, .int .i64 0, .slice none 0 0]).heap[D]? = some (.deferred (some [])) := (setRow_other _ _ _ _ (by omega)).trans HK.out
      exact postM_mark hKs (results_row3 Try.results39 _ _ (w.heap.size + 1) _ #[.int .i64 0, .int .i64 0, .slice none 0 0] (0, 0) _ rfl (Blk.mark (Blk.row HBr.out.drew _) hKs) Try.underlying45 rfl (Try.flSize _ _ _)) (by
        rw [HRES.out.1, HRES.out.2.1, HRES.out.2.2]
        exact ⟨_, rfl, Bs.nil _ _ _ _ (Nat.zero_le _), (HE.out.drew.setRow (by omega) _).mark (by have := HE4.out.size; omega)⟩)
    case stop =>
      rintro D c s W hD hSp ⟨rfl, rfl, ⟨vf, hbf, hvf⟩, hba, hbe', hbr, hE⟩ hK
      have e0 : atE N z = 0 := by rw [HAE.out, if_neg (show ¬ z < 0 by omega), if_pos (by omega)]
      have eF : atF N z = (flN N).getD z.toNat fl0 := by rw [HAF.out, if_pos e0]
      have eF2 : foundAt (flN N) (z.toNat + 1) = atF N z := by rw [eF]; unfold foundAt; rw [if_neg (by omega)]; rfl
      have eK : atK N z = aheadAt (flN N) (z.toNat + 1) := by rw [HAK.out, if_pos e0, eF]; unfold aheadAt; rw [if_neg (by omega)]; rfl
      rw [eF2] at hbf hvf
      rw [← eK] at hba
      have HRES := Lib.hid e0
      obtain ⟨Af, cf, rfl, _⟩ := id hvf
      have c7 := cell1 hbe'
      have c8 := cell1 hba
      obtain ⟨c10, c11, c12⟩ := cell3 hbf
      have HBr := Lib.hid hbr
      have HE := Lib.hid hE
      have HK := Lib.hid hK
      have HVF := Lib.hid hvf
      have hbfl := hbf.lt
      clear e0 eF eF2 eK hbf hvf hba hbr hE hK hSp hrow hcells HC4 HSTEP HAE HAF HAK
      generalize hffb : (atF N z).b = ffb at *
      generalize hffa : (atF N z).from_ = ffa at *
      generalize hfft : (atF N z).to_ = fft at *
      generalize hak : atK N z = ak at *
      go_upto_region 17 with fail
      refine wp_eager (grow_pre (w.heap.size + 1)) (n := 5) (by kernel_rfl) (by kernel_rfl) ?_
      (refine Eg.read (grow_pre (w.heap.size + 1)) (by intro c a d v w h; cases d <;> exact h) (by kernel_rfl) (i := 0) (n := 4) (l := []) rfl (by kernel_rfl) (by kernel_rfl) rfl ⟨_, fun w' hR => load_run rfl (load_fl (cell_grown (w := W.drew) c10 hR (by simp; omega)) (cell_grown (w := W.drew) c11 hR (by simp; omega)) (cell_grown (w := W.drew) c12 hR (by simp; omega))), ?_⟩); (simp only [Act.put, List.setIfInBounds_toArray, List.getElem_toArray, List.getElem_cons_succ, List.getElem_cons_zero, List.set_cons_succ, List.set_cons_zero])
      (refine Eg.read (grow_pre (w.heap.size + 1)) (by intro c a d v w h; cases d <;> exact h) (by kernel_rfl) (i := 1) (n := 3) (l := [0]) rfl (by kernel_rfl) (by kernel_rfl) rfl ⟨_, fun w' hR => load_run rfl (load_i64 (cell_grown (w := W.drew) c8 hR (by simp; omega))), ?_⟩); (simp only [Act.put, List.setIfInBounds_toArray, List.getElem_toArray, List.getElem_cons_succ, List.getElem_cons_zero, List.set_cons_succ, List.set_cons_zero])
      refine Eg.act (grow_pre (w.heap.size + 1)) (i := 2) (n := 2) (l := [0, 1]) rfl (by kernel_rfl) ?_
      go_wp2_with (refine wpList_store_row rfl 45 _ _ rfl _ _ rfl rfl _ _ HBr.out.drew (Try.flSize _ _ _) rfl (fl_one _ _ _ _ _) ?_)
      refine ⟨grown_row _ _ _, ?_⟩
      refine Eg.batchK (grow_pre (w.heap.size + 1)) (by intro c a d v w h; cases d <;> exact h) (by kernel_rfl) (n := 0) [3, 4] [0, 1, 2] _ (by kernel_rfl) (fun K hK => ?_); (simp only [pickOps, List.getElem?_toArray, List.getElem?_cons_zero, List.getElem?_cons_succ, Option.toList_some, List.cons_append, List.nil_append]); (repeat (first | go_big_quiet_step (fail) | quiet_step (fail))); refine wpQuiet_nil (hK _ ?_); clear hK K
      refine Eg.finish (by kernel_rfl) ?_
      go_wp2_with fail
      rw [Exit.noGoto_ret]
      have hKs : (W.drew.setRow (w.heap.size + 1) #[.int .i64 (ffa : Int), .int .i64 (fft : Int), .slice Af ffb.length cf]).heap[D]? = some (.deferred (some [])) := (setRow_other _ _ _ _ (by omega)).trans HK.out
      exact postM_mark hKs (results_row3 Try.results39 _ _ (w.heap.size + 1) _ #[.int .i64 (ffa : Int), .int .i64 (fft : Int), .slice Af ffb.length cf] (0, 0) _ rfl (Blk.mark (Blk.row HBr.out.drew _) hKs) Try.underlying45 rfl (Try.flSize _ _ _)) (by
        rw [HRES.out, hffa, hfft, hffb, hak]
        exact ⟨_, rfl, HVF.out.kept (fun k cur hb => Blk.mark ((Blk.drew hb).grown (grown_row _ _ _) (fun e => by cases e; exact absurd (HBr.out.type hb).1 (by decide))) hKs), (HE.out.drew.setRow (by omega) _).mark (by have := HE4.out.size; omega)⟩)

end Go.Proofs.Ytahooohokdbnpaa
