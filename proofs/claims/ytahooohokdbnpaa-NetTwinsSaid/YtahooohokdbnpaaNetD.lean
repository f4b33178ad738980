
/-
  The closure of net.flights as an iterator.
-/
import Derived.Test.YtahooohokdbnpaaNetC
set_option linter.unusedVariables false
set_option linter.unusedSimpArgs false
namespace Go.Proofs.Ytahooohokdbnpaa
open Go.RowKit Go.Shelf Go.Maps Pl

attribute [local go_sem] Oper.semAt_some

theorem ext_grown {a b : World} (h : Ext a b) (row : Option Nat) : a.grownBy b row := ⟨Below.os h, Below.tape h, Below.output h, h.size, fun k hk _ => h.block hk⟩
/-- yield is not nil -/
theorem nil_yield (t : TypeId) (ht : ((Try.prog.underlying t).map fun d => match d with | .func .. => true | _ => false) = some true) (l : Nat) (w : World) : (binOp .eql t (.func (.yield l) #[] #[]) .nilFunc).run Try.prog w = .ok (.bool false) w := by
  cases hu : Try.prog.underlying t with
  | none => rw [hu] at ht; cases ht
  | some d =>
    rw [hu] at ht
    cases d with
    | func a b c =>
      have h1 : ∀ d, (Op.equalIn (d + 1) t (.func (.yield l) #[] #[]) .nilFunc).run Try.prog w = .ok false w := fun d => by simp [Op.equalIn, run_underlying hu]
      have h2 : (Op.equal t (.func (.yield l) #[] #[]) .nilFunc).run Try.prog w = .ok false w := h1 9999
      simp only [binOp]
      simp [h2]
    | _ => simp at ht

theorem load_fl {w : World} {g o : Nat} {x y : Int} {A : Option Addr} {n c : Nat} (h0 : w.cell? ⟨g, o, none⟩ = some (.int .i64 x)) (h1 : w.cell? ⟨g, o + 1, none⟩ = some (.int .i64 y)) (h2 : w.cell? ⟨g, o + 2, none⟩ = some (.slice A n c)) :
    (Instr.loadAt 45 (.pointer (some ⟨g, o, none⟩))).run Try.prog w = .ok (.agg #[.int .i64 x, .int .i64 y, .slice A n c]) w := by
  simp [go_sem, h0, h1, h2, Try.underlying45]

theorem Bs.kept {e : TypeId} {w w' : World} {v : Value} {l : List UInt8} (h : Bs e w v l) (hk : ∀ k cur, Blk w k e cur → Blk w' k e cur) : Bs e w' v l := by
  obtain ⟨A, c, rfl, h1, h2, h3⟩ := h
  refine ⟨A, c, rfl, h1, h2, ?_⟩
  rcases h3 with rfl | ⟨g, o, cur, rfl, hb, hc⟩
  · exact .inl rfl
  · exact .inr ⟨g, o, cur, rfl, hk g cur hb, hc⟩
/-- the iterator's rounds -/
def flX (fs : List Fl) (N s : Nat) (args : Array Value) (s' : Nat) (A : World) : Prop :=
  s < fs.length ∧ s' = s + 1 ∧ N ≤ A.heap.size ∧ ∃ vb, args = #[.int .i64 (s : Int), .agg #[.int .i64 ((fs.getD s fl0).from_ : Int), .int .i64 ((fs.getD s fl0).to_ : Int), vb]] ∧ Bs 5 A vb (fs.getD s fl0).b
def flG (w0 : World) (gl : Nat) (v : Value) (k : Nat) : Prop := k = gl ∨ v.ownBlock = some k ∨ ∃ cur, Blk w0 k 5 cur
def flC (w0 : World) (gl : Nat) (v : Value) (cs : List Value) (fs : List Fl) (W : World) : Prop :=
  Blk W gl 41 #[v] ∧ W.ownsRow 0 45 3 v fs.length cs ∧ ∀ k cur, Blk w0 k 5 cur → Blk W k 5 cur
theorem flX_firm (fs : List Fl) (N s : Nat) (args : Array Value) (s' : Nat) : Firm (flX fs N s args s') := by
  rintro A B row ⟨h1, h2, hN, vb, h3, h4⟩ hg hr
  exact ⟨h1, h2, Nat.le_trans hN hg.size, vb, h3, h4.kept (fun k cur hb => hb.firm hg hr)⟩
theorem flC.keep {w0 W W' : World} {gl : Nat} {v : Value} {cs : List Value} {fs : List Fl} (h : flC w0 gl v cs fs W) (hk : ∀ k, k < W.heap.size → flG w0 gl v k → W'.heap[k]? = W.heap[k]?) : flC w0 gl v cs fs W' := by
  obtain ⟨h1, ⟨h2, h3⟩, h4⟩ := h
  refine ⟨(hk gl h1.lt (.inl rfl)).trans h1, ⟨h2, ?_⟩, fun k cur hb => (hk k (h4 k cur hb).lt (.inr (.inr ⟨cur, hb⟩))).trans (h4 k cur hb)⟩
  rcases h3 with h3 | ⟨g, cap, cur, rfl, hb, hh, r⟩
  · exact .inl h3
  · exact .inr ⟨g, cap, cur, rfl, hb, (hk g (Blk.lt (t := 45) hh) (.inr (.inl rfl))).trans hh, r⟩
theorem flC.ext {w0 W W' : World} {gl : Nat} {v : Value} {cs : List Value} {fs : List Fl} (h : flC w0 gl v cs fs W) (hE : Ext W W') : flC w0 gl v cs fs W' := h.keep (fun k hk _ => hE.block hk)
/-- the flight at a place -/
theorem flC.at_ {w0 W : World} {gl : Nat} {v : Value} {cs : List Value} {fs : List Fl} (h : flC w0 gl v cs fs W) (hc : FlCells w0 cs fs) {s : Nat} (hs : s < fs.length) :
    ∃ gr c Ab cb, v = .slice (some ⟨gr, 0, none⟩) fs.length c ∧ W.cell? ⟨gr, s * 3, none⟩ = some (.int .i64 ((fs.getD s fl0).from_ : Int)) ∧ W.cell? ⟨gr, s * 3 + 1, none⟩ = some (.int .i64 ((fs.getD s fl0).to_ : Int)) ∧ W.cell? ⟨gr, s * 3 + 2, none⟩ = some (.slice Ab (fs.getD s fl0).b.length cb) ∧
      Bs 5 W (.slice Ab (fs.getD s fl0).b.length cb) (fs.getD s fl0).b := by
  obtain ⟨h1, hr, h4⟩ := h
  obtain ⟨vb, c0, c1, c2, hb⟩ := hc.2 s hs
  have hb' := hb.kept h4
  obtain ⟨Ab, cb, e, _⟩ := hb
  subst e
  have hcell := fun g (hg : v.ownBlock = some g) => World.ownsRow.cells hr hg
  obtain ⟨_, h2⟩ := hr
  rcases h2 with ⟨rfl, hn⟩ | ⟨g, cap, cur, rfl, _⟩
  · omega
  · have hx := hcell g rfl
    have e0 : ∀ j, (⟨g, 0, none⟩ : Addr).add j = ⟨g, j, none⟩ := fun j => by unfold Addr.add; split <;> simp_all
    refine ⟨g, cap, Ab, cb, rfl, ?_, ?_, ?_, hb'⟩
    · rw [← e0, Nat.mul_comm]; exact hx _ _ c0
    · rw [← e0, Nat.mul_comm]; exact hx _ _ c1
    · rw [← e0, Nat.mul_comm]; exact hx _ _ c2

set_option maxHeartbeats 1600000 in
set_option maxRecDepth 100000 in
theorem flights_seq (w0 : World) (gl : Nat) (v : Value) (cs : List Value) (fs : List Fl) (hc : FlCells w0 cs fs) (hl : fs.length ≤ 1000000) (n : Nat) (hn : 1 ≤ n) :
    SeqX n Try.prog 52 #[.pointer (some ⟨gl, 0, none⟩)] (flG w0 gl v) 0 (flX fs) (fun s => s = fs.length) (fun s => s ≤ fs.length) 0 (flC w0 gl v cs fs) := by
  intro l J Jx W hC hJ hJx hY h0
  refine callsIn_of_wp Try.func52 rfl trivial ?_ rfl
  simp only [Try.ntmps52, List.size_toArray, List.length_cons, List.length_nil, Nat.reduceAdd, Nat.reduceSub, Array.replicate_succ, Array.replicate_zero, List.push_toArray, List.append_toArray, List.nil_append, List.cons_append]
  have hcv : W.cell? ⟨gl, 0, none⟩ = some v := by rw [hC.1.cell]; rfl
  obtain ⟨A, c, hvf⟩ := row_form hC.2.1
  have HC := Lib.hid hC
  have HJ := Lib.hid hJ
  have HY := Lib.hid hY
  have H0 := Lib.hid h0
  have HCC := Lib.hid hc
  clear hC hJ hY h0 hJx hc
  subst hvf
  generalize hfl : fs.length = m at *
  gi_wp2_with fail
  gi_loopw [7] (fun i wr => ∃ k : Nat, k ≤ m ∧ i = .int .i64 (k : Int) ∧ J k wr ∧ flC w0 gl (.slice A m c) cs fs wr ∧ W.heap.size ≤ wr.heap.size) (fun i _ => m - (intOf i).toNat)
  case atStart => exact ⟨0, Nat.zero_le _, rfl, H0.out, HC.out, Nat.le_refl _⟩
  case round =>
    obtain ⟨k, hk, rfl, hJk, hCk, hWs⟩ := hrel
    have HJk := Lib.hid hJk
    have HCk := Lib.hid hCk
    clear hJk hCk
    by_cases hlt : k < m
    · have hd : decide ((k : Int) < (m : Int)) = true := decide_eq_true (by omega)
      obtain ⟨gr, c', Ab, cb, e, c0, c1, c2, hb⟩ := HCk.out.at_ HCC.out (s := k) (by omega)
      cases e
      have hX : ∀ B, Ext wr B → flX fs W.heap.size k #[.int .i64 (k : Int), .agg #[.int .i64 ((fs.getD k fl0).from_ : Int), .int .i64 ((fs.getD k fl0).to_ : Int), .slice Ab (fs.getD k fl0).b.length cb]] (k + 1) B := fun B hB => ⟨by omega, rfl, Nat.le_trans hWs hB.size, _, rfl, hb.ext hB⟩
      have hEx := ext_new wr (.cells #[.int .i64 ((fs.getD k fl0).from_ : Int), .int .i64 ((fs.getD k fl0).to_ : Int), .slice Ab (fs.getD k fl0).b.length cb] 45)
      have HBX := Blk.new wr 45 #[.int .i64 ((fs.getD k fl0).from_ : Int), .int .i64 ((fs.getD k fl0).to_ : Int), .slice Ab (fs.getD k fl0).b.length cb]
      obtain ⟨fn, tmps, assign, body, hy, hR⟩ := HY.out k _ _ _ (HJ.out k wr _ none HJk.out (ext_grown hEx none) (fun r e => by cases e)) (hX _ hEx)
      have hld1 := load_fl c0 c1 c2
      have hld2 := load_fl (g := wr.heap.size) (o := 0) (by rw [HBX.cell]; rfl) (by rw [HBX.cell]; rfl) (by rw [HBX.cell]; rfl)
      have hnil := fun W => nil_yield 86 (by kernel_rfl) l W
      have HR2 := Lib.hid hR
      have HC4 := Lib.hid (HCk.out.ext hEx)
      clear hR hX HBX hb
      generalize (fs.getD k fl0).from_ = fa at *
      generalize (fs.getD k fl0).to_ = fb at *
      generalize (fs.getD k fl0).b.length = fbl at *
      gi_wp2_with fail
      refine HR2.out.mono ?_
      rintro e w5 (⟨rfl, hJ5, hk5, _⟩ | ⟨rfl, hJx5, _⟩)
      · have HJ5 := Lib.hid hJ5
        have HK5 := Lib.hid hk5
        have hws := hEx.size
        clear hJ5 hk5
        gi_wp2_with fail
        exact ⟨⟨k + 1, by omega, by go_num, HJ5.out, HC4.out.keep (fun j hj hg => HK5.out.2 j hj (.inl hg)), by have := HK5.out.1; omega⟩, by simp [intOf]; omega⟩
      · have HJx5 := Lib.hid hJx5
        clear hJx5
        gi_wp2_with fail
        refine bodyPost_ret (results_none rfl _ _ _) rfl ?_
        exact ⟨⟨_, rfl⟩, .inr ⟨k + 1, by omega, HJx5.out⟩⟩
    · obtain rfl : k = m := by omega
      have hd : decide ((k : Int) < (k : Int)) = false := decide_eq_false (by omega)
      gi_wp2
      go_end0
      exact ⟨⟨_, rfl⟩, .inl ⟨k, rfl, HJk.out⟩⟩

end Go.Proofs.Ytahooohokdbnpaa
