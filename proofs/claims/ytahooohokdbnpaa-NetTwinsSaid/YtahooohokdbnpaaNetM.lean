
/-
  A net in memory: what a call leaves alone, but for some blocks; slices of bytes; a net's lines.
-/
import Derived.Test.YtahooohokdbnpaaMap
import Derived.Test.YtahooohokdbnpaaTwo
import Derived.Test.YtahooohokdbnpaaOwn
import Derived.Lib.SliceRun
import Derived.Test.YtahooohokdbnpaaNetP
import Derived.Test.YtahooohokdbnpaaRows
import Derived.DeepKeys4
import Derived.WideKeyEntry
set_option linter.unusedVariables false
set_option linter.unusedSimpArgs false
namespace Go.Proofs.Ytahooohokdbnpaa
open Go.RowKit Go.Maps Pl

theorem ext_new (w : World) (o : Obj) : Ext w (w.alloc o) := (Ext.refl w).alloc o

/-! ## what a call leaves alone, but for some blocks -/
/-- only blocks of S are changed, and new ones made -/
structure Chg (S : Nat → Prop) (w w' : World) : Prop where
  os : w'.os = w.os
  tape : w'.tape = w.tape
  output : w'.output = w.output
  size : w.heap.size ≤ w'.heap.size
  block : ∀ k, k < w.heap.size → ¬ S k → w'.heap[k]? = w.heap[k]?

section
variable {S T : Nat → Prop} {w w' w'' a : World}
theorem Chg.refl (S : Nat → Prop) (w : World) : Chg S w w := ⟨rfl, rfl, rfl, Nat.le_refl _, fun _ _ _ => rfl⟩
theorem Chg.trans (h : Chg S w w') (k : Chg T w' w'') (hT : ∀ i, T i → S i ∨ w.heap.size ≤ i) : Chg S w w'' :=
  ⟨k.os.trans h.os, k.tape.trans h.tape, k.output.trans h.output, Nat.le_trans h.size k.size, fun i hi hs =>
    (k.block i (Nat.lt_of_lt_of_le hi h.size) (fun ht => by rcases hT i ht with h1 | h1; exact hs h1; omega)).trans (h.block i hi hs)⟩
theorem Chg.mono (h : Chg S w w') (hT : ∀ i, S i → T i) : Chg T w w' := ⟨h.os, h.tape, h.output, h.size, fun i hi hs => h.block i hi (fun h1 => hs (hT i h1))⟩
theorem Chg.of_ext (h : Ext w w') : Chg S w w' := ⟨Below.os h, Below.tape h, Below.output h, h.size, fun i hi _ => h.block hi⟩
theorem Chg.of_grown {row : Option Nat} (h : w.grownBy w' row) (hr : ∀ r, row = some r → S r) : Chg S w w' :=
  ⟨h.os, h.tape, h.output, h.size, fun i hi hs => h.block i hi (fun e => hs (hr i e.symm))⟩
theorem Chg.ext (h : Chg S w w') (hE : Ext a w) (hS : ∀ i, S i → a.heap.size ≤ i) : Ext a w' :=
  ⟨h.os.trans (Below.os hE), h.tape.trans (Below.tape hE), h.output.trans (Below.output hE), Nat.le_trans hE.size h.size, fun i hi => (h.block i (Nat.lt_of_lt_of_le hi hE.size) (fun hs => by have := hS i hs; omega)).trans (hE.block hi)⟩
theorem Chg.blk {g : Nat} {t : TypeId} {cs : Array Value} (h : Chg S w w') (hb : Blk w g t cs) (hS : ¬ S g) : Blk w' g t cs := (h.block g hb.lt hS).trans hb
theorem Chg.cell {p : Addr} {v : Value} (h : Chg S w w') (hc : w.cell? p = some v) (hS : ¬ S p.block) : w'.cell? p = some v := by
  rw [World.cell?_of_block (h.block p.block (block_lt_of_cell hc) hS)]
  exact hc
theorem Chg.none (h : Chg (fun _ => False) w w') : Ext w w' := h.ext (Ext.refl w) (fun _ h => h.elim)
end

theorem chg_pre (S : Nat → Prop) : Pre (Chg S) := ⟨Chg.refl S, fun h k => h.trans k (fun _ h => .inl h)⟩
theorem Blk.type {w : World} {g : Nat} {t t' : TypeId} {cs cs' : Array Value} (h : Blk w g t cs) (h' : Blk w g t' cs') : t = t' ∧ cs = cs' := by
  unfold Blk at h h'
  rw [h] at h'
  cases h'
  exact ⟨rfl, rfl⟩

/-- v is a slice of bytes l, in a block of bytes; e: the element type's number -/
def Bs (e : TypeId) (w : World) (v : Value) (l : List UInt8) : Prop :=
  ∃ A c, v = .slice A l.length c ∧ l.length ≤ c ∧ c ≤ maxLen ∧ (l = [] ∨ ∃ g o cur, A = some ⟨g, o, none⟩ ∧ Blk w g e cur ∧ ∀ i, i < l.length → cur[o + i]? = some (.int .u8 (at8 l i)))

section
variable {e : TypeId} {S : Nat → Prop} {w w' : World} {v : Value} {l : List UInt8}
theorem Bs.by_ (h : Bs e w v l) : ∃ A c, v = .slice A l.length c ∧ By w A l ∧ l.length ≤ c ∧ c ≤ maxLen := by
  obtain ⟨A, c, rfl, h1, h2, h3⟩ := h
  refine ⟨A, c, rfl, ?_, h1, h2⟩
  rcases h3 with rfl | ⟨g, o, cur, rfl, hb, hc⟩
  · exact .inl rfl
  · exact .inr ⟨g, o, rfl, fun i hi => by rw [hb.cell]; exact hc i hi⟩
theorem Bs.chg (h : Bs e w v l) (hC : Chg S w w') (hS : ∀ k cur, S k → ¬ Blk w k e cur) : Bs e w' v l := by
  obtain ⟨A, c, rfl, h1, h2, h3⟩ := h
  refine ⟨A, c, rfl, h1, h2, ?_⟩
  rcases h3 with rfl | ⟨g, o, cur, rfl, hb, hc⟩
  · exact .inl rfl
  · exact .inr ⟨g, o, cur, rfl, hC.blk hb (fun hs => hS g cur hs hb), hc⟩
theorem Bs.ext (h : Bs e w v l) (hE : Ext w w') : Bs e w' v l := h.chg (S := fun _ => False) (Chg.of_ext hE) (fun _ _ h => h.elim)
theorem Bs.nil (e : TypeId) (w : World) (A : Option Addr) (c : Nat) (hc : c ≤ maxLen) : Bs e w (.slice A 0 c) [] := ⟨A, c, rfl, Nat.zero_le _, hc, .inl rfl⟩
theorem Bs.of_own {B : Nat} (h : w.ownsRow B e 1 v l.length (l.map u8)) : Bs e w v l := by
  obtain ⟨_, h2⟩ := h
  rcases h2 with ⟨rfl, hn⟩ | ⟨g, cap, cur, rfl, hb, hh, hnc, hcm, hcs, ht⟩
  · have : l = [] := List.eq_nil_of_length_eq_zero hn
    subst this
    exact ⟨none, 0, rfl, Nat.le_refl _, Nat.zero_le _, .inl rfl⟩
  · refine ⟨some ⟨g, 0, none⟩, cap, rfl, hnc, hcm, .inr ⟨g, 0, cur, rfl, hh, fun i hi => ?_⟩⟩
    have h1 : (cur.toList.take (l.length * 1))[i]? = (l.map u8)[i]? := by rw [ht]
    rw [List.getElem?_take_of_lt (by omega)] at h1
    rw [Nat.zero_add, ← Array.getElem?_toList, h1]
    simp [u8, at8, List.getElem?_eq_getElem hi, List.getD_eq_getElem?_getD]
end

/-- v is a slice in memory of its own, and reads as the list of bytes l; e: the number of []byte, b: of byte -/
def Lin (e b : TypeId) (w : World) (B : Nat) (v : Value) (l : List (List UInt8)) : Prop :=
  ∃ vs : List Value, w.ownsRow B e 1 v l.length vs ∧ ∀ i, i < l.length → Bs b w (vs.getD i undef) (l.getD i [])
section
variable {e b : TypeId} {S : Nat → Prop} {w w' : World} {B : Nat} {v : Value} {l : List (List UInt8)}
theorem Lin.chg (h : Lin e b w B v l) (hC : Chg S w w') (hS : ∀ k cur, S k → ¬ Blk w k b cur) (hv : ∀ k, v.ownBlock = some k → ¬ S k) : Lin e b w' B v l := by
  obtain ⟨vs, ⟨h1, h2⟩, h3⟩ := h
  refine ⟨vs, ⟨h1, ?_⟩, fun i hi => (h3 i hi).chg hC hS⟩
  rcases h2 with h2 | ⟨g, cap, cur, rfl, hb, hh, r⟩
  · exact .inl h2
  · exact .inr ⟨g, cap, cur, rfl, hb, Chg.blk hC (t := e) hh (hv g rfl), r⟩
theorem Lin.ext (h : Lin e b w B v l) (hE : Ext w w') : Lin e b w' B v l := h.chg (S := fun _ => False) (Chg.of_ext hE) (fun _ _ h => h.elim) (fun _ _ h => h)
theorem Lin.nil (e b : TypeId) (w : World) (B : Nat) : Lin e b w B (.slice none 0 0) [] := ⟨[], World.ownsRow_nil w B e 1, fun i hi => by simp at hi⟩
theorem Lin.form (h : Lin e b w B v l) : ∃ A c, v = .slice A l.length c ∧ l.length ≤ c ∧ c ≤ maxLen := by
  obtain ⟨vs, ⟨_, h2⟩, _⟩ := h
  rcases h2 with ⟨rfl, hn⟩ | ⟨g, cap, cur, rfl, _, _, hnc, hcm, _⟩
  · exact ⟨none, 0, by rw [hn], by omega, Nat.zero_le _⟩
  · exact ⟨some ⟨g, 0, none⟩, cap, rfl, hnc, hcm⟩
theorem Lin.block (h : Lin e b w B v l) {k : Nat} (hk : v.ownBlock = some k) : B ≤ k ∧ ∃ cur, Blk w k e cur := by
  obtain ⟨vs, ⟨_, h2⟩, _⟩ := h
  rcases h2 with ⟨rfl, hn⟩ | ⟨g, cap, cur, rfl, hb, hh, _⟩
  · cases hk
  · cases hk; exact ⟨hb, cur, hh⟩
theorem Lin.down (h : Lin e b w B v l) {B' : Nat} (hB : B' ≤ B) : Lin e b w B' v l := by
  obtain ⟨vs, ⟨h1, h2⟩, h3⟩ := h
  refine ⟨vs, ⟨h1, ?_⟩, h3⟩
  rcases h2 with h2 | ⟨g, cap, cur, hv, hb, r⟩
  · exact .inl h2
  · exact .inr ⟨g, cap, cur, hv, Nat.le_trans hB hb, r⟩
end

/-! ## a net in memory -/
theorem Try.pairKeys : Keyed Try.prog 79 := Keyed.of_law (deep_law_laid (by kernel_rfl) (m := 2) (by omega) (of_decide_eq_true (by kernel_rfl)) (by kernel_rfl) (by rw [Try.underlying79]))
/-- how a line's key is read -/
def klz (a b : Int) : Lit := .string (keyBytes [.int .i64 a, .int .i64 b])
def kl (p : Nat × Nat) : Lit := klz (p.1 : Int) (p.2 : Int)
theorem typesTwo : ∃ m, Try.prog.types.size = m + 2 := by
  have h : decide (2 ≤ Try.prog.types.size) = true := by kernel_rfl
  have := of_decide_eq_true h
  exact ⟨Try.prog.types.size - 2, by omega⟩
theorem key_pairw {a b : Int} (wa : (Lit.int .i64 a).wf = true) (wb : (Lit.int .i64 b).wf = true) : keyOf Try.prog 79 (.agg #[.int .i64 a, .int .i64 b]) = some (klz a b) := by
  have hkt : Try.prog.keyType 79 = true := by kernel_rfl
  have hc : Try.prog.cellsOf 79 = 2 := by kernel_rfl
  have hc3 : Try.prog.cellsOf 3 = 1 := by kernel_rfl
  obtain ⟨m, hm⟩ := typesTwo
  unfold keyOf
  simp only [Try.underlying79]
  rw [if_pos (by simp [hkt, Value.formed, Try.underlying79, hc]), hm]
  unfold Program.keyLits
  simp only [Try.underlying79, Value.cells]
  rw [if_pos (by rw [hc]; exact ⟨rfl, by decide +kernel⟩)]
  simp [hc3, Program.keyLits, Try.underlying3, wa, wb, klz]
def I64 (z : Int) : Prop := -9223372036854775808 ≤ z ∧ z ≤ 9223372036854775807
theorem key_pair {a b : Int} (ha : I64 a) (hb : I64 b) : keyOf Try.prog 79 (.agg #[.int .i64 a, .int .i64 b]) = some (klz a b) :=
  key_pairw (WalkArith.wf_i64 ha) (WalkArith.wf_i64 hb)
theorem klz_inj {a b c d : Int} (ha : I64 a) (hb : I64 b) (hc : I64 c) (hd : I64 d) (h : klz a b = klz c d) : a = c ∧ b = d := by
  have h1 := Try.pairKeys.inj (key_pair ha hb) (by rw [key_pair hc hd, h])
  cases h1
  exact ⟨rfl, rfl⟩

/-- the lines of a net as its map has them -/
structure LnsAt (w : World) (S : Nat → Prop) (F : Lit → Option Value) (N : Nt) : Prop where
  here : ∀ p, p ∈ linesOf N.ends → (F (kl p) = none ∧ N.L p = []) ∨ ∃ v, F (kl p) = some v ∧ Lin 36 5 w 0 v (N.L p) ∧ ∀ k, v.ownBlock = some k → S k
  apart : ∀ p q v u k, p ∈ linesOf N.ends → q ∈ linesOf N.ends → p ≠ q → F (kl p) = some v → F (kl q) = some u → v.ownBlock = some k → u.ownBlock ≠ some k
  none_ : ∀ l v, F l = some v → ∃ p, p ∈ linesOf N.ends ∧ l = kl p
/-- a net stands in block g; S: blocks of its own; nb: no more entries has its map -/
def NetAt (w : World) (S : Nat → Prop) (g nb : Nat) (N : Nt) : Prop :=
  OkN N ∧ N.lost ≤ nb ∧ ∃ gm F c, Blk w g 75 #[.int .i64 (N.ends : Int), .map (some gm), .int .i64 (N.lost : Int)] ∧ Mp Try.prog 79 w gm nb F c ∧ LnsAt w S F N ∧ S g ∧ S gm ∧ ∀ k, S k → k = g ∨ k = gm ∨ ∃ cur, Blk w k 36 cur

theorem Mp.map {P : Program} {k : TypeId} {w : World} {b n c : Nat} {F : Lit → Option Value} (h : Mp P k w b n F c) : ∃ es cl, w.heap[b]? = some (.map es cl) := by
  obtain ⟨D, ⟨es, cl, hb, _⟩, _⟩ := h
  exact ⟨es, cl, hb⟩
section
variable {S T : Nat → Prop} {w w' : World} {g nb : Nat} {N : Nt}
theorem NetAt.ok (h : NetAt w S g nb N) : OkN N := h.1
theorem NetAt.typ (h : NetAt w S g nb N) {t : TypeId} (h1 : t ≠ 75) (h2 : t ≠ 36) : ∀ k cur, S k → ¬ Blk w k t cur := by
  obtain ⟨_, _, gm, F, c, hb, hm, _, _, _, hk⟩ := h
  intro k cur hs hx
  rcases hk k hs with rfl | rfl | ⟨cur', hx'⟩
  · exact h1 (hx.type hb).1
  · obtain ⟨es, cl, he⟩ := hm.map
    unfold Blk at hx
    rw [hx] at he
    cases he
  · exact h2 (hx.type hx').1
theorem NetAt.bytes (h : NetAt w S g nb N) : ∀ k cur, S k → ¬ Blk w k 5 cur := h.typ (by decide) (by decide)
theorem NetAt.lt (h : NetAt w S g nb N) : ∀ k, S k → k < w.heap.size := by
  obtain ⟨_, _, gm, F, c, hb, hm, _, _, _, hk⟩ := h
  intro k hs
  rcases hk k hs with rfl | rfl | ⟨cur', hx'⟩
  · exact hb.lt
  · exact hm.lt
  · exact hx'.lt
theorem LnsAt.chg {F : Lit → Option Value} (h : LnsAt w S F N) (hC : Chg T w w') (hST : ∀ k, S k → ¬ T k) (hT : ∀ k cur, T k → ¬ Blk w k 5 cur) : LnsAt w' S F N := by
  refine ⟨fun p hp => ?_, h.apart, h.none_⟩
  rcases h.here p hp with h1 | ⟨v, h1, h2, h3⟩
  · exact .inl h1
  · exact .inr ⟨v, h1, h2.chg hC hT (fun k hk => hST k (h3 k hk)), h3⟩
theorem NetAt.chg (h : NetAt w S g nb N) (hC : Chg T w w') (hST : ∀ k, S k → ¬ T k) (hT : ∀ k cur, T k → ¬ Blk w k 5 cur) : NetAt w' S g nb N := by
  obtain ⟨h0, hlo, gm, F, c, hb, hm, hl, hs1, hs2, hk⟩ := h
  have hgm := hm.lt
  refine ⟨h0, hlo, gm, F, c, hC.blk hb (hST g hs1), ?_, hl.chg hC hST hT, hs1, hs2, fun k hs => ?_⟩
  · obtain ⟨D, h1, h2⟩ := hm
    obtain ⟨es, cl, hbb, r⟩ := h1
    exact ⟨D, ⟨es, cl, (hC.block gm hgm (hST gm hs2)).trans hbb, r⟩, h2⟩
  · rcases hk k hs with h1 | h1 | ⟨cur, h1⟩
    · exact .inl h1
    · exact .inr (.inl h1)
    · exact .inr (.inr ⟨cur, hC.blk h1 (hST k hs)⟩)
theorem NetAt.ext (h : NetAt w S g nb N) (hE : Ext w w') : NetAt w' S g nb N := h.chg (T := fun _ => False) (Chg.of_ext hE) (fun _ _ h => h) (fun _ _ h => h.elim)
theorem NetAt.mono (h : NetAt w S g nb N) {nb' : Nat} (hn : nb ≤ nb') : NetAt w S g nb' N := by
  obtain ⟨h0, hlo, gm, F, c, hb, hm, r⟩ := h
  exact ⟨h0, by omega, gm, F, c, hb, hm.mono hn, r⟩
end

section
variable {P : Program} {k t e : TypeId} {w : World} {b n c : Nat} {F : Lit → Option Value} {z key : Value} {l : Lit}
theorem Mp.look1 (h : Mp P k w b n F c) (K : Keyed P k) (ht : P.underlying t = some (.map k e)) (hz : (zeroValue e).run P w = .ok z w) (hkey : keyOf P k key = some l) :
    (Instr.lookup t (.map (some b)) key false).run P w = .ok ((F l).getD z) w := by
  obtain ⟨D, h1, h2, h3, _⟩ := h
  obtain ⟨v, ps, hr, hv⟩ := h1.lookup K ht hz (zd := .held z) (zp := []) rfl hkey
  simp only [heldR, Option.some.injEq, Prod.mk.injEq] at hv
  cases hF : F l with
  | none =>
    have hh := h3 l hF
    rw [Maps.atKey_of_not_has hh] at hv
    have : v = z := by injection hv.1
    rw [hr, this]; rfl
  | some v0 =>
    have hh := h2 l v0 hF
    rw [hh] at hv
    have : v = v0 := by injection hv.1
    rw [hr, this]; rfl
theorem look1_run (h : Mp P k w b n F c) (K : Keyed P k) (ht : P.underlying t = some (.map k e)) (hz : (zeroValue e).run P w = .ok z w) {o : Oper} {m x : Operand} (ho : o.op = .lookup t m x false) {ρ : Operand → Value} (hm : ρ m = .map (some b)) (hx : ρ x = key) (hkey : keyOf P k key = some l) :
    (execOp ρ o).run P w = .ok (.value ((F l).getD z)) w := by
  have h1 := h.look1 K ht hz hkey
  simp [execOp, ho, hm, hx, h1, Result.andThen]
end
theorem kl_pr {N : Nt} {a b : Int} (ha : endB N a = true) (hb : endB N b = true) : kl (pr a b) = klz a b := by
  have h1 := (endB_iff N a).1 ha
  have h2 := (endB_iff N b).1 hb
  unfold kl pr
  rw [show ((a.toNat : Nat) : Int) = a by omega, show ((b.toNat : Nat) : Int) = b by omega]
theorem I64.small {n : Nat} (h : n ≤ 1000000) : I64 (n : Int) := by unfold I64; omega
theorem lines_small {N : Nt} (h : OkN N) {p : Nat × Nat} (hp : p ∈ linesOf N.ends) : I64 (p.1 : Int) ∧ I64 (p.2 : Int) ∧ endB N (p.1 : Int) = true ∧ endB N (p.2 : Int) = true ∧ pr (p.1 : Int) (p.2 : Int) = p := by
  have h1 := (mem_linesOf _ _).1 hp
  have h5 := h.e5
  refine ⟨.small (by omega), .small (by omega), (endB_iff N _).2 (by omega), (endB_iff N _).2 (by omega), ?_⟩
  simp [pr]
theorem kl_inj {N : Nt} (h : OkN N) {p q : Nat × Nat} (hp : p ∈ linesOf N.ends) (hq : q ∈ linesOf N.ends) (e : kl p = kl q) : p = q := by
  obtain ⟨a1, a2, _, _, _⟩ := lines_small h hp
  obtain ⟨b1, b2, _, _, _⟩ := lines_small h hq
  have := klz_inj a1 a2 b1 b2 e
  exact Prod.ext (by omega) (by omega)
/-- what the map has at any two numbers -/
theorem LnsAt.at_ {w : World} {S : Nat → Prop} {F : Lit → Option Value} {N : Nt} (hl : LnsAt w S F N) (h : OkN N) {a b : Int} (ha : I64 a) (hb : I64 b) :
    (F (klz a b) = none ∧ lineN N a b = 0) ∨ ∃ v, F (klz a b) = some v ∧ endB N a = true ∧ endB N b = true ∧ Lin 36 5 w 0 v (N.L (pr a b)) ∧ lineN N a b = (N.L (pr a b)).length ∧ ∀ k, v.ownBlock = some k → S k := by
  cases hF : F (klz a b) with
  | none =>
    refine .inl ⟨rfl, ?_⟩
    unfold lineN
    split
    · rename_i hh
      rw [Bool.and_eq_true] at hh
      have hm := pr_mem hh.1 hh.2
      rcases hl.here _ hm with h1 | ⟨v, h1, _⟩
      · rw [h1.2]; rfl
      · rw [kl_pr hh.1 hh.2, hF] at h1; cases h1
    · rfl
  | some v =>
    obtain ⟨p, hp, e⟩ := hl.none_ _ v hF
    obtain ⟨a1, a2, a3, a4, a5⟩ := lines_small h hp
    obtain ⟨rfl, rfl⟩ := klz_inj ha hb a1 a2 e
    refine .inr ⟨v, rfl, a3, a4, ?_⟩
    rw [a5]
    have e2 : lineN N (p.1 : Int) (p.2 : Int) = (N.L p).length := by unfold lineN; rw [a3, a4, a5]; rfl
    rcases hl.here p hp with h1 | ⟨u, h1, h2, h3⟩
    · have : F (kl p) = some v := hF
      rw [h1.1] at this; cases this
    · have : F (kl p) = some v := hF
      rw [h1] at this
      cases this
      exact ⟨h2, e2, h3⟩
theorem LnsAt.len {w : World} {S : Nat → Prop} {F : Lit → Option Value} {N : Nt} (hl : LnsAt w S F N) (h : OkN N) {a b : Int} (ha : I64 a) (hb : I64 b) : ∃ A c, (F (klz a b)).getD (.slice none 0 0) = .slice A (lineN N a b) c := by
  rcases hl.at_ h ha hb with ⟨h1, h2⟩ | ⟨v, h1, _, _, h2, h3, _⟩
  · exact ⟨none, 0, by rw [h1, h2]; rfl⟩
  · obtain ⟨A, c, e, _⟩ := h2.form
    exact ⟨A, c, by rw [h1, h3]; exact e⟩

/-! ## m[k] = append(m[k], ..) -/
section
open Go.WideMaps (KeyLaw)
open Go.ChangeMaps (setBlock heap_setBlock_same heap_setBlock_other)
open Go.WideElems (Fit)
variable {P : Program} {k t e : TypeId} {w : World} {b n c : Nat} {F : Lit → Option Value} {z key : Value} {l : Lit}
theorem apart_same {es : List MapEntry} (h : es.Pairwise (fun x y => x.key ≠ y.key)) {x y : MapEntry} (hx : x ∈ es) (hy : y ∈ es) (e : x.key = y.key) : x = y := by
  obtain ⟨i, hi, rfl⟩ := List.mem_iff_getElem.1 hx
  obtain ⟨j, hj, rfl⟩ := List.mem_iff_getElem.1 hy
  rw [List.pairwise_iff_getElem] at h
  rcases Nat.lt_trichotomy i j with h1 | h1 | h1
  · exact absurd e (h i j hi hj h1)
  · subst h1; rfl
  · exact absurd e.symm (h j i hj hi h1)
theorem Mp.entry (h : Mp P k w b n F c) (KL : KeyLaw P k) (ht : P.underlying t = some (.map k e)) (hz : ∀ u : World, (zeroValue e).run P u = .ok z u) (hn : n < maxLen) (hkey : keyOf P k key = some l) :
    ∃ st es1 cl1, (Instr.mapEntry t (.map (some b)) key).run P w = .ok (.tuple #[(F l).getD z, goInt st]) (setBlock w b (.map es1 cl1)) ∧ (setBlock w b (.map es1 cl1)).heap[b]? = some (.map es1 cl1) ∧ w.grownBy (setBlock w b (.map es1 cl1)) (some b) ∧
      ∀ (w2 : World) (val : Value), w2.heap[b]? = some (.map es1 cl1) → ∃ w3, (Instr.entryStore t (.map (some b)) (goInt st) val).run P w2 = .ok () w3 ∧ Mp P k w3 b (n + 1) (updF F l (some val)) (if (F l).isSome then c else c + 1) ∧ w2.grownBy w3 (some b) := by
  have K := Keyed.of_law KL
  have hlk := h.look1 K ht (hz w) hkey
  have hst := fun val => h.store K ht hn hkey val
  obtain ⟨D, ⟨es, cl, hb, Ft, hs, hD⟩, h2, h3, h4⟩ := h
  obtain ⟨v0, st, es1, cl1, r1, r2, r3⟩ := Go.WideElems.entry_then_store KL ht hz hb Ft hkey
  have hv0 : v0 = (F l).getD z := by
    have hpw : es.toList.Pairwise (fun x y => x.key ≠ y.key) := ((Go.MapKept.stamped_iff es cl).1 Ft.stamped).2.2
    rcases Maps.fit_look false K ht (hz w) hb Ft hkey with ⟨q1, q2, _⟩ | ⟨e0, y, q1, q2, q3, _⟩
    · rw [hlk] at q1
      injection q1 with q1
      rcases r2 with ⟨e1, a1, a2, _⟩ | ⟨_, a3⟩
      · exact absurd a2 (q2 e1 a1)
      · rw [a3]; exact q1.symm
    · rw [hlk] at q3
      injection q3 with q3
      rcases r2 with ⟨e1, a1, a2, a3⟩ | ⟨a1, _⟩
      · have : e1 = e0 := apart_same hpw a1 q1 (a2.trans q2.symm)
        rw [a3, this]
        exact q3.symm
      · exact absurd q2 (a1 e0 q1)
  subst hv0
  refine ⟨st, es1, cl1, r1, heap_setBlock_same hb _, ⟨rfl, rfl, rfl, by simp [setBlock], fun i _ hi => heap_setBlock_other hb _ (fun e => hi (by rw [e]))⟩, fun w2 val hw2 => ?_⟩
  obtain ⟨es', cl', s1, s2⟩ := r3 w2 val hw2
  obtain ⟨w', u1, u2, u3⟩ := hst val
  rw [s2] at u1
  injection u1 with _ u1
  subst u1
  refine ⟨_, s1, ?_, ⟨rfl, rfl, rfl, by simp [setBlock], fun i _ hi => heap_setBlock_other hw2 _ (fun e => hi (by rw [e]))⟩⟩
  obtain ⟨D', ⟨es'', cl'', hb', r⟩, r'⟩ := u2
  rw [heap_setBlock_same hb] at hb'
  refine ⟨D', ⟨es'', cl'', ?_, r⟩, r'⟩
  rw [heap_setBlock_same hw2]
  exact hb'
end

end Go.Proofs.Ytahooohokdbnpaa
