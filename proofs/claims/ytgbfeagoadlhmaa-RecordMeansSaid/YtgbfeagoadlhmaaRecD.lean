
/-
  Contract of record.unnamed (by recd.py).
-/
import Derived.Test.YtgbfeagoadlhmaaRecC
set_option linter.unusedVariables false
set_option linter.unusedSimpArgs false
namespace Go.Proofs.Ytgbfeagoadlhmaa
open Go.RowKit Pl

attribute [local go_sem] Oper.semAt_some

/-- a record without what its kind names -/
def unnR (r : Rec) : Rec := if r.kind = 1 then ⟨r.kind, 0, 0, 0, [], r.subs, r.next, r.redo, r.tml⟩ else if r.kind = 2 then ⟨r.kind, 0, 0, r.off, [], r.subs, r.next, r.redo, r.tml⟩ else if r.kind = 3 then ⟨r.kind, 0, r.page, r.off, r.b, [], r.next, r.redo, r.tml⟩ else if r.kind = 4 then ⟨r.kind, 0, r.page, r.off, r.b, [], r.next, r.redo, r.tml⟩ else if r.kind = 5 then ⟨r.kind, 0, r.page, r.off, r.b, r.subs, r.next, r.redo, r.tml⟩ else if r.kind = 6 then ⟨r.kind, r.xid, r.page, r.off, r.b, [], 0, r.redo, r.tml⟩ else if r.kind = 7 then ⟨r.kind, r.xid, r.page, r.off, r.b, r.subs, 0, 0, r.tml⟩ else if r.kind = 8 then ⟨r.kind, r.xid, r.page, r.off, r.b, r.subs, r.next, 0, 0⟩ else r
def isKindB (k : Int) : Bool := decide (k = 1) || decide (k = 2) || decide (k = 3) || decide (k = 4) || decide (k = 5) || decide (k = 6) || decide (k = 7) || decide (k = 8)
theorem results_rowR {P : Program} {fn : Func} {p u : Tmp} {ty : TypeId} (h : fn.results = #[.cell p ty, .tmp u]) (tmps : Array Value) (w : World) (g : Nat) (t : TypeId) (cs : Array Value) (fr : Nat × Nat) (d : TypeDesc)
    (hp : tmps.getD p undef = .pointer (some ⟨g, 0, none⟩)) (hg : w.heap[g]? = some (.cells cs t fr))
    (hu : P.underlying ty = some d) (hd : (match d with | .struct _ | .array _ _ => true | _ => false) = true) (hi : (P.info? ty).map (·.size) = some cs.size) :
    (results fn tmps).run P w = .ok (.tuple #[.agg cs, tmps.getD u undef]) w := by
  have hp' : tmps[p]?.getD undef = .pointer (some ⟨g, 0, none⟩) := by simpa using hp
  simp [results, h, hp', asAddr, run_loadVar_row w g t ty cs fr d hg hu hd hi]
theorem Ext.setRowE {a w : World} (h : Ext a w) {g : Nat} (hg : a.heap.size ≤ g) (cells : Array Value) : Ext a (w.setRow g cells) :=
  h.grown ⟨rfl, rfl, rfl, by rw [size_setRow]; exact Nat.le_refl _, fun k _ hk => setRow_other w g k cells (fun e => hk (by rw [e]))⟩ (fun k e => by cases e; exact hg)
theorem Blk.rowE {w : World} {g : Nat} {t : TypeId} {cs : Array Value} (h : Blk w g t cs) (cells : Array Value) : Blk (w.setRow g cells) g t cells := setRow_heap w g cs _ t _ h
theorem Try.recSize {cs : Array Value} (h : cs.size = 9) : (Try.prog.info? 65).map (·.size) = some cs.size := by rw [h]; kernel_rfl
theorem Try.recZero (W : World) : (zeroValue 65).run Try.prog W = .ok (.agg #[.int .i64 0, .int .u64 0, .int .i64 0, .int .i64 0, .slice none 0 0, .slice none 0 0, .int .u64 0, .int .u64 0, .int .u64 0]) W := by kernel_rfl
theorem rec_one (a : Int) (b : Nat) (c d : Int) (A S : Option Addr) (n1 n2 n3 n4 : Nat) (e f g : Nat) : (#[Value.int .i64 a, .int .u64 (b : Int), .int .i64 c, .int .i64 d, .slice A n1 n2, .slice S n3 n4, .int .u64 (e : Int), .int .u64 (f : Int), .int .u64 (g : Int)] : Array Value).all (·.oneCell') = true := by simp [Value.oneCell']

set_option maxHeartbeats 6400000 in
set_option maxRecDepth 100000 in
theorem unnamed_any (w : World) (r : Rec) (A S : Option Addr) (ca cs : Nat) (hA : By w A r.b) (hS : Nums w S r.subs) :
    Calls Try.prog 87 #[.agg (recC r A ca S cs)] w fun e w' => ∃ A' ca' S' cs', e = .returned (.tuple #[.agg (recC (unnR r) A' ca' S' cs'), .bool (isKindB r.kind)]) ∧ By w' A' (unnR r).b ∧ Nums w' S' (unnR r).subs ∧ Ext w w' := by
  have hzr := Try.recZero
  have HA := Lib.hid hA
  have HS := Lib.hid hS
  clear hA hS
  obtain ⟨kd, x, pg, of, bl, u, nx, rd, tl⟩ := r
  simp only at HA HS
  by_cases hk1 : kd = 1
  · subst hk1
    have HU : Hid (unnR ⟨1, x, pg, of, bl, u, nx, rd, tl⟩ = ⟨1, 0, 0, 0, [], u, nx, rd, tl⟩) := Lib.hid (by rfl)
    have HK : Hid (isKindB 1 = true) := Lib.hid (by rfl)
    rw [HU.out]
    show Calls _ _ _ _ fun e w' => ∃ A' ca' S' cs', e = .returned (.tuple #[.agg (recC ⟨1, 0, 0, 0, [], u, nx, rd, tl⟩ A' ca' S' cs'), .bool (isKindB 1)]) ∧ _
    rw [HK.out]
    unfold recC
    have HBB := Lib.hid ((Blk.new w 65 #[.int .i64 1, .int .u64 0, .int .i64 0, .int .i64 0, .slice none 0 0, .slice S u.length cs, .int .u64 (nx : Int), .int .u64 (rd : Int), .int .u64 (tl : Int)]).alloc (.cells #[.int .i64 0, .int .u64 0, .int .i64 0, .int .i64 0, .slice none 0 0, .slice none 0 0, .int .u64 0, .int .u64 0, .int .u64 0] 65))
    have HBR := Lib.hid (Blk.new (w.alloc (.cells #[.int .i64 1, .int .u64 0, .int .i64 0, .int .i64 0, .slice none 0 0, .slice S u.length cs, .int .u64 (nx : Int), .int .u64 (rd : Int), .int .u64 (tl : Int)] 65)) 65 #[.int .i64 0, .int .u64 0, .int .i64 0, .int .i64 0, .slice none 0 0, .slice none 0 0, .int .u64 0, .int .u64 0, .int .u64 0])
    have HX := Lib.hid ((ext_fresh w (.cells #[.int .i64 1, .int .u64 0, .int .i64 0, .int .i64 0, .slice none 0 0, .slice S u.length cs, .int .u64 (nx : Int), .int .u64 (rd : Int), .int .u64 (tl : Int)] 65)).alloc (.cells #[.int .i64 0, .int .u64 0, .int .i64 0, .int .i64 0, .slice none 0 0, .slice none 0 0, .int .u64 0, .int .u64 0, .int .u64 0] 65))
    simp only [World.size_alloc] at HBR
    clear HU HK
    go_enter Try.func87, Try.ntmps87
    go_upto_region 18 with fail
    go_wp2_with (first | (refine wpList_load_row rfl 65 _ rfl _ rfl _ _ _ _ HBB.out Try.underlying65 rfl (Try.recSize rfl) ?_) | (refine wpList_store_row rfl 65 _ _ rfl _ _ rfl rfl _ _ HBR.out (Try.recSize rfl) rfl (by simp [Value.oneCell']) ?_))
    refine bodyPost_ret (results_rowR Try.results87 _ _ (w.heap.size + 1) _ #[.int .i64 1, .int .u64 0, .int .i64 0, .int .i64 0, .slice none 0 0, .slice S u.length cs, .int .u64 (nx : Int), .int .u64 (rd : Int), .int .u64 (tl : Int)] (0, 0) _ rfl (HBR.out.rowE #[.int .i64 1, .int .u64 0, .int .i64 0, .int .i64 0, .slice none 0 0, .slice S u.length cs, .int .u64 (nx : Int), .int .u64 (rd : Int), .int .u64 (tl : Int)]) Try.underlying65 rfl (Try.recSize rfl)) rfl ⟨none, 0, S, cs, rfl, .inl rfl, HS.out.ext (HX.out.setRowE (by omega) _), HX.out.setRowE (by omega) _⟩
  by_cases hk2 : kd = 2
  · subst hk2
    have HU : Hid (unnR ⟨2, x, pg, of, bl, u, nx, rd, tl⟩ = ⟨2, 0, 0, of, [], u, nx, rd, tl⟩) := Lib.hid (by rfl)
    have HK : Hid (isKindB 2 = true) := Lib.hid (by rfl)
    rw [HU.out]
    show Calls _ _ _ _ fun e w' => ∃ A' ca' S' cs', e = .returned (.tuple #[.agg (recC ⟨2, 0, 0, of, [], u, nx, rd, tl⟩ A' ca' S' cs'), .bool (isKindB 2)]) ∧ _
    rw [HK.out]
    unfold recC
    have HBB := Lib.hid ((Blk.new w 65 #[.int .i64 2, .int .u64 0, .int .i64 0, .int .i64 of, .slice none 0 0, .slice S u.length cs, .int .u64 (nx : Int), .int .u64 (rd : Int), .int .u64 (tl : Int)]).alloc (.cells #[.int .i64 0, .int .u64 0, .int .i64 0, .int .i64 0, .slice none 0 0, .slice none 0 0, .int .u64 0, .int .u64 0, .int .u64 0] 65))
    have HBR := Lib.hid (Blk.new (w.alloc (.cells #[.int .i64 2, .int .u64 0, .int .i64 0, .int .i64 of, .slice none 0 0, .slice S u.length cs, .int .u64 (nx : Int), .int .u64 (rd : Int), .int .u64 (tl : Int)] 65)) 65 #[.int .i64 0, .int .u64 0, .int .i64 0, .int .i64 0, .slice none 0 0, .slice none 0 0, .int .u64 0, .int .u64 0, .int .u64 0])
    have HX := Lib.hid ((ext_fresh w (.cells #[.int .i64 2, .int .u64 0, .int .i64 0, .int .i64 of, .slice none 0 0, .slice S u.length cs, .int .u64 (nx : Int), .int .u64 (rd : Int), .int .u64 (tl : Int)] 65)).alloc (.cells #[.int .i64 0, .int .u64 0, .int .i64 0, .int .i64 0, .slice none 0 0, .slice none 0 0, .int .u64 0, .int .u64 0, .int .u64 0] 65))
    simp only [World.size_alloc] at HBR
    clear HU HK
    go_enter Try.func87, Try.ntmps87
    go_upto_region 18 with fail
    go_wp2_with (first | (refine wpList_load_row rfl 65 _ rfl _ rfl _ _ _ _ HBB.out Try.underlying65 rfl (Try.recSize rfl) ?_) | (refine wpList_store_row rfl 65 _ _ rfl _ _ rfl rfl _ _ HBR.out (Try.recSize rfl) rfl (by simp [Value.oneCell']) ?_))
    refine bodyPost_ret (results_rowR Try.results87 _ _ (w.heap.size + 1) _ #[.int .i64 2, .int .u64 0, .int .i64 0, .int .i64 of, .slice none 0 0, .slice S u.length cs, .int .u64 (nx : Int), .int .u64 (rd : Int), .int .u64 (tl : Int)] (0, 0) _ rfl (HBR.out.rowE #[.int .i64 2, .int .u64 0, .int .i64 0, .int .i64 of, .slice none 0 0, .slice S u.length cs, .int .u64 (nx : Int), .int .u64 (rd : Int), .int .u64 (tl : Int)]) Try.underlying65 rfl (Try.recSize rfl)) rfl ⟨none, 0, S, cs, rfl, .inl rfl, HS.out.ext (HX.out.setRowE (by omega) _), HX.out.setRowE (by omega) _⟩
  by_cases hk3 : kd = 3
  · subst hk3
    have HU : Hid (unnR ⟨3, x, pg, of, bl, u, nx, rd, tl⟩ = ⟨3, 0, pg, of, bl, [], nx, rd, tl⟩) := Lib.hid (by rfl)
    have HK : Hid (isKindB 3 = true) := Lib.hid (by rfl)
    rw [HU.out]
    show Calls _ _ _ _ fun e w' => ∃ A' ca' S' cs', e = .returned (.tuple #[.agg (recC ⟨3, 0, pg, of, bl, [], nx, rd, tl⟩ A' ca' S' cs'), .bool (isKindB 3)]) ∧ _
    rw [HK.out]
    unfold recC
    have HBB := Lib.hid ((Blk.new w 65 #[.int .i64 3, .int .u64 0, .int .i64 pg, .int .i64 of, .slice A bl.length ca, .slice none 0 0, .int .u64 (nx : Int), .int .u64 (rd : Int), .int .u64 (tl : Int)]).alloc (.cells #[.int .i64 0, .int .u64 0, .int .i64 0, .int .i64 0, .slice none 0 0, .slice none 0 0, .int .u64 0, .int .u64 0, .int .u64 0] 65))
    have HBR := Lib.hid (Blk.new (w.alloc (.cells #[.int .i64 3, .int .u64 0, .int .i64 pg, .int .i64 of, .slice A bl.length ca, .slice none 0 0, .int .u64 (nx : Int), .int .u64 (rd : Int), .int .u64 (tl : Int)] 65)) 65 #[.int .i64 0, .int .u64 0, .int .i64 0, .int .i64 0, .slice none 0 0, .slice none 0 0, .int .u64 0, .int .u64 0, .int .u64 0])
    have HX := Lib.hid ((ext_fresh w (.cells #[.int .i64 3, .int .u64 0, .int .i64 pg, .int .i64 of, .slice A bl.length ca, .slice none 0 0, .int .u64 (nx : Int), .int .u64 (rd : Int), .int .u64 (tl : Int)] 65)).alloc (.cells #[.int .i64 0, .int .u64 0, .int .i64 0, .int .i64 0, .slice none 0 0, .slice none 0 0, .int .u64 0, .int .u64 0, .int .u64 0] 65))
    simp only [World.size_alloc] at HBR
    clear HU HK
    go_enter Try.func87, Try.ntmps87
    go_upto_region 18 with fail
    go_wp2_with (first | (refine wpList_load_row rfl 65 _ rfl _ rfl _ _ _ _ HBB.out Try.underlying65 rfl (Try.recSize rfl) ?_) | (refine wpList_store_row rfl 65 _ _ rfl _ _ rfl rfl _ _ HBR.out (Try.recSize rfl) rfl (by simp [Value.oneCell']) ?_))
    refine bodyPost_ret (results_rowR Try.results87 _ _ (w.heap.size + 1) _ #[.int .i64 3, .int .u64 0, .int .i64 pg, .int .i64 of, .slice A bl.length ca, .slice none 0 0, .int .u64 (nx : Int), .int .u64 (rd : Int), .int .u64 (tl : Int)] (0, 0) _ rfl (HBR.out.rowE #[.int .i64 3, .int .u64 0, .int .i64 pg, .int .i64 of, .slice A bl.length ca, .slice none 0 0, .int .u64 (nx : Int), .int .u64 (rd : Int), .int .u64 (tl : Int)]) Try.underlying65 rfl (Try.recSize rfl)) rfl ⟨A, ca, none, 0, rfl, HA.out.ext (HX.out.setRowE (by omega) _), .inl rfl, HX.out.setRowE (by omega) _⟩
  by_cases hk4 : kd = 4
  · subst hk4
    have HU : Hid (unnR ⟨4, x, pg, of, bl, u, nx, rd, tl⟩ = ⟨4, 0, pg, of, bl, [], nx, rd, tl⟩) := Lib.hid (by rfl)
    have HK : Hid (isKindB 4 = true) := Lib.hid (by rfl)
    rw [HU.out]
    show Calls _ _ _ _ fun e w' => ∃ A' ca' S' cs', e = .returned (.tuple #[.agg (recC ⟨4, 0, pg, of, bl, [], nx, rd, tl⟩ A' ca' S' cs'), .bool (isKindB 4)]) ∧ _
    rw [HK.out]
    unfold recC
    have HBB := Lib.hid ((Blk.new w 65 #[.int .i64 4, .int .u64 0, .int .i64 pg, .int .i64 of, .slice A bl.length ca, .slice none 0 0, .int .u64 (nx : Int), .int .u64 (rd : Int), .int .u64 (tl : Int)]).alloc (.cells #[.int .i64 0, .int .u64 0, .int .i64 0, .int .i64 0, .slice none 0 0, .slice none 0 0, .int .u64 0, .int .u64 0, .int .u64 0] 65))
    have HBR := Lib.hid (Blk.new (w.alloc (.cells #[.int .i64 4, .int .u64 0, .int .i64 pg, .int .i64 of, .slice A bl.length ca, .slice none 0 0, .int .u64 (nx : Int), .int .u64 (rd : Int), .int .u64 (tl : Int)] 65)) 65 #[.int .i64 0, .int .u64 0, .int .i64 0, .int .i64 0, .slice none 0 0, .slice none 0 0, .int .u64 0, .int .u64 0, .int .u64 0])
    have HX := Lib.hid ((ext_fresh w (.cells #[.int .i64 4, .int .u64 0, .int .i64 pg, .int .i64 of, .slice A bl.length ca, .slice none 0 0, .int .u64 (nx : Int), .int .u64 (rd : Int), .int .u64 (tl : Int)] 65)).alloc (.cells #[.int .i64 0, .int .u64 0, .int .i64 0, .int .i64 0, .slice none 0 0, .slice none 0 0, .int .u64 0, .int .u64 0, .int .u64 0] 65))
    simp only [World.size_alloc] at HBR
    clear HU HK
    go_enter Try.func87, Try.ntmps87
    go_upto_region 18 with fail
    go_wp2_with (first | (refine wpList_load_row rfl 65 _ rfl _ rfl _ _ _ _ HBB.out Try.underlying65 rfl (Try.recSize rfl) ?_) | (refine wpList_store_row rfl 65 _ _ rfl _ _ rfl rfl _ _ HBR.out (Try.recSize rfl) rfl (by simp [Value.oneCell']) ?_))
    refine bodyPost_ret (results_rowR Try.results87 _ _ (w.heap.size + 1) _ #[.int .i64 4, .int .u64 0, .int .i64 pg, .int .i64 of, .slice A bl.length ca, .slice none 0 0, .int .u64 (nx : Int), .int .u64 (rd : Int), .int .u64 (tl : Int)] (0, 0) _ rfl (HBR.out.rowE #[.int .i64 4, .int .u64 0, .int .i64 pg, .int .i64 of, .slice A bl.length ca, .slice none 0 0, .int .u64 (nx : Int), .int .u64 (rd : Int), .int .u64 (tl : Int)]) Try.underlying65 rfl (Try.recSize rfl)) rfl ⟨A, ca, none, 0, rfl, HA.out.ext (HX.out.setRowE (by omega) _), .inl rfl, HX.out.setRowE (by omega) _⟩
  by_cases hk5 : kd = 5
  · subst hk5
    have HU : Hid (unnR ⟨5, x, pg, of, bl, u, nx, rd, tl⟩ = ⟨5, 0, pg, of, bl, u, nx, rd, tl⟩) := Lib.hid (by rfl)
    have HK : Hid (isKindB 5 = true) := Lib.hid (by rfl)
    rw [HU.out]
    show Calls _ _ _ _ fun e w' => ∃ A' ca' S' cs', e = .returned (.tuple #[.agg (recC ⟨5, 0, pg, of, bl, u, nx, rd, tl⟩ A' ca' S' cs'), .bool (isKindB 5)]) ∧ _
    rw [HK.out]
    unfold recC
    have HBB := Lib.hid ((Blk.new w 65 #[.int .i64 5, .int .u64 0, .int .i64 pg, .int .i64 of, .slice A bl.length ca, .slice S u.length cs, .int .u64 (nx : Int), .int .u64 (rd : Int), .int .u64 (tl : Int)]).alloc (.cells #[.int .i64 0, .int .u64 0, .int .i64 0, .int .i64 0, .slice none 0 0, .slice none 0 0, .int .u64 0, .int .u64 0, .int .u64 0] 65))
    have HBR := Lib.hid (Blk.new (w.alloc (.cells #[.int .i64 5, .int .u64 0, .int .i64 pg, .int .i64 of, .slice A bl.length ca, .slice S u.length cs, .int .u64 (nx : Int), .int .u64 (rd : Int), .int .u64 (tl : Int)] 65)) 65 #[.int .i64 0, .int .u64 0, .int .i64 0, .int .i64 0, .slice none 0 0, .slice none 0 0, .int .u64 0, .int .u64 0, .int .u64 0])
    have HX := Lib.hid ((ext_fresh w (.cells #[.int .i64 5, .int .u64 0, .int .i64 pg, .int .i64 of, .slice A bl.length ca, .slice S u.length cs, .int .u64 (nx : Int), .int .u64 (rd : Int), .int .u64 (tl : Int)] 65)).alloc (.cells #[.int .i64 0, .int .u64 0, .int .i64 0, .int .i64 0, .slice none 0 0, .slice none 0 0, .int .u64 0, .int .u64 0, .int .u64 0] 65))
    simp only [World.size_alloc] at HBR
    clear HU HK
    go_enter Try.func87, Try.ntmps87
    go_upto_region 18 with fail
    go_wp2_with (first | (refine wpList_load_row rfl 65 _ rfl _ rfl _ _ _ _ HBB.out Try.underlying65 rfl (Try.recSize rfl) ?_) | (refine wpList_store_row rfl 65 _ _ rfl _ _ rfl rfl _ _ HBR.out (Try.recSize rfl) rfl (by simp [Value.oneCell']) ?_))
    refine bodyPost_ret (results_rowR Try.results87 _ _ (w.heap.size + 1) _ #[.int .i64 5, .int .u64 0, .int .i64 pg, .int .i64 of, .slice A bl.length ca, .slice S u.length cs, .int .u64 (nx : Int), .int .u64 (rd : Int), .int .u64 (tl : Int)] (0, 0) _ rfl (HBR.out.rowE #[.int .i64 5, .int .u64 0, .int .i64 pg, .int .i64 of, .slice A bl.length ca, .slice S u.length cs, .int .u64 (nx : Int), .int .u64 (rd : Int), .int .u64 (tl : Int)]) Try.underlying65 rfl (Try.recSize rfl)) rfl ⟨A, ca, S, cs, rfl, HA.out.ext (HX.out.setRowE (by omega) _), HS.out.ext (HX.out.setRowE (by omega) _), HX.out.setRowE (by omega) _⟩
  by_cases hk6 : kd = 6
  · subst hk6
    have HU : Hid (unnR ⟨6, x, pg, of, bl, u, nx, rd, tl⟩ = ⟨6, x, pg, of, bl, [], 0, rd, tl⟩) := Lib.hid (by rfl)
    have HK : Hid (isKindB 6 = true) := Lib.hid (by rfl)
    rw [HU.out]
    show Calls _ _ _ _ fun e w' => ∃ A' ca' S' cs', e = .returned (.tuple #[.agg (recC ⟨6, x, pg, of, bl, [], 0, rd, tl⟩ A' ca' S' cs'), .bool (isKindB 6)]) ∧ _
    rw [HK.out]
    unfold recC
    have HBB := Lib.hid ((Blk.new w 65 #[.int .i64 6, .int .u64 (x : Int), .int .i64 pg, .int .i64 of, .slice A bl.length ca, .slice none 0 0, .int .u64 0, .int .u64 (rd : Int), .int .u64 (tl : Int)]).alloc (.cells #[.int .i64 0, .int .u64 0, .int .i64 0, .int .i64 0, .slice none 0 0, .slice none 0 0, .int .u64 0, .int .u64 0, .int .u64 0] 65))
    have HBR := Lib.hid (Blk.new (w.alloc (.cells #[.int .i64 6, .int .u64 (x : Int), .int .i64 pg, .int .i64 of, .slice A bl.length ca, .slice none 0 0, .int .u64 0, .int .u64 (rd : Int), .int .u64 (tl : Int)] 65)) 65 #[.int .i64 0, .int .u64 0, .int .i64 0, .int .i64 0, .slice none 0 0, .slice none 0 0, .int .u64 0, .int .u64 0, .int .u64 0])
    have HX := Lib.hid ((ext_fresh w (.cells #[.int .i64 6, .int .u64 (x : Int), .int .i64 pg, .int .i64 of, .slice A bl.length ca, .slice none 0 0, .int .u64 0, .int .u64 (rd : Int), .int .u64 (tl : Int)] 65)).alloc (.cells #[.int .i64 0, .int .u64 0, .int .i64 0, .int .i64 0, .slice none 0 0, .slice none 0 0, .int .u64 0, .int .u64 0, .int .u64 0] 65))
    simp only [World.size_alloc] at HBR
    clear HU HK
    go_enter Try.func87, Try.ntmps87
    go_upto_region 18 with fail
    go_wp2_with (first | (refine wpList_load_row rfl 65 _ rfl _ rfl _ _ _ _ HBB.out Try.underlying65 rfl (Try.recSize rfl) ?_) | (refine wpList_store_row rfl 65 _ _ rfl _ _ rfl rfl _ _ HBR.out (Try.recSize rfl) rfl (by simp [Value.oneCell']) ?_))
    refine bodyPost_ret (results_rowR Try.results87 _ _ (w.heap.size + 1) _ #[.int .i64 6, .int .u64 (x : Int), .int .i64 pg, .int .i64 of, .slice A bl.length ca, .slice none 0 0, .int .u64 0, .int .u64 (rd : Int), .int .u64 (tl : Int)] (0, 0) _ rfl (HBR.out.rowE #[.int .i64 6, .int .u64 (x : Int), .int .i64 pg, .int .i64 of, .slice A bl.length ca, .slice none 0 0, .int .u64 0, .int .u64 (rd : Int), .int .u64 (tl : Int)]) Try.underlying65 rfl (Try.recSize rfl)) rfl ⟨A, ca, none, 0, rfl, HA.out.ext (HX.out.setRowE (by omega) _), .inl rfl, HX.out.setRowE (by omega) _⟩
  by_cases hk7 : kd = 7
  · subst hk7
    have HU : Hid (unnR ⟨7, x, pg, of, bl, u, nx, rd, tl⟩ = ⟨7, x, pg, of, bl, u, 0, 0, tl⟩) := Lib.hid (by rfl)
    have HK : Hid (isKindB 7 = true) := Lib.hid (by rfl)
    rw [HU.out]
    show Calls _ _ _ _ fun e w' => ∃ A' ca' S' cs', e = .returned (.tuple #[.agg (recC ⟨7, x, pg, of, bl, u, 0, 0, tl⟩ A' ca' S' cs'), .bool (isKindB 7)]) ∧ _
    rw [HK.out]
    unfold recC
    have HBB := Lib.hid ((Blk.new w 65 #[.int .i64 7, .int .u64 (x : Int), .int .i64 pg, .int .i64 of, .slice A bl.length ca, .slice S u.length cs, .int .u64 0, .int .u64 0, .int .u64 (tl : Int)]).alloc (.cells #[.int .i64 0, .int .u64 0, .int .i64 0, .int .i64 0, .slice none 0 0, .slice none 0 0, .int .u64 0, .int .u64 0, .int .u64 0] 65))
    have HBR := Lib.hid (Blk.new (w.alloc (.cells #[.int .i64 7, .int .u64 (x : Int), .int .i64 pg, .int .i64 of, .slice A bl.length ca, .slice S u.length cs, .int .u64 0, .int .u64 0, .int .u64 (tl : Int)] 65)) 65 #[.int .i64 0, .int .u64 0, .int .i64 0, .int .i64 0, .slice none 0 0, .slice none 0 0, .int .u64 0, .int .u64 0, .int .u64 0])
    have HX := Lib.hid ((ext_fresh w (.cells #[.int .i64 7, .int .u64 (x : Int), .int .i64 pg, .int .i64 of, .slice A bl.length ca, .slice S u.length cs, .int .u64 0, .int .u64 0, .int .u64 (tl : Int)] 65)).alloc (.cells #[.int .i64 0, .int .u64 0, .int .i64 0, .int .i64 0, .slice none 0 0, .slice none 0 0, .int .u64 0, .int .u64 0, .int .u64 0] 65))
    simp only [World.size_alloc] at HBR
    clear HU HK
    go_enter Try.func87, Try.ntmps87
    go_upto_region 18 with fail
    go_wp2_with (first | (refine wpList_load_row rfl 65 _ rfl _ rfl _ _ _ _ HBB.out Try.underlying65 rfl (Try.recSize rfl) ?_) | (refine wpList_store_row rfl 65 _ _ rfl _ _ rfl rfl _ _ HBR.out (Try.recSize rfl) rfl (by simp [Value.oneCell']) ?_))
    refine bodyPost_ret (results_rowR Try.results87 _ _ (w.heap.size + 1) _ #[.int .i64 7, .int .u64 (x : Int), .int .i64 pg, .int .i64 of, .slice A bl.length ca, .slice S u.length cs, .int .u64 0, .int .u64 0, .int .u64 (tl : Int)] (0, 0) _ rfl (HBR.out.rowE #[.int .i64 7, .int .u64 (x : Int), .int .i64 pg, .int .i64 of, .slice A bl.length ca, .slice S u.length cs, .int .u64 0, .int .u64 0, .int .u64 (tl : Int)]) Try.underlying65 rfl (Try.recSize rfl)) rfl ⟨A, ca, S, cs, rfl, HA.out.ext (HX.out.setRowE (by omega) _), HS.out.ext (HX.out.setRowE (by omega) _), HX.out.setRowE (by omega) _⟩
  by_cases hk8 : kd = 8
  · subst hk8
    have HU : Hid (unnR ⟨8, x, pg, of, bl, u, nx, rd, tl⟩ = ⟨8, x, pg, of, bl, u, nx, 0, 0⟩) := Lib.hid (by rfl)
    have HK : Hid (isKindB 8 = true) := Lib.hid (by rfl)
    rw [HU.out]
    show Calls _ _ _ _ fun e w' => ∃ A' ca' S' cs', e = .returned (.tuple #[.agg (recC ⟨8, x, pg, of, bl, u, nx, 0, 0⟩ A' ca' S' cs'), .bool (isKindB 8)]) ∧ _
    rw [HK.out]
    unfold recC
    have HBB := Lib.hid ((Blk.new w 65 #[.int .i64 8, .int .u64 (x : Int), .int .i64 pg, .int .i64 of, .slice A bl.length ca, .slice S u.length cs, .int .u64 (nx : Int), .int .u64 0, .int .u64 0]).alloc (.cells #[.int .i64 0, .int .u64 0, .int .i64 0, .int .i64 0, .slice none 0 0, .slice none 0 0, .int .u64 0, .int .u64 0, .int .u64 0] 65))
    have HBR := Lib.hid (Blk.new (w.alloc (.cells #[.int .i64 8, .int .u64 (x : Int), .int .i64 pg, .int .i64 of, .slice A bl.length ca, .slice S u.length cs, .int .u64 (nx : Int), .int .u64 0, .int .u64 0] 65)) 65 #[.int .i64 0, .int .u64 0, .int .i64 0, .int .i64 0, .slice none 0 0, .slice none 0 0, .int .u64 0, .int .u64 0, .int .u64 0])
    have HX := Lib.hid ((ext_fresh w (.cells #[.int .i64 8, .int .u64 (x : Int), .int .i64 pg, .int .i64 of, .slice A bl.length ca, .slice S u.length cs, .int .u64 (nx : Int), .int .u64 0, .int .u64 0] 65)).alloc (.cells #[.int .i64 0, .int .u64 0, .int .i64 0, .int .i64 0, .slice none 0 0, .slice none 0 0, .int .u64 0, .int .u64 0, .int .u64 0] 65))
    simp only [World.size_alloc] at HBR
    clear HU HK
    go_enter Try.func87, Try.ntmps87
    go_upto_region 18 with fail
    go_wp2_with (first | (refine wpList_load_row rfl 65 _ rfl _ rfl _ _ _ _ HBB.out Try.underlying65 rfl (Try.recSize rfl) ?_) | (refine wpList_store_row rfl 65 _ _ rfl _ _ rfl rfl _ _ HBR.out (Try.recSize rfl) rfl (by simp [Value.oneCell']) ?_))
    refine bodyPost_ret (results_rowR Try.results87 _ _ (w.heap.size + 1) _ #[.int .i64 8, .int .u64 (x : Int), .int .i64 pg, .int .i64 of, .slice A bl.length ca, .slice S u.length cs, .int .u64 (nx : Int), .int .u64 0, .int .u64 0] (0, 0) _ rfl (HBR.out.rowE #[.int .i64 8, .int .u64 (x : Int), .int .i64 pg, .int .i64 of, .slice A bl.length ca, .slice S u.length cs, .int .u64 (nx : Int), .int .u64 0, .int .u64 0]) Try.underlying65 rfl (Try.recSize rfl)) rfl ⟨A, ca, S, cs, rfl, HA.out.ext (HX.out.setRowE (by omega) _), HS.out.ext (HX.out.setRowE (by omega) _), HX.out.setRowE (by omega) _⟩
  have HU : Hid (unnR ⟨kd, x, pg, of, bl, u, nx, rd, tl⟩ = ⟨kd, x, pg, of, bl, u, nx, rd, tl⟩) := Lib.hid (by unfold unnR; simp only [if_neg hk1, if_neg hk2, if_neg hk3, if_neg hk4, if_neg hk5, if_neg hk6, if_neg hk7, if_neg hk8])
  have HK : Hid (isKindB kd = false) := Lib.hid (by unfold isKindB; simp only [decide_eq_false hk1, decide_eq_false hk2, decide_eq_false hk3, decide_eq_false hk4, decide_eq_false hk5, decide_eq_false hk6, decide_eq_false hk7, decide_eq_false hk8]; rfl)
  rw [HU.out]
  show Calls _ _ _ _ fun e w' => ∃ A' ca' S' cs', e = .returned (.tuple #[.agg (recC ⟨kd, x, pg, of, bl, u, nx, rd, tl⟩ A' ca' S' cs'), .bool (isKindB kd)]) ∧ _
  rw [HK.out]
  unfold recC
  have HBB := Lib.hid ((Blk.new w 65 #[.int .i64 kd, .int .u64 (x : Int), .int .i64 pg, .int .i64 of, .slice A bl.length ca, .slice S u.length cs, .int .u64 (nx : Int), .int .u64 (rd : Int), .int .u64 (tl : Int)]).alloc (.cells #[.int .i64 0, .int .u64 0, .int .i64 0, .int .i64 0, .slice none 0 0, .slice none 0 0, .int .u64 0, .int .u64 0, .int .u64 0] 65))
  have HBR := Lib.hid (Blk.new (w.alloc (.cells #[.int .i64 kd, .int .u64 (x : Int), .int .i64 pg, .int .i64 of, .slice A bl.length ca, .slice S u.length cs, .int .u64 (nx : Int), .int .u64 (rd : Int), .int .u64 (tl : Int)] 65)) 65 #[.int .i64 0, .int .u64 0, .int .i64 0, .int .i64 0, .slice none 0 0, .slice none 0 0, .int .u64 0, .int .u64 0, .int .u64 0])
  have HX := Lib.hid ((ext_fresh w (.cells #[.int .i64 kd, .int .u64 (x : Int), .int .i64 pg, .int .i64 of, .slice A bl.length ca, .slice S u.length cs, .int .u64 (nx : Int), .int .u64 (rd : Int), .int .u64 (tl : Int)] 65)).alloc (.cells #[.int .i64 0, .int .u64 0, .int .i64 0, .int .i64 0, .slice none 0 0, .slice none 0 0, .int .u64 0, .int .u64 0, .int .u64 0] 65))
  simp only [World.size_alloc] at HBR
  have e1 : (kd == 1) = false := by rw [beq_eq_false_iff_ne]; exact hk1
  have e2 : (kd == 2) = false := by rw [beq_eq_false_iff_ne]; exact hk2
  have e3 : (kd == 3) = false := by rw [beq_eq_false_iff_ne]; exact hk3
  have e4 : (kd == 4) = false := by rw [beq_eq_false_iff_ne]; exact hk4
  have e5 : (kd == 5) = false := by rw [beq_eq_false_iff_ne]; exact hk5
  have e6 : (kd == 6) = false := by rw [beq_eq_false_iff_ne]; exact hk6
  have e7 : (kd == 7) = false := by rw [beq_eq_false_iff_ne]; exact hk7
  have e8 : (kd == 8) = false := by rw [beq_eq_false_iff_ne]; exact hk8
  clear HU HK hk1 hk2 hk3 hk4 hk5 hk6 hk7 hk8
  go_enter Try.func87, Try.ntmps87
  go_upto_region 2 with fail
  go_wp2_with (first | (refine wpList_load_row rfl 65 _ rfl _ rfl _ _ _ _ HBB.out Try.underlying65 rfl (Try.recSize rfl) ?_) | (refine wpList_store_row rfl 65 _ _ rfl _ _ rfl rfl _ _ HBR.out (Try.recSize rfl) rfl (by simp [Value.oneCell']) ?_))
  refine bodyPost_ret (results_rowR Try.results87 _ _ (w.heap.size + 1) _ #[.int .i64 kd, .int .u64 (x : Int), .int .i64 pg, .int .i64 of, .slice A bl.length ca, .slice S u.length cs, .int .u64 (nx : Int), .int .u64 (rd : Int), .int .u64 (tl : Int)] (0, 0) _ rfl (HBR.out.rowE #[.int .i64 kd, .int .u64 (x : Int), .int .i64 pg, .int .i64 of, .slice A bl.length ca, .slice S u.length cs, .int .u64 (nx : Int), .int .u64 (rd : Int), .int .u64 (tl : Int)]) Try.underlying65 rfl (Try.recSize rfl)) rfl ⟨A, ca, S, cs, rfl, HA.out.ext (HX.out.setRowE (by omega) _), HS.out.ext (HX.out.setRowE (by omega) _), HX.out.setRowE (by omega) _⟩

end Go.Proofs.Ytgbfeagoadlhmaa
