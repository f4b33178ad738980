
/-
  record.coder, where it reads: contracts of its methods (by recm.py).
-/
import Derived.Test.YtgbfeagoadlhmaaRecJ
import Derived.OwnWalk
import Derived.Maps.AppendAt
set_option linter.unusedVariables false
set_option linter.unusedSimpArgs false
namespace Go.Proofs.Ytgbfeagoadlhmaa
open Go.RowKit Pl

attribute [local go_sem] Oper.semAt_some

/-! ## plain -/
theorem nums_put (n k : Nat) (rest : List UInt8) (hn : n < 256 ^ k) (h1 : 1 ≤ k) (h8 : k ≤ 8) : nums (some (put n k ++ rest)) (k : Int) = (n, some rest) := by
  unfold nums
  rw [if_neg (by omega)]
  rw [gets_in _ _ (by rw [List.length_append, put_length]; omega)]
  simp only
  rw [List.take_left' (put_length n k), List.drop_left' (put_length n k), num_put n k hn]
theorem blobs_put (b rest : List UInt8) (h : b.length ≤ 65535) : blobs (some (blob b ++ rest)) = (b, some rest) := by
  unfold blobs blob
  have := nums_put b.length 2 (b ++ rest) (by omega) (by omega) (by omega)
  rw [List.append_assoc]
  rw [show ((2 : Nat) : Int) = 2 from rfl] at this
  rw [this]
  simp only
  rw [gets_in _ _ (by rw [List.length_append]; omega), List.take_left' rfl, List.drop_left' rfl]

/-- but for two blocks the old memory is as it was -/
def OthR (a b : Nat) (w w' : World) : Prop := w.heap.size ≤ w'.heap.size ∧ w'.os = w.os ∧ w'.tape = w.tape ∧ w'.output = w.output ∧ ∀ k, k < w.heap.size → k ≠ a → k ≠ b → w'.heap[k]? = w.heap[k]?
theorem OthR.refl (a b : Nat) (w : World) : OthR a b w w := ⟨Nat.le_refl _, rfl, rfl, rfl, fun _ _ _ _ => rfl⟩
theorem OthR.trans {a b : Nat} {u v w : World} (h : OthR a b u v) (k : OthR a b v w) : OthR a b u w :=
  ⟨Nat.le_trans h.1 k.1, k.2.1.trans h.2.1, k.2.2.1.trans h.2.2.1, k.2.2.2.1.trans h.2.2.2.1, fun i hi h1 h2 => (k.2.2.2.2 i (Nat.lt_of_lt_of_le hi h.1) h1 h2).trans (h.2.2.2.2 i hi h1 h2)⟩
theorem OthR.grow {a b : Nat} {u v : World} {row : Option Nat} (hg : u.grownBy v row) (hr : ∀ r, row = some r → r = a ∨ r = b) : OthR a b u v :=
  ⟨hg.size, hg.os, hg.tape, hg.output, fun k hk h1 h2 => hg.block k hk (fun e => by rcases hr k e.symm with q | q <;> omega)⟩
theorem OthR.push {a b : Nat} {u v w : World} {row : Option Nat} (h : OthR a b u v) (hg : v.grownBy w row) (hr : ∀ r, row = some r → r = a ∨ r = b ∨ u.heap.size ≤ r) : OthR a b u w :=
  ⟨Nat.le_trans h.1 hg.size, hg.os.trans h.2.1, hg.tape.trans h.2.2.1, hg.output.trans h.2.2.2.1, fun k hk h1 h2 => (hg.block k (Nat.lt_of_lt_of_le hk h.1) (fun e => by rcases hr k e.symm with q | q | q <;> omega)).trans (h.2.2.2.2 k hk h1 h2)⟩
theorem OthR.drew {a b : Nat} {u v : World} (h : OthR a b u v) : OthR a b u v.drew := h
theorem OthR.ext {a b : Nat} {w0 u v : World} (k : Ext w0 u) (h : OthR a b u v) (ha : w0.heap.size ≤ a) (hb : w0.heap.size ≤ b) : Ext w0 v :=
  ⟨h.2.1.trans (Below.os k), h.2.2.1.trans (Below.tape k), h.2.2.2.1.trans (Below.output k), Nat.le_trans k.size h.1, fun i hi => (h.2.2.2.2 i (Nat.lt_of_lt_of_le hi k.size) (by omega) (by omega)).trans (k.block hi)⟩

/-- a coder that reads: its block, its record's, its reader's -/
structure Ci (w : World) (gr gc rd : Nat) (cs : Array Value) (s : Option (List UInt8)) : Prop where
  co : Blk w gc 112 #[.pointer (some ⟨gr, 0, none⟩), .slice none 0 0, .pointer (some ⟨rd, 0, none⟩)]
  rc : Blk w gr 65 cs
  rd_ : Rd w rd s
theorem Rd.blk {w : World} {r : Nat} {s : Option (List UInt8)} (h : Rd w r s) : ∃ cs, Blk w r 139 cs := by
  cases s with
  | none => exact ⟨_, h⟩
  | some l => obtain ⟨A, c, h1, _⟩ := h; exact ⟨_, h1⟩
theorem Ci.ne {w : World} {gr gc rd : Nat} {cs : Array Value} {s : Option (List UInt8)} (h : Ci w gr gc rd cs s) : gr ≠ gc ∧ gr ≠ rd ∧ gc ≠ rd := by
  obtain ⟨ds, hb⟩ := h.rd_.blk
  exact ⟨h.rc.apart h.co (by decide), h.rc.apart hb (by decide), h.co.apart hb (by decide)⟩
theorem Ci.drew {w : World} {gr gc rd : Nat} {cs : Array Value} {s : Option (List UInt8)} (h : Ci w gr gc rd cs s) : Ci w.drew gr gc rd cs s := ⟨h.co.drew, h.rc.drew, by
  have := h.rd_
  cases s with
  | none => exact this
  | some l => exact this⟩
theorem Ci.ext {w w' : World} {gr gc rd : Nat} {cs : Array Value} {s : Option (List UInt8)} (h : Ci w gr gc rd cs s) (hE : Ext w w') : Ci w' gr gc rd cs s := ⟨h.co.ext hE, h.rc.ext hE, h.rd_.ext hE⟩
theorem Ci.upd {w w' : World} {gr gc rd : Nat} {cs : Array Value} {s s' : Option (List UInt8)} (h : Ci w gr gc rd cs s) (hR : Rd w' rd s') (hu : Upd w w' rd) : Ci w' gr gc rd cs s' :=
  ⟨h.co.upd hu h.ne.2.2, h.rc.upd hu h.ne.2.1, hR⟩
theorem noByteR (kd x nx rd tl pg of : Int) (A S : Option Addr) (n c m d : Nat) : NoByte #[.int .i64 kd, .int .u64 x, .int .i64 pg, .int .i64 of, .slice A n c, .slice S m d, .int .u64 nx, .int .u64 rd, .int .u64 tl] := by
  intro i n h
  match i with
  | 0 => simp at h
  | 1 => simp at h
  | 2 => simp at h
  | 3 => simp at h
  | 4 => simp at h
  | 5 => simp at h
  | 6 => simp at h
  | 7 => simp at h
  | 8 => simp at h
  | i + 9 => simp at h
theorem Rd.far {w : World} {r g : Nat} {s : Option (List UInt8)} {t : TypeId} {cs : Array Value} (h : Rd w r s) (hb : Blk w g t cs) (hn : NoByte cs) (hne : r ≠ g) (i : Nat) (u : Value) : Rd (w.setCell ⟨g, i, none⟩ u) r s := by
  cases s with
  | none => exact Blk.far h (by exact hne) u
  | some l => obtain ⟨A, c, h1, h2, h3, h4⟩ := h; exact ⟨A, c, h1.far (by exact hne) u, h2.upd hb hn (Upd.set w g i u), h3, h4⟩
theorem Ci.set {w : World} {gr gc rd : Nat} {cs : Array Value} {s : Option (List UInt8)} (h : Ci w gr gc rd cs s) (hn : NoByte cs) (i : Nat) (u : Value) : Ci (w.setCell ⟨gr, i, none⟩ u) gr gc rd (cs.setIfInBounds i u) s :=
  ⟨h.co.far (by exact h.ne.1.symm) u, h.rc.set i u, h.rd_.far h.rc hn h.ne.2.1.symm i u⟩

set_option maxRecDepth 100000 in
theorem number_ci (w : World) (gr gc rd : Nat) (cs : Array Value) (n k : Nat) (x : Int) (rest : List UInt8) (hn : n < 256 ^ k) (h1 : 1 ≤ k) (h8 : k ≤ 8) (h : Ci w gr gc rd cs (some (put n k ++ rest))) :
    Calls Try.prog 106 #[.pointer (some ⟨gc, 0, none⟩), .int .i64 (k : Int), .int .u64 x] w fun e w' => e = .returned (.int .u64 (n : Int)) ∧ Ci w' gr gc rd cs (some rest) ∧ Upd w w' rd := by
  have K := number_any w rd (some (put n k ++ rest)) (k : Int) h.rd_
  rw [nums_put n k rest hn h1 h8] at K
  have K := Lib.hid K
  have H := Lib.hid h
  have x2 : w.cell? ⟨gc, 2, none⟩ = some (.pointer (some ⟨rd, 0, none⟩)) := by rw [h.co.cell]; rfl
  clear h
  go_enter Try.func106, Try.ntmps106
  go_wp2_with fail
  refine K.out.mono ?_
  rintro e w1 ⟨rfl, hR, hU⟩
  have H2 := Lib.hid (H.out.upd hR hU)
  have HU := Lib.hid hU
  clear hR hU
  go_wp2_with fail
  go_ret
  exact ⟨rfl, H2.out, HU.out⟩

set_option maxRecDepth 100000 in
theorem place_ci (w : World) (gr gc rd : Nat) (cs : Array Value) (n : Nat) (x : Nat) (rest : List UInt8) (hn : n < 65536) (hx : x < 9223372036854775808) (h : Ci w gr gc rd cs (some (put n 2 ++ rest))) :
    Calls Try.prog 107 #[.pointer (some ⟨gc, 0, none⟩), .int .i64 (x : Int)] w fun e w' => e = .returned (.int .i64 (n : Int)) ∧ Ci w' gr gc rd cs (some rest) ∧ Upd w w' rd := by
  have K := number_ci w gr gc rd cs n 2 (x : Int) rest (by omega) (by omega) (by omega) h
  rw [show ((2 : Nat) : Int) = 2 from rfl] at K
  have K := Lib.hid K
  have hm : (x : Int) % 18446744073709551616 = (x : Int) := by omega
  clear h
  go_enter Try.func107, Try.ntmps107
  go_wp2_with fail
  refine K.out.mono ?_
  rintro e w1 ⟨rfl, hC, hU⟩
  have HC := Lib.hid hC
  have HU := Lib.hid hU
  clear hC hU
  go_wp2_with fail
  go_ret
  exact ⟨rfl, HC.out, HU.out⟩

set_option maxRecDepth 100000 in
theorem bytes_ci (w : World) (gr gc rd : Nat) (cs : Array Value) (b rest : List UInt8) (v : Value) (hb : b.length ≤ 65535) (h : Ci w gr gc rd cs (some (blob b ++ rest))) :
    Calls Try.prog 108 #[.pointer (some ⟨gc, 0, none⟩), v] w fun e w' => ∃ A c, e = .returned (.slice A b.length c) ∧ By w' A b ∧ b.length ≤ c ∧ Ci w' gr gc rd cs (some rest) ∧ Upd w w' rd := by
  have K := rblob_any w rd (some (blob b ++ rest)) h.rd_
  rw [blobs_put b rest hb] at K
  have K := Lib.hid K
  have H := Lib.hid h
  have x2 : w.cell? ⟨gc, 2, none⟩ = some (.pointer (some ⟨rd, 0, none⟩)) := by rw [h.co.cell]; rfl
  clear h
  go_enter Try.func108, Try.ntmps108
  go_wp2_with fail
  refine K.out.mono ?_
  rintro e w1 ⟨A, c, rfl, hY, hlc, hR, hU⟩
  have H2 := Lib.hid (H.out.upd hR hU)
  have HU := Lib.hid hU
  have HY := Lib.hid hY
  have HL := Lib.hid hlc
  simp only
  clear hR hU hY hlc
  go_wp2_with fail
  go_ret
  exact ⟨A, c, rfl, HY.out, HL.out, H2.out, HU.out⟩

/-! ## a reader whose bytes lie in old blocks -/
def RdD (w : World) (r B : Nat) (l : List UInt8) : Prop := ∃ A c, Blk w r 139 #[.slice A l.length c, .bool true] ∧ By w A l ∧ l.length ≤ c ∧ c ≤ 9223372036854775807 ∧ (l = [] ∨ ∀ b o, A = some ⟨b, o, none⟩ → b < B)
theorem RdD.of {w : World} {r : Nat} {l : List UInt8} (h : Rd w r (some l)) : RdD w r w.heap.size l := by
  obtain ⟨A, c, h1, h2, h3, h4⟩ := h
  refine ⟨A, c, h1, h2, h3, h4, ?_⟩
  by_cases h0 : l = []
  · exact .inl h0
  · right
    rcases h2 with h2 | ⟨b, o, rfl, hc⟩
    · exact absurd h2 h0
    · intro b' o' e
      injection e with e; injection e with e1 e2
      subst e1
      exact block_lt_of_cell (hc 0 (List.length_pos_iff.2 h0))
theorem RdD.rd {w : World} {r B : Nat} {l : List UInt8} (h : RdD w r B l) : Rd w r (some l) := by
  obtain ⟨A, c, h1, h2, h3, h4, _⟩ := h
  exact ⟨A, c, h1, h2, h3, h4⟩
theorem RdD.grown {w w' : World} {r B : Nat} {l : List UInt8} {row : Option Nat} (h : RdD w r B l) (hg : w.grownBy w' row) (hr : ∀ k, row = some k → B ≤ k ∧ k ≠ r) : RdD w' r B l := by
  obtain ⟨A, c, h1, h2, h3, h4, h5⟩ := h
  refine ⟨A, c, h1.grown hg (fun e => (hr r e.symm).2 rfl), ?_, h3, h4, h5⟩
  rcases h5 with h5 | h5
  · exact .inl h5
  · rcases h2 with h2 | ⟨b, o, rfl, hc⟩
    · exact .inl h2
    · refine .inr ⟨b, o, rfl, fun i hi => ?_⟩
      rw [World.cell?_of_block (w := w) (hg.block b (block_lt_of_cell (hc i hi)) (fun e => by have := (hr b e.symm).1; have := h5 b o rfl; omega))]
      exact hc i hi

set_option maxHeartbeats 800000 in
theorem step_d (w : World) (r B k : Nat) (l : List UInt8) (hk : k ≤ l.length) (h : RdD w r B l) :
    Calls Try.prog 117 #[.pointer (some ⟨r, 0, none⟩), .int .i64 (k : Int)] w fun e w' => ∃ X c', e = .returned (.slice X k c') ∧ By w' X (l.take k) ∧ RdD w' r B (l.drop k) ∧ Upd w w' r := by
  have HF := Lib.hid (failed_any w r (some l) h.rd)
  obtain ⟨A, c, h1, h2, h3, h4, h5⟩ := h
  have c0 : w.cell? ⟨r, 0, none⟩ = some (.slice A l.length c) := by rw [h1.cell]; rfl
  have c1 : w.cell? ⟨r, 1, none⟩ = some (.bool true) := by rw [h1.cell]; rfl
  have f0 := h1.frozen 0
  have f1 := h1.frozen 1
  have HFIN : Hid (∀ A' c', A' = cutA A c k → c' = c - k → By (w.setCell ⟨r, 0, none⟩ (.slice A' (l.length - k) c')) A (l.take k) ∧ RdD (w.setCell ⟨r, 0, none⟩ (.slice A' (l.length - k) c')) r B (l.drop k) ∧ Upd w (w.setCell ⟨r, 0, none⟩ (.slice A' (l.length - k) c')) r) := Lib.hid (fun A' c' ha hc => by
    subst ha hc
    have hn : NoByte #[.slice A l.length c, .bool true] := noByte2 (by intro n h; cases h) (by intro n h; cases h)
    have hu := Upd.set w r 0 (.slice (cutA A c k) (l.length - k) (c - k))
    refine ⟨(h2.take k).upd h1 hn hu, ⟨cutA A c k, c - k, ?_, (h2.drop hk h3).upd h1 hn hu, by rw [List.length_drop]; omega, by omega, ?_⟩, hu⟩
    · rw [List.length_drop]
      exact h1.set 0 _
    · by_cases h0 : l.drop k = []
      · exact .inl h0
      · right
        rcases h5 with h5 | h5
        · exact absurd (by rw [h5]; simp) h0
        · intro b o e
          unfold cutA at e
          split at e
          · exact h5 b o e
          · rcases h2 with h2 | ⟨b', o', rfl, _⟩
            · exact absurd (by rw [h2]; simp) h0
            · have := h5 b' o' rfl
              simp [Addr.add] at e
              split at e <;> (injection e with e1; omega))
  have hkc : k ≤ c := by omega
  clear h1 h2 h5
  generalize hm : l.length = m at *
  clear hm
  go_enter Try.func117, Try.ntmps117
  go_wp2_with (first | (go_at_call 96; refine HF.out.mono ?_; rintro e w' ⟨rfl, rfl⟩; simp only [brokenB]))
  · have hck : c = k := by assumption
    go_ret
    exact ⟨_, ⟨_, rfl⟩, HFIN.out _ _ (by unfold cutA; rw [if_pos hck]) (by omega)⟩
  · have hck : ¬ c = k := by assumption
    go_ret
    exact ⟨_, ⟨_, rfl⟩, HFIN.out _ _ (by unfold cutA; rw [if_neg hck]) rfl⟩

set_option maxHeartbeats 800000 in
theorem number_d (w : World) (r B k : Nat) (l : List UInt8) (hk : k ≤ l.length) (h1 : 1 ≤ k) (h8 : k ≤ 8) (h : RdD w r B l) :
    Calls Try.prog 112 #[.pointer (some ⟨r, 0, none⟩), .int .i64 (k : Int)] w fun e w' => e = .returned (.int .u64 (num (l.take k) : Int)) ∧ RdD w' r B (l.drop k) ∧ Upd w w' r := by
  have HS := Lib.hid (step_d w r B k l hk h)
  have hl : (l.take k).length = k := by rw [List.length_take]; omega
  have HL := Lib.hid hl
  have a1 : ¬ (k : Int) < 1 := by omega
  have a2 : ¬ (8 : Int) < (k : Int) := by omega
  clear h hl
  generalize l.take k = p at *
  go_enter Try.func112, Try.ntmps112
  go_wp2_with fail
  refine HS.out.mono ?_
  rintro e w' ⟨A, c, rfl, hb, hr, hu⟩
  have HR := Lib.hid hr
  have HU := Lib.hid hu
  have KG := get_short A p c (by rw [HL.out]; omega) w' hb
  rw [HL.out] at KG
  have KG := Lib.hid KG
  clear hb hr hu
  go_wp2_with fail
  refine KG.out.mono ?_
  rintro e w2 ⟨x, rfl, rfl⟩
  go_wp2
  go_ret
  exact ⟨rfl, HR.out, HU.out⟩

set_option maxRecDepth 100000 in
theorem number_cd (w : World) (gr gc rd B k : Nat) (cs : Array Value) (l : List UInt8) (x : Int) (hk : k ≤ l.length) (h1 : 1 ≤ k) (h8 : k ≤ 8) (hc : Blk w gc 112 #[.pointer (some ⟨gr, 0, none⟩), .slice none 0 0, .pointer (some ⟨rd, 0, none⟩)]) (h : RdD w rd B l) :
    Calls Try.prog 106 #[.pointer (some ⟨gc, 0, none⟩), .int .i64 (k : Int), .int .u64 x] w fun e w' => e = .returned (.int .u64 (num (l.take k) : Int)) ∧ RdD w' rd B (l.drop k) ∧ Upd w w' rd := by
  have K := Lib.hid (number_d w rd B k l hk h1 h8 h)
  have x2 : w.cell? ⟨gc, 2, none⟩ = some (.pointer (some ⟨rd, 0, none⟩)) := by rw [hc.cell]; rfl
  clear h hc
  go_enter Try.func106, Try.ntmps106
  go_wp2_with fail
  refine K.out.mono ?_
  rintro e w1 ⟨rfl, hR, hU⟩
  have HR := Lib.hid hR
  have HU := Lib.hid hU
  clear hR hU
  go_wp2_with fail
  go_ret
  exact ⟨rfl, HR.out, HU.out⟩
theorem row_far {w w' : World} {B n : Nat} {e : TypeId} {v : Value} {xs : List Value} {row : Option Nat} (h : w.ownsRow B e 1 v n xs) (hg : w.grownBy w' row) (hr : ∀ r, row = some r → r < B) : w'.ownsRow B e 1 v n xs :=
  World.ownsRow.kept h hg (by
    cases hv : v.ownBlock with
    | none => exact .inl rfl
    | some j =>
      right
      intro q
      have h1 := (World.ownsRow.lt h j hv).1
      have h2 := hr j q.symm
      omega)
theorem row_lt {w : World} {B n : Nat} {e : TypeId} {v : Value} {xs : List Value} (h : w.ownsRow B e 1 v n xs) : ∀ r, v.ownBlock = some r → B ≤ r := fun r hr => (World.ownsRow.lt h r hr).1
theorem news1 (w : World) (t : TypeId) (x : Value) : ∀ j u, [x][j]? = some u → (w.alloc (.cells #[x] t)).cell? ((⟨w.heap.size, 0, none⟩ : Addr).add j) = some u := by
  intro j u hj
  have e : (⟨w.heap.size, 0, none⟩ : Addr).add j = ⟨w.heap.size, j, none⟩ := by unfold Addr.add; split <;> simp_all
  rw [e, (Blk.new w t #[x]).cell, ← hj]
  simp

theorem Try.infoU : (Try.prog.info? 39).map (fun i => (i.zero, i.size, i.bytes)) = some (some (.int .u64 0), 1, 8) := by kernel_rfl
def numsV (u : List Nat) : List Value := u.map fun (n : Nat) => Value.int .u64 (n : Int)
theorem nums_row {w : World} {B : Nat} {v : Value} {u : List Nat} (h : w.ownsRow B 39 1 v u.length (numsV u)) : ∃ A c, v = .slice A u.length c ∧ Nums w A u ∧ u.length ≤ c ∧ (∀ b o, A = some ⟨b, o, none⟩ → B ≤ b ∧ ∃ cur, Blk w b 39 cur) := by
  obtain ⟨h1, h2⟩ := h
  rcases h2 with ⟨rfl, h0⟩ | ⟨g, cap, cur, rfl, hb, hh, hnc, hm, hs, ht⟩
  · have : u = [] := List.eq_nil_of_length_eq_zero h0
    subst this
    exact ⟨none, 0, rfl, .inl rfl, Nat.le_refl _, fun b o e => by cases e⟩
  · refine ⟨_, cap, rfl, .inr ⟨g, 0, rfl, fun i hi => ?_⟩, hnc, fun b o e => by injection e with e; injection e with e1 e2; subst e1; exact ⟨hb, cur, hh⟩⟩
    rw [Nat.zero_add, Blk.cell (t := 39) hh, ← Array.getElem?_toList]
    have h3 : (cur.toList.take (u.length * 1))[i]? = (numsV u)[i]? := by rw [ht]
    rw [List.getElem?_take_of_lt (by omega)] at h3
    rw [h3]
    unfold numsV
    simp [List.getElem?_eq_getElem hi, List.getD_eq_getElem?_getD]

set_option maxHeartbeats 3200000 in
set_option maxRecDepth 100000 in
theorem subs_ci (w : World) (gr gc rd : Nat) (cs : Array Value) (u : List Nat) (rest : List UInt8) (hu : u.length ≤ 9000) (hbig : ∀ i, i < u.length → u.getD i 0 < 18446744073709551616) (h : Ci w gr gc rd cs (some (subsB u ++ rest))) :
    Calls Try.prog 109 #[.pointer (some ⟨gc, 0, none⟩), .slice none 0 0] w fun e w' => ∃ A c, e = .returned (.slice A u.length c) ∧ Nums w' A u ∧ u.length ≤ c ∧ (∀ b o, A = some ⟨b, o, none⟩ → w.heap.size ≤ b ∧ ∃ cur, Blk w' b 39 cur) ∧ Ci w' gr gc rd cs (some rest) ∧ OthR gr rd w w' := by
  have h0 : Ci w gr gc rd cs (some (put u.length 2 ++ (put8s u ++ rest))) := by
    have := h
    unfold subsB at this
    rwa [List.append_assoc] at this
  have KP := place_ci w gr gc rd cs u.length 0 (put8s u ++ rest) (by omega) (by omega) h0
  rw [show ((0 : Nat) : Int) = 0 from rfl] at KP
  have KP := Lib.hid KP
  have HBIG := Lib.hid hbig
  have HDS : Hid (∀ k, k < u.length → put8s (u.drop k) = put (u.getD k 0) 8 ++ put8s (u.drop (k + 1))) := Lib.hid (fun k hk => by
    have e : u.getD k 0 = u[k] := by simp [List.getD_eq_getElem?_getD, hk]
    rw [List.drop_eq_getElem_cons hk, e]
    rfl)
  have HTS : Hid (∀ k, k < u.length → numsV (u.take (k + 1)) = numsV (u.take k) ++ [.int .u64 ((u.getD k 0 : Nat) : Int)]) := Lib.hid (fun k hk => by
    unfold numsV
    rw [List.take_succ_eq_append_getElem hk, List.map_append]
    simp [List.getD_eq_getElem?_getD, hk])
  have HD0 : Hid (put8s (u.drop 0) = put8s u) := Lib.hid rfl
  have HDN : Hid (put8s (u.drop u.length) = []) := Lib.hid (by rw [List.drop_length]; rfl)
  have HTN : Hid (u.take u.length = u) := Lib.hid List.take_length
  have HLP : Hid ((put8s u ++ rest).length = 8 * u.length + rest.length) := Lib.hid (by rw [List.length_append, put8s_length])
  have HT0 : Hid (numsV (u.take 0) = []) := Lib.hid rfl
  have HTL := Lib.hid (fun k (hk : k ≤ u.length) => (by rw [List.length_take]; omega : (u.take k).length = k))
  obtain ⟨i0, hi, hz0, hz1, hz2⟩ := info_parts Try.infoU
  clear h h0 hbig
  generalize hn : u.length = n at *
  have HN := Lib.hid hn
  clear hn
  go_enter Try.func109, Try.ntmps109
  go_wp2_with fail
  refine KP.out.mono ?_
  rintro e w1 ⟨rfl, hC1, hU1⟩
  have x2 : w1.cell? ⟨gc, 2, none⟩ = some (.pointer (some ⟨rd, 0, none⟩)) := by rw [hC1.co.cell]; rfl
  have KL := left_any w1 rd _ hC1.rd_
  rw [show leftN (some (put8s u ++ rest)) = 8 * n + rest.length from HLP.out] at KL
  have KL := Lib.hid KL
  have HC1 := Lib.hid hC1
  have HU1 := Lib.hid hU1
  have HD1 := Lib.hid (RdD.of hC1.rd_)
  obtain ⟨L, hL⟩ : ∃ L : Nat, 8 * n + rest.length = L := ⟨_, rfl⟩
  rw [hL] at KL
  have hLb : L ≤ 9223372036854775807 := by
    obtain ⟨A, c, _, _, h3, h4⟩ := hC1.rd_
    rw [HLP.out] at h3
    omega
  obtain ⟨q, hq⟩ : ∃ q : Nat, L / 8 = q := ⟨_, rfl⟩
  have hq1 : Int.tdiv (L : Int) 8 = (q : Int) := by rw [← hq]; exact Int.ofNat_tdiv L 8
  have hq3 : decide (q < n) = false := decide_eq_false (by omega)
  have hq5 : q ≤ L := by omega
  clear hq
  clear hC1 hU1 KP
  go_wp2_with fail
  refine KL.out.mono ?_
  rintro e w2 ⟨rfl, rfl⟩
  clear KL hL
  go_wp2_with fail
  obtain ⟨hne1, hne2, hne3⟩ := HC1.out.ne
  have hgrB := HC1.out.rc.lt
  have hgcB := HC1.out.co.lt
  have hrdB := HC1.out.rd_.lt
  generalize hB : w1.heap.size = B at *
  have HBw : Hid (w.heap.size ≤ B) := Lib.hid (by rw [← hB]; exact HU1.out.grown.size)
  have HBB : Hid (B ≤ w1.heap.size) := Lib.hid (by rw [hB]; exact Nat.le_refl _)
  clear hB
  go_loopw [8, 43] (fun v q wr => ∃ k : Nat, k ≤ n ∧ q = .int .i64 (k : Int) ∧ wr.ownsRow B 39 1 v k (numsV (u.take k)) ∧ Blk wr gc 112 #[.pointer (some ⟨gr, 0, none⟩), .slice none 0 0, .pointer (some ⟨rd, 0, none⟩)] ∧ Blk wr gr 65 cs ∧ RdD wr rd B (put8s (u.drop k) ++ rest) ∧ OthR gr rd w wr ∧ B ≤ wr.heap.size) (fun _ q _ => n - (intOf q).toNat)
  case atStart => exact ⟨0, Nat.zero_le _, rfl, by rw [HT0.out]; exact World.ownsRow_nil w1 B 39 1, HC1.out.co, HC1.out.rc, by rw [HD0.out]; exact HD1.out, OthR.grow HU1.out.grown (fun r e => by cases e; exact .inr rfl), HBB.out⟩
  case round =>
    obtain ⟨k, hk, rfl, hO, hco, hrc, hD, hT, hBs⟩ := hrel
    have HO := Lib.hid hO
    have HCO := Lib.hid hco
    have HRC := Lib.hid hrc
    have HD := Lib.hid hD
    have HT := Lib.hid hT
    have HBS := Lib.hid hBs
    clear hO hco hrc hD hT hBs HC1 HU1 HD1 HBB HT0 HD0 x2
    by_cases hkn : k < n
    · have dk : decide ((k : Int) < (n : Int)) = true := decide_eq_true (by omega)
      have hlen : 8 ≤ (put8s (u.drop k) ++ rest).length := by rw [HDS.out k hkn, List.length_append, List.length_append, put_length]; omega
      have K := number_cd wr gr gc rd B 8 cs (put8s (u.drop k) ++ rest) 0 hlen (by omega) (by omega) HCO.out HD.out
      have hab := HBIG.out k hkn
      rw [HDS.out k hkn, List.append_assoc, List.take_left' (put_length _ 8), List.drop_left' (put_length _ 8), num_put _ 8 (by omega), show ((8 : Nat) : Int) = 8 from rfl] at K
      have K := Lib.hid K
      have HTSk := Lib.hid (HTS.out k hkn)
      generalize u.getD k 0 = a at *
      clear hlen hab
      go_wp2_with fail
      refine K.out.mono ?_
      rintro e w3 ⟨rfl, hD3, hU3⟩
      have HU3 := Lib.hid hU3
      have hu3 : ∀ r, some rd = some r → r < B := fun r e => by cases e; exact hrdB
      have HOW := Lib.hid (World.ownsRow.alloc (row_far HO.out hU3.grown hu3) (.cells #[.int .u64 (a : Int)] 39))
      have HD4 := Lib.hid (hD3.grown (World.grownBy_alloc w3 (.cells #[.int .u64 (a : Int)] 39) none) (fun r e => by cases e))
      have HCO4 := Lib.hid ((HCO.out.upd hU3 hne3).alloc (.cells #[.int .u64 (a : Int)] 39))
      have HRC4 := Lib.hid ((HRC.out.upd hU3 hne2).alloc (.cells #[.int .u64 (a : Int)] 39))
      have HT4 := Lib.hid ((HT.out.trans (OthR.grow hU3.grown (fun r e => by cases e; exact .inr rfl))).trans (OthR.grow (a := gr) (b := rd) (World.grownBy_alloc w3 (.cells #[.int .u64 (a : Int)] 39) none) (fun r e => by cases e)))
      have HSZ3 : Hid (B ≤ (w3.alloc (.cells #[.int .u64 (a : Int)] 39)).heap.size) := Lib.hid (by have := HBS.out; have := hU3.size; simp; omega)
      have HNW := Lib.hid (news1 w3 39 (.int .u64 (a : Int)))
      clear hD3 hU3 K HO HCO HRC HD HT HU3
      go_wp2_with (at_builtin; refine wpList_append_own_at _ rfl _ _ _ rfl B 39 i0 (.int .u64 0) 1 8 Try.underlying63 hi hz0 hz1 hz2 rfl (by omega) _ k (numsV (u.take k)) rfl HOW.out ⟨w3.heap.size, 0, none⟩ 1 1 [.int .u64 (a : Int)] rfl rfl HNW.out (by intro x hx; simp at hx; rw [hx]; rfl) (by unfold maxLen; omega) (by omega) HSZ3.out ?_; intro vN wN hownN hGN hnilN hatN; have HOWN := Lib.hid hownN; have HGN := Lib.hid hGN; clear hownN hGN hnilN hatN)
      have hrow : ∀ r, Value.ownBlock u8 = some r → B ≤ r := row_lt HOW.out
      refine ⟨⟨k + 1, by omega, by go_num, by rw [HTSk.out]; exact HOWN.out, HCO4.out.grown HGN.out (fun e => by have := hrow gc e.symm; omega), HRC4.out.grown HGN.out (fun e => by have := hrow gr e.symm; omega), HD4.out.grown HGN.out (fun r e => ⟨hrow r e, by have := hrow r e; omega⟩), HT4.out.push HGN.out (fun r e => .inr (.inr (by have := hrow r e; have := HBw.out; omega))), Nat.le_trans HSZ3.out HGN.out.size⟩, by simp [intOf]; omega⟩
    · obtain rfl : k = n := by omega
      have dk : decide ((k : Int) < (k : Int)) = false := by simp
      have hO := HO.out
      rw [HTN.out] at hO
      have hD := HD.out
      rw [HDN.out, List.nil_append] at hD
      have hO2 := hO
      rw [← HN.out] at hO2
      obtain ⟨A, c, rfl, hNm, hlc, hown⟩ := nums_row hO2
      rw [HN.out] at hlc ⊢
      have HNm := Lib.hid hNm
      have HD2 := Lib.hid hD
      have HOWN := Lib.hid hown
      clear hO hO2 hD hNm hown HO HD
      go_wp2_with fail
      go_ret
      exact ⟨A, c, rfl, HNm.out, hlc, fun b o e => ⟨Nat.le_trans HBw.out (HOWN.out b o e).1, (HOWN.out b o e).2⟩, ⟨HCO.out, HRC.out, HD2.out.rd⟩, HT.out⟩

end Go.Proofs.Ytgbfeagoadlhmaa
