
/-
  record.coder, where it writes: contracts of its methods (by recb.py).
-/
import Derived.Test.YtgbfeagoadlhmaaRecA
import Derived.Test.YtgbfeagoadlhmaaReadC
import Derived.Test.YtgbfeagoadlhmaaWireC
set_option linter.unusedVariables false
set_option linter.unusedSimpArgs false
namespace Go.Proofs.Ytgbfeagoadlhmaa
open Go.RowKit Pl

attribute [local go_sem] Oper.semAt_some

theorem Blk.apart {w : World} {g k : Nat} {t u : TypeId} {cs ds : Array Value} (h : Blk w g t cs) (h2 : Blk w k u ds) (hne : t ≠ u) : g ≠ k := by
  intro e
  subst e
  unfold Blk at h h2
  rw [h] at h2
  cases h2
  exact hne rfl
theorem Own.blk {e : TypeId} {w : World} {B : Nat} {v : Value} {l : List UInt8} (h : Own e w B v l) {k : Nat} (hk : v.ownBlock = some k) : B ≤ k ∧ ∃ cur, Blk w k e cur := by
  rcases h.2 with ⟨rfl, _⟩ | ⟨g, cap, cur, rfl, hb, hh, _⟩
  · cases hk
  · cases hk; exact ⟨hb, cur, hh⟩
theorem grown_cell (w : World) (p : Addr) (u : Value) : w.grownBy (w.setCell p u) (some p.block) :=
  have h := (Below.refl 0 w).setCell (p := p) (Nat.zero_le _) u
  ⟨Below.os h, Below.tape h, Below.output h, Below.size h, fun k _ hk => heap_setCell_other w p k u (fun e => hk (by rw [e]))⟩

/-- a coder that writes: its block, its record's, what it has written -/
structure Co (w : World) (B gr gc : Nat) (v : Value) (cs : Array Value) (l : List UInt8) : Prop where
  co : Blk w gc 112 #[.pointer (some ⟨gr, 0, none⟩), v, .pointer none]
  rc : Blk w gr 65 cs
  own : Own 5 w B v l
  lr : B ≤ gr
  lc : B ≤ gc
theorem Co.ext {w w' : World} {B gr gc : Nat} {v : Value} {cs : Array Value} {l : List UInt8} (h : Co w B gr gc v cs l) (hE : Ext w w') : Co w' B gr gc v cs l := ⟨h.co.ext hE, h.rc.ext hE, h.own.ext hE, h.lr, h.lc⟩
theorem Co.drew {w : World} {B gr gc : Nat} {v : Value} {cs : Array Value} {l : List UInt8} (h : Co w B gr gc v cs l) : Co w.drew B gr gc v cs l := ⟨h.co.drew, h.rc.drew, h.own.drew, h.lr, h.lc⟩
theorem Co.size {w : World} {B gr gc : Nat} {v : Value} {cs : Array Value} {l : List UInt8} (h : Co w B gr gc v cs l) : B ≤ w.heap.size := by have := h.rc.lt; have := h.lr; omega
theorem Co.put {w w' : World} {B gr gc : Nat} {v v' : Value} {cs : Array Value} {l m : List UInt8} (h : Co w B gr gc v cs l) (hO : Own 5 w' B v' (l ++ m)) (hg : w.grownBy w' v.ownBlock) :
    Co (w'.setCell ⟨gc, 1, none⟩ v') B gr gc v' cs (l ++ m) ∧ Below B w (w'.setCell ⟨gc, 1, none⟩ v') ∧ w'.cell? ⟨gc, 1, none⟩ = some v ∧ w'.frozen? ⟨gc, 1, none⟩ = false := by
  have n1 : some gc ≠ v.ownBlock := fun e => by
    obtain ⟨_, cur, hb⟩ := h.own.blk e.symm
    exact hb.apart h.co (by decide) rfl
  have n2 : some gr ≠ v.ownBlock := fun e => by
    obtain ⟨_, cur, hb⟩ := h.own.blk e.symm
    exact hb.apart h.rc (by decide) rfl
  have n3 : gr ≠ gc := h.rc.apart h.co (by decide)
  have hc := h.co.grown hg n1
  refine ⟨⟨hc.set 1 v', (h.rc.grown hg n2).far (by exact n3) v', hO.kept (grown_cell _ _ _) ?_, h.lr, h.lc⟩, ?_, by rw [hc.cell]; rfl, hc.frozen 1⟩
  · cases hv : v'.ownBlock with
    | none => exact .inl rfl
    | some k =>
      right
      intro e
      obtain ⟨_, cur, hb⟩ := hO.blk hv
      have : k = gc := by simpa using e
      subst this
      exact hb.apart hc (by decide) rfl
  · exact (Below.grown (Below.refl B w) hg h.size (fun k hk => (h.own.lt k hk).1)).setCell h.lc v'

/-- memory while a coder writes -/
def CoR (B gr gc : Nat) (w w' : World) : Prop := Below B w w' ∧ w.heap.size ≤ w'.heap.size ∧ w'.heap[gr]? = w.heap[gr]? ∧ ∀ p v q, Blk w gc 112 #[p, v, q] → ∃ v', Blk w' gc 112 #[p, v', q]
theorem coR_pre (B gr gc : Nat) : Pre (CoR B gr gc) :=
  ⟨fun w => ⟨Below.refl _ _, Nat.le_refl _, rfl, fun p v q h => ⟨v, h⟩⟩, fun h k => ⟨Below.trans h.1 k.1, Nat.le_trans h.2.1 k.2.1, k.2.2.1.trans h.2.2.1, fun p v q hb => by
    obtain ⟨v1, h1⟩ := h.2.2.2 p v q hb
    exact k.2.2.2 p v1 q h1⟩⟩
theorem CoR.ptr {w w' : World} {B gr gc : Nat} {v : Value} {cs : Array Value} {l : List UInt8} (hR : CoR B gr gc w w') (h : Co w B gr gc v cs l) : w'.cell? ⟨gc, 0, none⟩ = some (.pointer (some ⟨gr, 0, none⟩)) := by
  obtain ⟨v', hb⟩ := hR.2.2.2 _ _ _ h.co
  rw [hb.cell]; rfl
theorem CoR.fld {w w' : World} {B gr gc : Nat} {v x : Value} {cs : Array Value} {l : List UInt8} (hR : CoR B gr gc w w') (h : Co w B gr gc v cs l) {i : Nat} (hx : cs[i]? = some x) : w'.cell? ⟨gr, i, none⟩ = some x := by
  have hb : Blk w' gr 65 cs := hR.2.2.1.trans h.rc
  rw [hb.cell]; exact hx
theorem coR_of {w w' : World} {B gr gc : Nat} {v v' : Value} {cs : Array Value} {l l' : List UInt8} (h : Co w B gr gc v cs l) (h' : Co w' B gr gc v' cs l') (hb : Below B w w') (hs : w.heap.size ≤ w'.heap.size) : CoR B gr gc w w' :=
  ⟨hb, hs, by have h1 := h.rc; have h2 := h'.rc; unfold Blk at h1 h2; rw [h1, h2], fun p u q hB => by
    have e : (#[p, u, q] : Array Value) = #[.pointer (some ⟨gr, 0, none⟩), v, .pointer none] := by
      have h1 := h.co
      unfold Blk at hB h1
      rw [hB] at h1
      cases h1
      rfl
    have e1 : p = .pointer (some ⟨gr, 0, none⟩) := by have := congrArg (fun a : Array Value => a[0]?) e; simpa using this
    have e2 : q = .pointer none := by have := congrArg (fun a : Array Value => a[2]?) e; simpa using this
    subst e1 e2
    exact ⟨v', h'.co⟩⟩
theorem set_same {cs : Array Value} {i : Nat} {x : Value} (h : cs[i]? = some x) : cs.setIfInBounds i x = cs := by
  apply Array.ext_getElem?
  intro k
  rw [Array.getElem?_setIfInBounds]
  by_cases hik : i = k
  · subst hik
    rw [if_pos rfl, h]
    have hlt : i < cs.size := by
      rcases Nat.lt_or_ge i cs.size with q | q
      · exact q
      · rw [Array.getElem?_eq_none q] at h; cases h
    rw [if_pos hlt]
  · rw [if_neg hik]
theorem Co.same {w : World} {B gr gc : Nat} {v x : Value} {cs : Array Value} {l : List UInt8} (h : Co w B gr gc v cs l) {i : Nat} (hx : cs[i]? = some x) : Co (w.setCell ⟨gr, i, none⟩ x) B gr gc v cs l ∧ CoR B gr gc w (w.setCell ⟨gr, i, none⟩ x) ∧ w.cell? ⟨gr, i, none⟩ = some x ∧ w.frozen? ⟨gr, i, none⟩ = false := by
  have n3 : gc ≠ gr := h.co.apart h.rc (by decide)
  have hr : Blk (w.setCell ⟨gr, i, none⟩ x) gr 65 cs := by have := h.rc.set i x; rwa [set_same hx] at this
  have h1 : Co (w.setCell ⟨gr, i, none⟩ x) B gr gc v cs l := ⟨h.co.far (by exact n3) x, hr, h.own.kept (grown_cell _ _ _) (by
    cases hv : v.ownBlock with
    | none => exact .inl rfl
    | some k =>
      right
      intro e
      obtain ⟨_, cur, hb⟩ := h.own.blk hv
      have : k = gr := by simpa using e
      subst this
      exact hb.apart h.rc (by decide) rfl), h.lr, h.lc⟩
  exact ⟨h1, coR_of h h1 ((Below.refl B w).setCell h.lr x) (by simp), by rw [h.rc.cell]; exact hx, h.rc.frozen i⟩
theorem CoR.below {w w' : World} {B gr gc : Nat} (h : CoR B gr gc w w') : Below B w w' := h.1
theorem load_ptrR {w : World} {p q : Addr} (h : w.cell? p = some (.pointer (some q))) : (Instr.loadAt 109 (.pointer (some p))).run Try.prog w = .ok (.pointer (some q)) w := by
  simp [go_sem, h]
theorem load_slb {w : World} {p : Addr} {A : Option Addr} {n c : Nat} (h : w.cell? p = some (.slice A n c)) : (Instr.loadAt 24 (.pointer (some p))).run Try.prog w = .ok (.slice A n c) w := by
  simp [go_sem, h]
theorem load_int {w : World} {p : Addr} {n : Int} (h : w.cell? p = some (.int .i64 n)) : (Instr.loadAt 3 (.pointer (some p))).run Try.prog w = .ok (.int .i64 n) w := by
  simp [go_sem, h]

/-- what a coder's step leaves -/
def CoP (w : World) (B gr gc : Nat) (cs : Array Value) (l : List UInt8) (w' : World) : Prop := (∃ v', Co w' B gr gc v' cs l) ∧ Below B w w' ∧ w.heap.size ≤ w'.heap.size

set_option maxHeartbeats 1600000 in
set_option maxRecDepth 100000 in
theorem number_co (w : World) (B gr gc : Nat) (v : Value) (cs : Array Value) (l : List UInt8) (n k : Nat) (hn : n < 256 ^ k) (h1 : 1 ≤ k) (h8 : k ≤ 8) (h : Co w B gr gc v cs l) (hl : l.length ≤ 1000000) :
    Calls Try.prog 106 #[.pointer (some ⟨gc, 0, none⟩), .int .i64 (k : Int), .int .u64 (n : Int)] w fun e w' => e = .returned (.int .u64 (n : Int)) ∧ CoP w B gr gc cs (l ++ put n k) w' := by
  obtain ⟨A, c, rfl, hby, hc1, hc2⟩ := h.own.form
  have x2 : w.cell? ⟨gc, 2, none⟩ = some (.pointer none) := by rw [h.co.cell]; rfl
  have KP := Lib.hid (fun W => put_yes n k hn h1 h8 W)
  have H := Lib.hid h
  have hpl := put_length n k
  have HPL := Lib.hid hpl
  clear hby h hpl hn
  go_enter Try.func106, Try.ntmps106
  go_wp2_with fail
  refine (KP.out _).mono ?_
  rintro e w1 ⟨g, rfl, hB1, hg1, hE1⟩
  have H1 := Lib.hid (H.out.ext hE1)
  have x1 : w1.cell? ⟨gc, 1, none⟩ = some (.slice A l.length c) := by rw [H1.out.co.cell]; rfl
  have HY := Lib.hid (By.of_blk hB1)
  have HE1 := Lib.hid hE1
  clear hB1 hE1 x2
  go_wp2_with (at_builtin; refine wpList_append8 Try.byt rfl _ _ rfl rfl H1.out.own _ _ _ rfl (put n k) HY.out HPL.out.symm ?c3 H1.out.size ?_)
  case c3 => rw [HPL.out]; omega
  intro v2 w2 hO2 hg2 hl2
  obtain ⟨A2, c2, rfl, _, _, _⟩ := hO2.form
  obtain ⟨q1, q2, q3, q4⟩ := H1.out.put hO2 hg2
  generalize (l ++ put n k).length = nl at *
  have HQ1 := Lib.hid q1
  have HQ2 := Lib.hid q2
  have HG := Lib.hid hg2.size
  clear hO2 hg2 hl2 q1 q2
  go_wp2_with fail
  go_ret
  exact ⟨rfl, ⟨_, HQ1.out⟩, Below.trans (Below.mono HE1.out H.out.size) HQ2.out, by have := HE1.out.size; have := HG.out; simp; omega⟩

set_option maxRecDepth 100000 in
theorem place_co (w : World) (B gr gc : Nat) (v : Value) (cs : Array Value) (l : List UInt8) (n : Nat) (hn : n < 65536) (h : Co w B gr gc v cs l) (hl : l.length ≤ 1000000) :
    Calls Try.prog 107 #[.pointer (some ⟨gc, 0, none⟩), .int .i64 (n : Int)] w fun e w' => e = .returned (.int .i64 (n : Int)) ∧ CoP w B gr gc cs (l ++ put n 2) w' := by
  have K := number_co w B gr gc v cs l n 2 (by omega) (by omega) (by omega) h hl
  rw [show ((2 : Nat) : Int) = 2 from rfl] at K
  have K := Lib.hid K
  have hm : (n : Int) % 18446744073709551616 = (n : Int) := by omega
  clear h
  go_enter Try.func107, Try.ntmps107
  go_wp2_with fail
  refine K.out.mono ?_
  rintro e w1 ⟨rfl, hP⟩
  have HP := Lib.hid hP
  clear hP
  go_wp2_with fail
  go_ret
  exact ⟨rfl, HP.out⟩

set_option maxHeartbeats 1600000 in
set_option maxRecDepth 100000 in
theorem bytes_co (w : World) (B gr gc : Nat) (v : Value) (cs : Array Value) (l : List UInt8) (A0 : Option Addr) (m : List UInt8) (c0 : Nat) (hm : m.length ≤ 65535) (hc : m.length ≤ c0) (hb : By w A0 m) (h : Co w B gr gc v cs l) (hl : l.length ≤ 1000000) :
    Calls Try.prog 108 #[.pointer (some ⟨gc, 0, none⟩), .slice A0 m.length c0] w fun e w' => e = .returned (.slice A0 m.length c0) ∧ CoP w B gr gc cs (l ++ blob m) w' := by
  obtain ⟨A, c, rfl, hby, hc1, hc2⟩ := h.own.form
  have x2 : w.cell? ⟨gc, 2, none⟩ = some (.pointer none) := by rw [h.co.cell]; rfl
  have KP := Lib.hid (blob_yes A0 m c0 hm hc w hb)
  have H := Lib.hid h
  have HPL := Lib.hid (blob_length m)
  clear hby h hb hc
  generalize hml : m.length = ml at *
  clear hml
  go_enter Try.func108, Try.ntmps108
  go_wp2_with fail
  refine KP.out.mono ?_
  rintro e w1 ⟨vb, rfl, hO1, hE1⟩
  obtain ⟨Ab, cb, rfl, hbb, _, _⟩ := hO1.form
  have H1 := Lib.hid (H.out.ext hE1)
  have x1 : w1.cell? ⟨gc, 1, none⟩ = some (.slice A l.length c) := by rw [H1.out.co.cell]; rfl
  have HY := Lib.hid hbb
  have HE1 := Lib.hid hE1
  clear hO1 hE1 x2 hbb
  go_wp2_with (at_builtin; refine wpList_append8 Try.byt rfl _ _ rfl rfl H1.out.own _ _ _ rfl (blob m) HY.out rfl ?c3 H1.out.size ?_)
  case c3 => rw [HPL.out]; omega
  intro v2 w2 hO2 hg2 hl2
  obtain ⟨A2, c2, rfl, _, _, _⟩ := hO2.form
  obtain ⟨q1, q2, q3, q4⟩ := H1.out.put hO2 hg2
  generalize (l ++ blob m).length = nl at *
  have HQ1 := Lib.hid q1
  have HQ2 := Lib.hid q2
  have HG := Lib.hid hg2.size
  clear hO2 hg2 hl2 q1 q2
  go_wp2_with fail
  go_ret
  exact ⟨rfl, ⟨_, HQ1.out⟩, Below.trans (Below.mono HE1.out H.out.size) HQ2.out, by have := HE1.out.size; have := HG.out; simp; omega⟩

/-- numbers, eight bytes each -/
def put8s (u : List Nat) : List UInt8 := (u.map fun n => put n 8).flatten
theorem put8s_length : ∀ u, (put8s u).length = 8 * u.length
  | [] => rfl
  | a :: u => by
    have := put8s_length u
    unfold put8s at *
    rw [List.map_cons, List.flatten_cons, List.length_append, this, put_length, List.length_cons]
    omega
theorem put8s_snoc (u : List Nat) (k : Nat) (h : k < u.length) : put8s (u.take (k + 1)) = put8s (u.take k) ++ put (u.getD k 0) 8 := by
  unfold put8s
  rw [List.take_succ_eq_append_getElem h, List.map_append, List.flatten_append]
  simp [List.getD_eq_getElem?_getD, h]
/-- subs as bytes -/
def subsB (u : List Nat) : List UInt8 := put u.length 2 ++ put8s u
theorem Nums.below {w w' : World} {B : Nat} {S : Option Addr} {u : List Nat} (h : Nums w S u) (hb : Below B w w') (hS : u = [] ∨ ∀ b o, S = some ⟨b, o, none⟩ → b < B) : Nums w' S u := by
  rcases h with h | ⟨b, o, rfl, hc⟩
  · exact .inl h
  · rcases hS with hS | hS
    · exact .inl hS
    · exact .inr ⟨b, o, rfl, fun i hi => (Below.cell hb (hS b o rfl)).trans (hc i hi)⟩

set_option maxHeartbeats 1600000 in
set_option maxRecDepth 100000 in
theorem subs_co (w : World) (B gr gc : Nat) (v : Value) (cs : Array Value) (l : List UInt8) (S : Option Addr) (u : List Nat) (c0 : Nat) (hu : u.length ≤ 9000) (hbig : ∀ i, i < u.length → u.getD i 0 < 18446744073709551616) (hN : Nums w S u) (hS : u = [] ∨ ∀ b o, S = some ⟨b, o, none⟩ → b < B) (h : Co w B gr gc v cs l) (hl : l.length ≤ 900000) :
    Calls Try.prog 109 #[.pointer (some ⟨gc, 0, none⟩), .slice S u.length c0] w fun e w' => e = .returned (.slice S u.length c0) ∧ CoP w B gr gc cs (l ++ subsB u) w' := by
  have KP := Lib.hid (place_co w B gr gc v cs l u.length (by omega) h (by omega))
  have HN := Lib.hid (fun W (hb : Below B w W) => hN.below hb hS)
  have HSN := Lib.hid (fun k hk => put8s_snoc u k hk)
  have HSB : Hid (l ++ subsB u = l ++ put u.length 2 ++ put8s (u.take u.length)) := Lib.hid (by rw [List.take_length, List.append_assoc]; rfl)
  have HS0 : Hid (put8s (u.take 0) = []) := Lib.hid rfl
  have HLN : Hid (∀ k, k ≤ u.length → (l ++ put u.length 2 ++ put8s (u.take k)).length ≤ 1000000) := Lib.hid (fun k hk => by
    rw [List.length_append, List.length_append, put_length, put8s_length, List.length_take]; omega)
  have HBIG := Lib.hid hbig
  have HL := Lib.hid (rfl : u.length = u.length)
  clear hN hS h hbig
  rw [HSB.out]
  clear HSB
  generalize hn : u.length = n at *
  have HLL := Lib.hid hn
  clear hn HL
  generalize put n 2 = P2 at *
  go_enter Try.func109, Try.ntmps109
  go_wp2_with fail
  refine KP.out.mono ?_
  rintro e w1 ⟨rfl, ⟨v1, hC1⟩, hb1, hs1⟩
  have x2 : w1.cell? ⟨gc, 2, none⟩ = some (.pointer none) := by rw [hC1.co.cell]; rfl
  have HC1 := Lib.hid hC1
  have HB1 := Lib.hid hb1
  have HZ1 := Lib.hid hs1
  clear hC1 hb1 hs1 KP
  go_wp2_with fail
  go_loopw [20] (fun q wr => ∃ k : Nat, k ≤ n ∧ q = .int .i64 (k : Int) ∧ CoP w B gr gc cs (l ++ P2 ++ put8s (u.take k)) wr) (fun q _ => n - (intOf q).toNat)
  case atStart => exact ⟨0, Nat.zero_le _, rfl, ⟨v1, by rw [HS0.out, List.append_nil]; exact HC1.out⟩, HB1.out, HZ1.out⟩
  case round =>
    obtain ⟨k, hk, rfl, ⟨vk, hC⟩, hB, hs⟩ := hrel
    have HC := Lib.hid hC
    have HB := Lib.hid hB
    have HZ := Lib.hid hs
    clear hC hB hs HC1 HB1 HZ1 x2 HS0
    by_cases hkn : k < n
    · have dk : decide ((k : Int) < (n : Int)) = true := decide_eq_true (by omega)
      obtain ⟨g2, o2, rfl, x⟩ := (HN.out wr HB.out).at_ (i := k) (by rw [HLL.out]; exact hkn)
      have K := number_co wr B gr gc vk cs _ (u.getD k 0) 8 (HBIG.out k hkn) (by omega) (by omega) HC.out (HLN.out k hk)
      rw [List.append_assoc, ← HSN.out k hkn, show ((8 : Nat) : Int) = 8 from rfl] at K
      have K := Lib.hid K
      have hax := HBIG.out k hkn
      generalize u.getD k 0 = a at *
      go_wp2_with fail
      refine K.out.mono ?_
      rintro e w3 ⟨rfl, ⟨v3, hC3⟩, hB3, hs3⟩
      have HC3 := Lib.hid hC3
      have HB3 := Lib.hid (Below.trans HB.out hB3)
      have HZ3 := Lib.hid (Nat.le_trans HZ.out hs3)
      clear hC3 hB3 hs3
      go_wp2_with fail
      exact ⟨⟨k + 1, by omega, by go_num, ⟨v3, HC3.out⟩, HB3.out, HZ3.out⟩, by simp [intOf]; omega⟩
    · obtain rfl : k = n := by omega
      have dk : decide ((k : Int) < (k : Int)) = false := by simp
      go_wp2_with fail
      go_ret
      exact ⟨rfl, ⟨vk, HC.out⟩, HB.out, HZ.out⟩

theorem By.below {w w' : World} {B : Nat} {A : Option Addr} {l : List UInt8} (h : By w A l) (hb : Below B w w') (hA : l = [] ∨ ∀ b o, A = some ⟨b, o, none⟩ → b < B) : By w' A l := by
  rcases h with h | ⟨b, o, rfl, hc⟩
  · exact .inl h
  · rcases hA with hA | hA
    · exact .inl hA
    · exact .inr ⟨b, o, rfl, fun i hi => (Below.cell hb (hA b o rfl)).trans (hc i hi)⟩

set_option maxHeartbeats 3200000 in
set_option maxRecDepth 100000 in
theorem change_co (w : World) (B gr gc : Nat) (v : Value) (l : List UInt8) (kd : Int) (x nx rd tl : Nat) (pg : Nat) (of : Nat) (A S : Option Addr) (bl : List UInt8) (u : List Nat) (ca cu : Nat) (h_xid : x < 18446744073709551616) (h_page : pg < 65536) (h_off : of < 65536) (h_b : bl.length ≤ 65535) (h_b2 : bl.length ≤ ca) (h_by : By w A bl) (h_A : bl = [] ∨ ∀ b o, A = some ⟨b, o, none⟩ → b < B) (h : Co w B gr gc v #[.int .i64 kd, .int .u64 (x : Int), .int .i64 (pg : Int), .int .i64 (of : Int), .slice A bl.length ca, .slice S u.length cu, .int .u64 (nx : Int), .int .u64 (rd : Int), .int .u64 (tl : Int)] l) (hl : l.length ≤ 100) :
    Calls Try.prog 89 #[.pointer (some ⟨gc, 0, none⟩)] w fun e w' => (∃ x, e = .returned x) ∧ CoP w B gr gc #[.int .i64 kd, .int .u64 (x : Int), .int .i64 (pg : Int), .int .i64 (of : Int), .slice A bl.length ca, .slice S u.length cu, .int .u64 (nx : Int), .int .u64 (rd : Int), .int .u64 (tl : Int)] (l ++ put x 8 ++ put pg 2 ++ put of 2 ++ blob bl) w' := by
  have HC0 := Lib.hid h
  have HB0 := Lib.hid (Below.refl B w)
  have HZ0 := Lib.hid (Nat.le_refl w.heap.size)
  have HBY := Lib.hid h_by
  have HA := Lib.hid h_A
  clear h_by h_A
  clear h
  go_enter Try.func89, Try.ntmps89
  have K0 := number_co _ B gr gc _ _ (l) x 8 (by omega) (by omega) (by omega) HC0.out.drew (by (try simp only [List.length_append, put_length, blob_length]); omega)
  rw [show ((8 : Nat) : Int) = 8 from rfl] at K0
  have K0 := Lib.hid K0
  go_upto_region 0 with fail
  refine wp_eager (coR_pre B gr gc) (n := 16) (by kernel_rfl) (by kernel_rfl) ?_
  refine Eg.batchK (coR_pre B gr gc) (by intro c a d v w h; cases d <;> exact h) (by kernel_rfl) (n := 9) [0, 1, 2, 4, 5, 6, 7] [] _ (by kernel_rfl) (fun K hK => ?_); (simp only [pickOps, List.getElem?_toArray, List.getElem?_cons_zero, List.getElem?_cons_succ, Option.toList_some, List.cons_append, List.nil_append]); (repeat (first | go_big_quiet_step (fail) | quiet_step (fail))); refine wpQuiet_nil (hK _ ?_); clear hK K
  (refine Eg.read (coR_pre B gr gc) (by intro c a d v w h; cases d <;> exact h) (by kernel_rfl) (i := 3) (n := 8) (l := [0, 1, 2, 4, 5, 6, 7]) rfl (by kernel_rfl) (by kernel_rfl) rfl ⟨_, fun w' hR => load_run rfl (load_ptrR (CoR.ptr hR HC0.out.drew)), ?_⟩); (simp only [Act.put, List.setIfInBounds_toArray, List.getElem_toArray, List.getElem_cons_succ, List.getElem_cons_zero, List.set_cons_succ, List.set_cons_zero])
  (refine Eg.read (coR_pre B gr gc) (by intro c a d v w h; cases d <;> exact h) (by kernel_rfl) (i := 8) (n := 7) (l := [0, 1, 2, 4, 5, 6, 7, 3]) rfl (by kernel_rfl) (by kernel_rfl) rfl ⟨_, fun w' hR => load_run rfl (load_ptrR (CoR.ptr hR HC0.out.drew)), ?_⟩); (simp only [Act.put, List.setIfInBounds_toArray, List.getElem_toArray, List.getElem_cons_succ, List.getElem_cons_zero, List.set_cons_succ, List.set_cons_zero])
  refine Eg.batchK (coR_pre B gr gc) (by intro c a d v w h; cases d <;> exact h) (by kernel_rfl) (n := 5) [9, 10] [0, 1, 2, 4, 5, 6, 7, 3, 8] _ (by kernel_rfl) (fun K hK => ?_); (simp only [pickOps, List.getElem?_toArray, List.getElem?_cons_zero, List.getElem?_cons_succ, Option.toList_some, List.cons_append, List.nil_append]); (repeat (first | go_big_quiet_step (fail) | quiet_step (fail))); refine wpQuiet_nil (hK _ ?_); clear hK K
  (refine Eg.read (coR_pre B gr gc) (by intro c a d v w h; cases d <;> exact h) (by kernel_rfl) (i := 11) (n := 4) (l := [0, 1, 2, 4, 5, 6, 7, 3, 8, 9, 10]) rfl (by kernel_rfl) (by kernel_rfl) rfl ⟨_, fun w' hR => load_run rfl (load_u64 (CoR.fld hR HC0.out.drew (i := 1) (x := (.int .u64 (x : Int))) rfl)), ?_⟩); (simp only [Act.put, List.setIfInBounds_toArray, List.getElem_toArray, List.getElem_cons_succ, List.getElem_cons_zero, List.set_cons_succ, List.set_cons_zero])
  refine Eg.act (coR_pre B gr gc) (i := 12) (n := 3) (l := [0, 1, 2, 4, 5, 6, 7, 3, 8, 9, 10, 11]) rfl (by kernel_rfl) ?_
  go_wp2_with fail
  refine K0.out.mono ?_
  rintro e wa0 ⟨rfl, ⟨va0, hCa⟩, hBa, hZa⟩
  obtain ⟨q1, q2, q3, q4⟩ := hCa.same (i := 1) (x := (.int .u64 (x : Int))) rfl
  have HCa := Lib.hid hCa
  have HBa := Lib.hid hBa
  have HZa := Lib.hid hZa
  have HQ1 := Lib.hid q1
  have HQ2 := Lib.hid q2
  clear hCa hBa hZa q1 q2
  go_wp2_with fail
  refine ⟨coR_of HC0.out.drew HCa.out HBa.out HZa.out, ?_⟩
  refine Eg.batchK (coR_pre B gr gc) (by intro c a d v w h; cases d <;> exact h) (by kernel_rfl) (n := 1) [13, 14] [0, 1, 2, 4, 5, 6, 7, 3, 8, 9, 10, 11, 12] _ (by kernel_rfl) (fun K hK => ?_); (simp only [pickOps, List.getElem?_toArray, List.getElem?_cons_zero, List.getElem?_cons_succ, Option.toList_some, List.cons_append, List.nil_append]); (repeat (first | go_big_quiet_step (fail) | quiet_step (fail))); refine wpQuiet_nil (hK _ ?_); clear hK K
  refine Eg.act (coR_pre B gr gc) (i := 15) (n := 0) (l := [0, 1, 2, 4, 5, 6, 7, 3, 8, 9, 10, 11, 12, 13, 14]) rfl (by kernel_rfl) ?_
  go_wp2_with fail
  refine ⟨HQ2.out, ?_⟩
  refine Eg.finish (by kernel_rfl) ?_
  have HC1 := Lib.hid HQ1.out
  have HB1 := Lib.hid (Below.trans HB0.out.drew (Below.trans HBa.out HQ2.out.1))
  have HZ1 := Lib.hid (Nat.le_trans HZ0.out (Nat.le_trans HZa.out HQ2.out.2.1))
  clear K0 HC0 HB0 HZ0 HCa HBa HZa HQ1 HQ2 q3 q4
  have K1 := Lib.hid (place_co _ B gr gc _ _ (l ++ put x 8) pg (by omega) HC1.out.drew (by (try simp only [List.length_append, put_length, blob_length]); omega))
  go_upto_region 1 with fail
  refine wp_eager (coR_pre B gr gc) (n := 16) (by kernel_rfl) (by kernel_rfl) ?_
  refine Eg.batchK (coR_pre B gr gc) (by intro c a d v w h; cases d <;> exact h) (by kernel_rfl) (n := 9) [0, 1, 2, 4, 5, 6, 7] [] _ (by kernel_rfl) (fun K hK => ?_); (simp only [pickOps, List.getElem?_toArray, List.getElem?_cons_zero, List.getElem?_cons_succ, Option.toList_some, List.cons_append, List.nil_append]); (repeat (first | go_big_quiet_step (fail) | quiet_step (fail))); refine wpQuiet_nil (hK _ ?_); clear hK K
  (refine Eg.read (coR_pre B gr gc) (by intro c a d v w h; cases d <;> exact h) (by kernel_rfl) (i := 3) (n := 8) (l := [0, 1, 2, 4, 5, 6, 7]) rfl (by kernel_rfl) (by kernel_rfl) rfl ⟨_, fun w' hR => load_run rfl (load_ptrR (CoR.ptr hR HC1.out.drew)), ?_⟩); (simp only [Act.put, List.setIfInBounds_toArray, List.getElem_toArray, List.getElem_cons_succ, List.getElem_cons_zero, List.set_cons_succ, List.set_cons_zero])
  (refine Eg.read (coR_pre B gr gc) (by intro c a d v w h; cases d <;> exact h) (by kernel_rfl) (i := 8) (n := 7) (l := [0, 1, 2, 4, 5, 6, 7, 3]) rfl (by kernel_rfl) (by kernel_rfl) rfl ⟨_, fun w' hR => load_run rfl (load_ptrR (CoR.ptr hR HC1.out.drew)), ?_⟩); (simp only [Act.put, List.setIfInBounds_toArray, List.getElem_toArray, List.getElem_cons_succ, List.getElem_cons_zero, List.set_cons_succ, List.set_cons_zero])
  refine Eg.batchK (coR_pre B gr gc) (by intro c a d v w h; cases d <;> exact h) (by kernel_rfl) (n := 5) [9, 10] [0, 1, 2, 4, 5, 6, 7, 3, 8] _ (by kernel_rfl) (fun K hK => ?_); (simp only [pickOps, List.getElem?_toArray, List.getElem?_cons_zero, List.getElem?_cons_succ, Option.toList_some, List.cons_append, List.nil_append]); (repeat (first | go_big_quiet_step (fail) | quiet_step (fail))); refine wpQuiet_nil (hK _ ?_); clear hK K
  (refine Eg.read (coR_pre B gr gc) (by intro c a d v w h; cases d <;> exact h) (by kernel_rfl) (i := 11) (n := 4) (l := [0, 1, 2, 4, 5, 6, 7, 3, 8, 9, 10]) rfl (by kernel_rfl) (by kernel_rfl) rfl ⟨_, fun w' hR => load_run rfl (load_int (CoR.fld hR HC1.out.drew (i := 2) (x := (.int .i64 (pg : Int))) rfl)), ?_⟩); (simp only [Act.put, List.setIfInBounds_toArray, List.getElem_toArray, List.getElem_cons_succ, List.getElem_cons_zero, List.set_cons_succ, List.set_cons_zero])
  refine Eg.act (coR_pre B gr gc) (i := 12) (n := 3) (l := [0, 1, 2, 4, 5, 6, 7, 3, 8, 9, 10, 11]) rfl (by kernel_rfl) ?_
  go_wp2_with fail
  refine K1.out.mono ?_
  rintro e wa1 ⟨rfl, ⟨va1, hCa⟩, hBa, hZa⟩
  obtain ⟨q1, q2, q3, q4⟩ := hCa.same (i := 2) (x := (.int .i64 (pg : Int))) rfl
  have HCa := Lib.hid hCa
  have HBa := Lib.hid hBa
  have HZa := Lib.hid hZa
  have HQ1 := Lib.hid q1
  have HQ2 := Lib.hid q2
  clear hCa hBa hZa q1 q2
  go_wp2_with fail
  refine ⟨coR_of HC1.out.drew HCa.out HBa.out HZa.out, ?_⟩
  refine Eg.batchK (coR_pre B gr gc) (by intro c a d v w h; cases d <;> exact h) (by kernel_rfl) (n := 1) [13, 14] [0, 1, 2, 4, 5, 6, 7, 3, 8, 9, 10, 11, 12] _ (by kernel_rfl) (fun K hK => ?_); (simp only [pickOps, List.getElem?_toArray, List.getElem?_cons_zero, List.getElem?_cons_succ, Option.toList_some, List.cons_append, List.nil_append]); (repeat (first | go_big_quiet_step (fail) | quiet_step (fail))); refine wpQuiet_nil (hK _ ?_); clear hK K
  refine Eg.act (coR_pre B gr gc) (i := 15) (n := 0) (l := [0, 1, 2, 4, 5, 6, 7, 3, 8, 9, 10, 11, 12, 13, 14]) rfl (by kernel_rfl) ?_
  go_wp2_with fail
  refine ⟨HQ2.out, ?_⟩
  refine Eg.finish (by kernel_rfl) ?_
  have HC2 := Lib.hid HQ1.out
  have HB2 := Lib.hid (Below.trans HB1.out.drew (Below.trans HBa.out HQ2.out.1))
  have HZ2 := Lib.hid (Nat.le_trans HZ1.out (Nat.le_trans HZa.out HQ2.out.2.1))
  clear K1 HC1 HB1 HZ1 HCa HBa HZa HQ1 HQ2 q3 q4
  have K2 := Lib.hid (place_co _ B gr gc _ _ (l ++ put x 8 ++ put pg 2) of (by omega) HC2.out.drew (by (try simp only [List.length_append, put_length, blob_length]); omega))
  go_upto_region 2 with fail
  refine wp_eager (coR_pre B gr gc) (n := 16) (by kernel_rfl) (by kernel_rfl) ?_
  refine Eg.batchK (coR_pre B gr gc) (by intro c a d v w h; cases d <;> exact h) (by kernel_rfl) (n := 9) [0, 1, 2, 4, 5, 6, 7] [] _ (by kernel_rfl) (fun K hK => ?_); (simp only [pickOps, List.getElem?_toArray, List.getElem?_cons_zero, List.getElem?_cons_succ, Option.toList_some, List.cons_append, List.nil_append]); (repeat (first | go_big_quiet_step (fail) | quiet_step (fail))); refine wpQuiet_nil (hK _ ?_); clear hK K
  (refine Eg.read (coR_pre B gr gc) (by intro c a d v w h; cases d <;> exact h) (by kernel_rfl) (i := 3) (n := 8) (l := [0, 1, 2, 4, 5, 6, 7]) rfl (by kernel_rfl) (by kernel_rfl) rfl ⟨_, fun w' hR => load_run rfl (load_ptrR (CoR.ptr hR HC2.out.drew)), ?_⟩); (simp only [Act.put, List.setIfInBounds_toArray, List.getElem_toArray, List.getElem_cons_succ, List.getElem_cons_zero, List.set_cons_succ, List.set_cons_zero])
  (refine Eg.read (coR_pre B gr gc) (by intro c a d v w h; cases d <;> exact h) (by kernel_rfl) (i := 8) (n := 7) (l := [0, 1, 2, 4, 5, 6, 7, 3]) rfl (by kernel_rfl) (by kernel_rfl) rfl ⟨_, fun w' hR => load_run rfl (load_ptrR (CoR.ptr hR HC2.out.drew)), ?_⟩); (simp only [Act.put, List.setIfInBounds_toArray, List.getElem_toArray, List.getElem_cons_succ, List.getElem_cons_zero, List.set_cons_succ, List.set_cons_zero])
  refine Eg.batchK (coR_pre B gr gc) (by intro c a d v w h; cases d <;> exact h) (by kernel_rfl) (n := 5) [9, 10] [0, 1, 2, 4, 5, 6, 7, 3, 8] _ (by kernel_rfl) (fun K hK => ?_); (simp only [pickOps, List.getElem?_toArray, List.getElem?_cons_zero, List.getElem?_cons_succ, Option.toList_some, List.cons_append, List.nil_append]); (repeat (first | go_big_quiet_step (fail) | quiet_step (fail))); refine wpQuiet_nil (hK _ ?_); clear hK K
  (refine Eg.read (coR_pre B gr gc) (by intro c a d v w h; cases d <;> exact h) (by kernel_rfl) (i := 11) (n := 4) (l := [0, 1, 2, 4, 5, 6, 7, 3, 8, 9, 10]) rfl (by kernel_rfl) (by kernel_rfl) rfl ⟨_, fun w' hR => load_run rfl (load_int (CoR.fld hR HC2.out.drew (i := 3) (x := (.int .i64 (of : Int))) rfl)), ?_⟩); (simp only [Act.put, List.setIfInBounds_toArray, List.getElem_toArray, List.getElem_cons_succ, List.getElem_cons_zero, List.set_cons_succ, List.set_cons_zero])
  refine Eg.act (coR_pre B gr gc) (i := 12) (n := 3) (l := [0, 1, 2, 4, 5, 6, 7, 3, 8, 9, 10, 11]) rfl (by kernel_rfl) ?_
  go_wp2_with fail
  refine K2.out.mono ?_
  rintro e wa2 ⟨rfl, ⟨va2, hCa⟩, hBa, hZa⟩
  obtain ⟨q1, q2, q3, q4⟩ := hCa.same (i := 3) (x := (.int .i64 (of : Int))) rfl
  have HCa := Lib.hid hCa
  have HBa := Lib.hid hBa
  have HZa := Lib.hid hZa
  have HQ1 := Lib.hid q1
  have HQ2 := Lib.hid q2
  clear hCa hBa hZa q1 q2
  go_wp2_with fail
  refine ⟨coR_of HC2.out.drew HCa.out HBa.out HZa.out, ?_⟩
  refine Eg.batchK (coR_pre B gr gc) (by intro c a d v w h; cases d <;> exact h) (by kernel_rfl) (n := 1) [13, 14] [0, 1, 2, 4, 5, 6, 7, 3, 8, 9, 10, 11, 12] _ (by kernel_rfl) (fun K hK => ?_); (simp only [pickOps, List.getElem?_toArray, List.getElem?_cons_zero, List.getElem?_cons_succ, Option.toList_some, List.cons_append, List.nil_append]); (repeat (first | go_big_quiet_step (fail) | quiet_step (fail))); refine wpQuiet_nil (hK _ ?_); clear hK K
  refine Eg.act (coR_pre B gr gc) (i := 15) (n := 0) (l := [0, 1, 2, 4, 5, 6, 7, 3, 8, 9, 10, 11, 12, 13, 14]) rfl (by kernel_rfl) ?_
  go_wp2_with fail
  refine ⟨HQ2.out, ?_⟩
  refine Eg.finish (by kernel_rfl) ?_
  have HC3 := Lib.hid HQ1.out
  have HB3 := Lib.hid (Below.trans HB2.out.drew (Below.trans HBa.out HQ2.out.1))
  have HZ3 := Lib.hid (Nat.le_trans HZ2.out (Nat.le_trans HZa.out HQ2.out.2.1))
  clear K2 HC2 HB2 HZ2 HCa HBa HZa HQ1 HQ2 q3 q4
  have K3 := Lib.hid (bytes_co _ B gr gc _ _ (l ++ put x 8 ++ put pg 2 ++ put of 2) A bl ca h_b h_b2 (HBY.out.below HB3.out.drew HA.out) HC3.out.drew (by (try simp only [List.length_append, put_length, blob_length]); omega))
  go_upto_region 3 with fail
  refine wp_eager (coR_pre B gr gc) (n := 16) (by kernel_rfl) (by kernel_rfl) ?_
  refine Eg.batchK (coR_pre B gr gc) (by intro c a d v w h; cases d <;> exact h) (by kernel_rfl) (n := 9) [0, 1, 2, 4, 5, 6, 7] [] _ (by kernel_rfl) (fun K hK => ?_); (simp only [pickOps, List.getElem?_toArray, List.getElem?_cons_zero, List.getElem?_cons_succ, Option.toList_some, List.cons_append, List.nil_append]); (repeat (first | go_big_quiet_step (fail) | quiet_step (fail))); refine wpQuiet_nil (hK _ ?_); clear hK K
  (refine Eg.read (coR_pre B gr gc) (by intro c a d v w h; cases d <;> exact h) (by kernel_rfl) (i := 3) (n := 8) (l := [0, 1, 2, 4, 5, 6, 7]) rfl (by kernel_rfl) (by kernel_rfl) rfl ⟨_, fun w' hR => load_run rfl (load_ptrR (CoR.ptr hR HC3.out.drew)), ?_⟩); (simp only [Act.put, List.setIfInBounds_toArray, List.getElem_toArray, List.getElem_cons_succ, List.getElem_cons_zero, List.set_cons_succ, List.set_cons_zero])
  (refine Eg.read (coR_pre B gr gc) (by intro c a d v w h; cases d <;> exact h) (by kernel_rfl) (i := 8) (n := 7) (l := [0, 1, 2, 4, 5, 6, 7, 3]) rfl (by kernel_rfl) (by kernel_rfl) rfl ⟨_, fun w' hR => load_run rfl (load_ptrR (CoR.ptr hR HC3.out.drew)), ?_⟩); (simp only [Act.put, List.setIfInBounds_toArray, List.getElem_toArray, List.getElem_cons_succ, List.getElem_cons_zero, List.set_cons_succ, List.set_cons_zero])
  refine Eg.batchK (coR_pre B gr gc) (by intro c a d v w h; cases d <;> exact h) (by kernel_rfl) (n := 5) [9, 10] [0, 1, 2, 4, 5, 6, 7, 3, 8] _ (by kernel_rfl) (fun K hK => ?_); (simp only [pickOps, List.getElem?_toArray, List.getElem?_cons_zero, List.getElem?_cons_succ, Option.toList_some, List.cons_append, List.nil_append]); (repeat (first | go_big_quiet_step (fail) | quiet_step (fail))); refine wpQuiet_nil (hK _ ?_); clear hK K
  (refine Eg.read (coR_pre B gr gc) (by intro c a d v w h; cases d <;> exact h) (by kernel_rfl) (i := 11) (n := 4) (l := [0, 1, 2, 4, 5, 6, 7, 3, 8, 9, 10]) rfl (by kernel_rfl) (by kernel_rfl) rfl ⟨_, fun w' hR => load_run rfl (load_slb (CoR.fld hR HC3.out.drew (i := 4) (x := (.slice A bl.length ca)) rfl)), ?_⟩); (simp only [Act.put, List.setIfInBounds_toArray, List.getElem_toArray, List.getElem_cons_succ, List.getElem_cons_zero, List.set_cons_succ, List.set_cons_zero])
  refine Eg.act (coR_pre B gr gc) (i := 12) (n := 3) (l := [0, 1, 2, 4, 5, 6, 7, 3, 8, 9, 10, 11]) rfl (by kernel_rfl) ?_
  go_wp2_with fail
  refine K3.out.mono ?_
  rintro e wa3 ⟨rfl, ⟨va3, hCa⟩, hBa, hZa⟩
  obtain ⟨q1, q2, q3, q4⟩ := hCa.same (i := 4) (x := (.slice A bl.length ca)) rfl
  have HCa := Lib.hid hCa
  have HBa := Lib.hid hBa
  have HZa := Lib.hid hZa
  have HQ1 := Lib.hid q1
  have HQ2 := Lib.hid q2
  clear hCa hBa hZa q1 q2
  go_wp2_with fail
  refine ⟨coR_of HC3.out.drew HCa.out HBa.out HZa.out, ?_⟩
  refine Eg.batchK (coR_pre B gr gc) (by intro c a d v w h; cases d <;> exact h) (by kernel_rfl) (n := 1) [13, 14] [0, 1, 2, 4, 5, 6, 7, 3, 8, 9, 10, 11, 12] _ (by kernel_rfl) (fun K hK => ?_); (simp only [pickOps, List.getElem?_toArray, List.getElem?_cons_zero, List.getElem?_cons_succ, Option.toList_some, List.cons_append, List.nil_append]); (repeat (first | go_big_quiet_step (fail) | quiet_step (fail))); refine wpQuiet_nil (hK _ ?_); clear hK K
  refine Eg.act (coR_pre B gr gc) (i := 15) (n := 0) (l := [0, 1, 2, 4, 5, 6, 7, 3, 8, 9, 10, 11, 12, 13, 14]) rfl (by kernel_rfl) ?_
  go_wp2_with fail
  refine ⟨HQ2.out, ?_⟩
  refine Eg.finish (by kernel_rfl) ?_
  have HC4 := Lib.hid HQ1.out
  have HB4 := Lib.hid (Below.trans HB3.out.drew (Below.trans HBa.out HQ2.out.1))
  have HZ4 := Lib.hid (Nat.le_trans HZ3.out (Nat.le_trans HZa.out HQ2.out.2.1))
  clear K3 HC3 HB3 HZ3 HCa HBa HZa HQ1 HQ2 q3 q4
  go_end0
  exact ⟨⟨_, rfl⟩, ⟨_, HC4.out⟩, HB4.out, HZ4.out⟩

set_option maxHeartbeats 3200000 in
set_option maxRecDepth 100000 in
theorem image_co (w : World) (B gr gc : Nat) (v : Value) (l : List UInt8) (kd : Int) (x nx rd tl : Nat) (pg : Nat) (of : Int) (A S : Option Addr) (bl : List UInt8) (u : List Nat) (ca cu : Nat) (h_xid : x < 18446744073709551616) (h_page : pg < 65536) (h_b : bl.length ≤ 65535) (h_b2 : bl.length ≤ ca) (h_by : By w A bl) (h_A : bl = [] ∨ ∀ b o, A = some ⟨b, o, none⟩ → b < B) (h : Co w B gr gc v #[.int .i64 kd, .int .u64 (x : Int), .int .i64 (pg : Int), .int .i64 of, .slice A bl.length ca, .slice S u.length cu, .int .u64 (nx : Int), .int .u64 (rd : Int), .int .u64 (tl : Int)] l) (hl : l.length ≤ 100) :
    Calls Try.prog 90 #[.pointer (some ⟨gc, 0, none⟩)] w fun e w' => (∃ x, e = .returned x) ∧ CoP w B gr gc #[.int .i64 kd, .int .u64 (x : Int), .int .i64 (pg : Int), .int .i64 of, .slice A bl.length ca, .slice S u.length cu, .int .u64 (nx : Int), .int .u64 (rd : Int), .int .u64 (tl : Int)] (l ++ put x 8 ++ put pg 2 ++ blob bl) w' := by
  have HC0 := Lib.hid h
  have HB0 := Lib.hid (Below.refl B w)
  have HZ0 := Lib.hid (Nat.le_refl w.heap.size)
  have HBY := Lib.hid h_by
  have HA := Lib.hid h_A
  clear h_by h_A
  clear h
  go_enter Try.func90, Try.ntmps90
  have K0 := number_co _ B gr gc _ _ (l) x 8 (by omega) (by omega) (by omega) HC0.out.drew (by (try simp only [List.length_append, put_length, blob_length]); omega)
  rw [show ((8 : Nat) : Int) = 8 from rfl] at K0
  have K0 := Lib.hid K0
  go_upto_region 0 with fail
  refine wp_eager (coR_pre B gr gc) (n := 16) (by kernel_rfl) (by kernel_rfl) ?_
  refine Eg.batchK (coR_pre B gr gc) (by intro c a d v w h; cases d <;> exact h) (by kernel_rfl) (n := 9) [0, 1, 2, 4, 5, 6, 7] [] _ (by kernel_rfl) (fun K hK => ?_); (simp only [pickOps, List.getElem?_toArray, List.getElem?_cons_zero, List.getElem?_cons_succ, Option.toList_some, List.cons_append, List.nil_append]); (repeat (first | go_big_quiet_step (fail) | quiet_step (fail))); refine wpQuiet_nil (hK _ ?_); clear hK K
  (refine Eg.read (coR_pre B gr gc) (by intro c a d v w h; cases d <;> exact h) (by kernel_rfl) (i := 3) (n := 8) (l := [0, 1, 2, 4, 5, 6, 7]) rfl (by kernel_rfl) (by kernel_rfl) rfl ⟨_, fun w' hR => load_run rfl (load_ptrR (CoR.ptr hR HC0.out.drew)), ?_⟩); (simp only [Act.put, List.setIfInBounds_toArray, List.getElem_toArray, List.getElem_cons_succ, List.getElem_cons_zero, List.set_cons_succ, List.set_cons_zero])
  (refine Eg.read (coR_pre B gr gc) (by intro c a d v w h; cases d <;> exact h) (by kernel_rfl) (i := 8) (n := 7) (l := [0, 1, 2, 4, 5, 6, 7, 3]) rfl (by kernel_rfl) (by kernel_rfl) rfl ⟨_, fun w' hR => load_run rfl (load_ptrR (CoR.ptr hR HC0.out.drew)), ?_⟩); (simp only [Act.put, List.setIfInBounds_toArray, List.getElem_toArray, List.getElem_cons_succ, List.getElem_cons_zero, List.set_cons_succ, List.set_cons_zero])
  refine Eg.batchK (coR_pre B gr gc) (by intro c a d v w h; cases d <;> exact h) (by kernel_rfl) (n := 5) [9, 10] [0, 1, 2, 4, 5, 6, 7, 3, 8] _ (by kernel_rfl) (fun K hK => ?_); (simp only [pickOps, List.getElem?_toArray, List.getElem?_cons_zero, List.getElem?_cons_succ, Option.toList_some, List.cons_append, List.nil_append]); (repeat (first | go_big_quiet_step (fail) | quiet_step (fail))); refine wpQuiet_nil (hK _ ?_); clear hK K
  (refine Eg.read (coR_pre B gr gc) (by intro c a d v w h; cases d <;> exact h) (by kernel_rfl) (i := 11) (n := 4) (l := [0, 1, 2, 4, 5, 6, 7, 3, 8, 9, 10]) rfl (by kernel_rfl) (by kernel_rfl) rfl ⟨_, fun w' hR => load_run rfl (load_u64 (CoR.fld hR HC0.out.drew (i := 1) (x := (.int .u64 (x : Int))) rfl)), ?_⟩); (simp only [Act.put, List.setIfInBounds_toArray, List.getElem_toArray, List.getElem_cons_succ, List.getElem_cons_zero, List.set_cons_succ, List.set_cons_zero])
  refine Eg.act (coR_pre B gr gc) (i := 12) (n := 3) (l := [0, 1, 2, 4, 5, 6, 7, 3, 8, 9, 10, 11]) rfl (by kernel_rfl) ?_
  go_wp2_with fail
  refine K0.out.mono ?_
  rintro e wa0 ⟨rfl, ⟨va0, hCa⟩, hBa, hZa⟩
  obtain ⟨q1, q2, q3, q4⟩ := hCa.same (i := 1) (x := (.int .u64 (x : Int))) rfl
  have HCa := Lib.hid hCa
  have HBa := Lib.hid hBa
  have HZa := Lib.hid hZa
  have HQ1 := Lib.hid q1
  have HQ2 := Lib.hid q2
  clear hCa hBa hZa q1 q2
  go_wp2_with fail
  refine ⟨coR_of HC0.out.drew HCa.out HBa.out HZa.out, ?_⟩
  refine Eg.batchK (coR_pre B gr gc) (by intro c a d v w h; cases d <;> exact h) (by kernel_rfl) (n := 1) [13, 14] [0, 1, 2, 4, 5, 6, 7, 3, 8, 9, 10, 11, 12] _ (by kernel_rfl) (fun K hK => ?_); (simp only [pickOps, List.getElem?_toArray, List.getElem?_cons_zero, List.getElem?_cons_succ, Option.toList_some, List.cons_append, List.nil_append]); (repeat (first | go_big_quiet_step (fail) | quiet_step (fail))); refine wpQuiet_nil (hK _ ?_); clear hK K
  refine Eg.act (coR_pre B gr gc) (i := 15) (n := 0) (l := [0, 1, 2, 4, 5, 6, 7, 3, 8, 9, 10, 11, 12, 13, 14]) rfl (by kernel_rfl) ?_
  go_wp2_with fail
  refine ⟨HQ2.out, ?_⟩
  refine Eg.finish (by kernel_rfl) ?_
  have HC1 := Lib.hid HQ1.out
  have HB1 := Lib.hid (Below.trans HB0.out.drew (Below.trans HBa.out HQ2.out.1))
  have HZ1 := Lib.hid (Nat.le_trans HZ0.out (Nat.le_trans HZa.out HQ2.out.2.1))
  clear K0 HC0 HB0 HZ0 HCa HBa HZa HQ1 HQ2 q3 q4
  have K1 := Lib.hid (place_co _ B gr gc _ _ (l ++ put x 8) pg (by omega) HC1.out.drew (by (try simp only [List.length_append, put_length, blob_length]); omega))
  go_upto_region 1 with fail
  refine wp_eager (coR_pre B gr gc) (n := 16) (by kernel_rfl) (by kernel_rfl) ?_
  refine Eg.batchK (coR_pre B gr gc) (by intro c a d v w h; cases d <;> exact h) (by kernel_rfl) (n := 9) [0, 1, 2, 4, 5, 6, 7] [] _ (by kernel_rfl) (fun K hK => ?_); (simp only [pickOps, List.getElem?_toArray, List.getElem?_cons_zero, List.getElem?_cons_succ, Option.toList_some, List.cons_append, List.nil_append]); (repeat (first | go_big_quiet_step (fail) | quiet_step (fail))); refine wpQuiet_nil (hK _ ?_); clear hK K
  (refine Eg.read (coR_pre B gr gc) (by intro c a d v w h; cases d <;> exact h) (by kernel_rfl) (i := 3) (n := 8) (l := [0, 1, 2, 4, 5, 6, 7]) rfl (by kernel_rfl) (by kernel_rfl) rfl ⟨_, fun w' hR => load_run rfl (load_ptrR (CoR.ptr hR HC1.out.drew)), ?_⟩); (simp only [Act.put, List.setIfInBounds_toArray, List.getElem_toArray, List.getElem_cons_succ, List.getElem_cons_zero, List.set_cons_succ, List.set_cons_zero])
  (refine Eg.read (coR_pre B gr gc) (by intro c a d v w h; cases d <;> exact h) (by kernel_rfl) (i := 8) (n := 7) (l := [0, 1, 2, 4, 5, 6, 7, 3]) rfl (by kernel_rfl) (by kernel_rfl) rfl ⟨_, fun w' hR => load_run rfl (load_ptrR (CoR.ptr hR HC1.out.drew)), ?_⟩); (simp only [Act.put, List.setIfInBounds_toArray, List.getElem_toArray, List.getElem_cons_succ, List.getElem_cons_zero, List.set_cons_succ, List.set_cons_zero])
  refine Eg.batchK (coR_pre B gr gc) (by intro c a d v w h; cases d <;> exact h) (by kernel_rfl) (n := 5) [9, 10] [0, 1, 2, 4, 5, 6, 7, 3, 8] _ (by kernel_rfl) (fun K hK => ?_); (simp only [pickOps, List.getElem?_toArray, List.getElem?_cons_zero, List.getElem?_cons_succ, Option.toList_some, List.cons_append, List.nil_append]); (repeat (first | go_big_quiet_step (fail) | quiet_step (fail))); refine wpQuiet_nil (hK _ ?_); clear hK K
  (refine Eg.read (coR_pre B gr gc) (by intro c a d v w h; cases d <;> exact h) (by kernel_rfl) (i := 11) (n := 4) (l := [0, 1, 2, 4, 5, 6, 7, 3, 8, 9, 10]) rfl (by kernel_rfl) (by kernel_rfl) rfl ⟨_, fun w' hR => load_run rfl (load_int (CoR.fld hR HC1.out.drew (i := 2) (x := (.int .i64 (pg : Int))) rfl)), ?_⟩); (simp only [Act.put, List.setIfInBounds_toArray, List.getElem_toArray, List.getElem_cons_succ, List.getElem_cons_zero, List.set_cons_succ, List.set_cons_zero])
  refine Eg.act (coR_pre B gr gc) (i := 12) (n := 3) (l := [0, 1, 2, 4, 5, 6, 7, 3, 8, 9, 10, 11]) rfl (by kernel_rfl) ?_
  go_wp2_with fail
  refine K1.out.mono ?_
  rintro e wa1 ⟨rfl, ⟨va1, hCa⟩, hBa, hZa⟩
  obtain ⟨q1, q2, q3, q4⟩ := hCa.same (i := 2) (x := (.int .i64 (pg : Int))) rfl
  have HCa := Lib.hid hCa
  have HBa := Lib.hid hBa
  have HZa := Lib.hid hZa
  have HQ1 := Lib.hid q1
  have HQ2 := Lib.hid q2
  clear hCa hBa hZa q1 q2
  go_wp2_with fail
  refine ⟨coR_of HC1.out.drew HCa.out HBa.out HZa.out, ?_⟩
  refine Eg.batchK (coR_pre B gr gc) (by intro c a d v w h; cases d <;> exact h) (by kernel_rfl) (n := 1) [13, 14] [0, 1, 2, 4, 5, 6, 7, 3, 8, 9, 10, 11, 12] _ (by kernel_rfl) (fun K hK => ?_); (simp only [pickOps, List.getElem?_toArray, List.getElem?_cons_zero, List.getElem?_cons_succ, Option.toList_some, List.cons_append, List.nil_append]); (repeat (first | go_big_quiet_step (fail) | quiet_step (fail))); refine wpQuiet_nil (hK _ ?_); clear hK K
  refine Eg.act (coR_pre B gr gc) (i := 15) (n := 0) (l := [0, 1, 2, 4, 5, 6, 7, 3, 8, 9, 10, 11, 12, 13, 14]) rfl (by kernel_rfl) ?_
  go_wp2_with fail
  refine ⟨HQ2.out, ?_⟩
  refine Eg.finish (by kernel_rfl) ?_
  have HC2 := Lib.hid HQ1.out
  have HB2 := Lib.hid (Below.trans HB1.out.drew (Below.trans HBa.out HQ2.out.1))
  have HZ2 := Lib.hid (Nat.le_trans HZ1.out (Nat.le_trans HZa.out HQ2.out.2.1))
  clear K1 HC1 HB1 HZ1 HCa HBa HZa HQ1 HQ2 q3 q4
  have K2 := Lib.hid (bytes_co _ B gr gc _ _ (l ++ put x 8 ++ put pg 2) A bl ca h_b h_b2 (HBY.out.below HB2.out.drew HA.out) HC2.out.drew (by (try simp only [List.length_append, put_length, blob_length]); omega))
  go_upto_region 2 with fail
  refine wp_eager (coR_pre B gr gc) (n := 16) (by kernel_rfl) (by kernel_rfl) ?_
  refine Eg.batchK (coR_pre B gr gc) (by intro c a d v w h; cases d <;> exact h) (by kernel_rfl) (n := 9) [0, 1, 2, 4, 5, 6, 7] [] _ (by kernel_rfl) (fun K hK => ?_); (simp only [pickOps, List.getElem?_toArray, List.getElem?_cons_zero, List.getElem?_cons_succ, Option.toList_some, List.cons_append, List.nil_append]); (repeat (first | go_big_quiet_step (fail) | quiet_step (fail))); refine wpQuiet_nil (hK _ ?_); clear hK K
  (refine Eg.read (coR_pre B gr gc) (by intro c a d v w h; cases d <;> exact h) (by kernel_rfl) (i := 3) (n := 8) (l := [0, 1, 2, 4, 5, 6, 7]) rfl (by kernel_rfl) (by kernel_rfl) rfl ⟨_, fun w' hR => load_run rfl (load_ptrR (CoR.ptr hR HC2.out.drew)), ?_⟩); (simp only [Act.put, List.setIfInBounds_toArray, List.getElem_toArray, List.getElem_cons_succ, List.getElem_cons_zero, List.set_cons_succ, List.set_cons_zero])
  (refine Eg.read (coR_pre B gr gc) (by intro c a d v w h; cases d <;> exact h) (by kernel_rfl) (i := 8) (n := 7) (l := [0, 1, 2, 4, 5, 6, 7, 3]) rfl (by kernel_rfl) (by kernel_rfl) rfl ⟨_, fun w' hR => load_run rfl (load_ptrR (CoR.ptr hR HC2.out.drew)), ?_⟩); (simp only [Act.put, List.setIfInBounds_toArray, List.getElem_toArray, List.getElem_cons_succ, List.getElem_cons_zero, List.set_cons_succ, List.set_cons_zero])
  refine Eg.batchK (coR_pre B gr gc) (by intro c a d v w h; cases d <;> exact h) (by kernel_rfl) (n := 5) [9, 10] [0, 1, 2, 4, 5, 6, 7, 3, 8] _ (by kernel_rfl) (fun K hK => ?_); (simp only [pickOps, List.getElem?_toArray, List.getElem?_cons_zero, List.getElem?_cons_succ, Option.toList_some, List.cons_append, List.nil_append]); (repeat (first | go_big_quiet_step (fail) | quiet_step (fail))); refine wpQuiet_nil (hK _ ?_); clear hK K
  (refine Eg.read (coR_pre B gr gc) (by intro c a d v w h; cases d <;> exact h) (by kernel_rfl) (i := 11) (n := 4) (l := [0, 1, 2, 4, 5, 6, 7, 3, 8, 9, 10]) rfl (by kernel_rfl) (by kernel_rfl) rfl ⟨_, fun w' hR => load_run rfl (load_slb (CoR.fld hR HC2.out.drew (i := 4) (x := (.slice A bl.length ca)) rfl)), ?_⟩); (simp only [Act.put, List.setIfInBounds_toArray, List.getElem_toArray, List.getElem_cons_succ, List.getElem_cons_zero, List.set_cons_succ, List.set_cons_zero])
  refine Eg.act (coR_pre B gr gc) (i := 12) (n := 3) (l := [0, 1, 2, 4, 5, 6, 7, 3, 8, 9, 10, 11]) rfl (by kernel_rfl) ?_
  go_wp2_with fail
  refine K2.out.mono ?_
  rintro e wa2 ⟨rfl, ⟨va2, hCa⟩, hBa, hZa⟩
  obtain ⟨q1, q2, q3, q4⟩ := hCa.same (i := 4) (x := (.slice A bl.length ca)) rfl
  have HCa := Lib.hid hCa
  have HBa := Lib.hid hBa
  have HZa := Lib.hid hZa
  have HQ1 := Lib.hid q1
  have HQ2 := Lib.hid q2
  clear hCa hBa hZa q1 q2
  go_wp2_with fail
  refine ⟨coR_of HC2.out.drew HCa.out HBa.out HZa.out, ?_⟩
  refine Eg.batchK (coR_pre B gr gc) (by intro c a d v w h; cases d <;> exact h) (by kernel_rfl) (n := 1) [13, 14] [0, 1, 2, 4, 5, 6, 7, 3, 8, 9, 10, 11, 12] _ (by kernel_rfl) (fun K hK => ?_); (simp only [pickOps, List.getElem?_toArray, List.getElem?_cons_zero, List.getElem?_cons_succ, Option.toList_some, List.cons_append, List.nil_append]); (repeat (first | go_big_quiet_step (fail) | quiet_step (fail))); refine wpQuiet_nil (hK _ ?_); clear hK K
  refine Eg.act (coR_pre B gr gc) (i := 15) (n := 0) (l := [0, 1, 2, 4, 5, 6, 7, 3, 8, 9, 10, 11, 12, 13, 14]) rfl (by kernel_rfl) ?_
  go_wp2_with fail
  refine ⟨HQ2.out, ?_⟩
  refine Eg.finish (by kernel_rfl) ?_
  have HC3 := Lib.hid HQ1.out
  have HB3 := Lib.hid (Below.trans HB2.out.drew (Below.trans HBa.out HQ2.out.1))
  have HZ3 := Lib.hid (Nat.le_trans HZ2.out (Nat.le_trans HZa.out HQ2.out.2.1))
  clear K2 HC2 HB2 HZ2 HCa HBa HZa HQ1 HQ2 q3 q4
  go_end0
  exact ⟨⟨_, rfl⟩, ⟨_, HC3.out⟩, HB3.out, HZ3.out⟩

set_option maxHeartbeats 3200000 in
set_option maxRecDepth 100000 in
theorem ended_co (w : World) (B gr gc : Nat) (v : Value) (l : List UInt8) (kd : Int) (x nx rd tl : Nat) (pg : Int) (of : Int) (A S : Option Addr) (bl : List UInt8) (u : List Nat) (ca cu : Nat) (h_xid : x < 18446744073709551616) (h_u : u.length ≤ 9000) (h_u2 : ∀ i, i < u.length → u.getD i 0 < 18446744073709551616) (h_N : Nums w S u) (h_S : u = [] ∨ ∀ b o, S = some ⟨b, o, none⟩ → b < B) (h : Co w B gr gc v #[.int .i64 kd, .int .u64 (x : Int), .int .i64 pg, .int .i64 of, .slice A bl.length ca, .slice S u.length cu, .int .u64 (nx : Int), .int .u64 (rd : Int), .int .u64 (tl : Int)] l) (hl : l.length ≤ 100) :
    Calls Try.prog 91 #[.pointer (some ⟨gc, 0, none⟩)] w fun e w' => (∃ x, e = .returned x) ∧ CoP w B gr gc #[.int .i64 kd, .int .u64 (x : Int), .int .i64 pg, .int .i64 of, .slice A bl.length ca, .slice S u.length cu, .int .u64 (nx : Int), .int .u64 (rd : Int), .int .u64 (tl : Int)] (l ++ put x 8 ++ subsB u) w' := by
  have HC0 := Lib.hid h
  have HB0 := Lib.hid (Below.refl B w)
  have HZ0 := Lib.hid (Nat.le_refl w.heap.size)
  have HNU := Lib.hid h_N
  have HSS := Lib.hid h_S
  have HUB := Lib.hid h_u2
  clear h_N h_S h_u2
  clear h
  go_enter Try.func91, Try.ntmps91
  have K0 := number_co _ B gr gc _ _ (l) x 8 (by omega) (by omega) (by omega) HC0.out.drew (by (try simp only [List.length_append, put_length, blob_length]); omega)
  rw [show ((8 : Nat) : Int) = 8 from rfl] at K0
  have K0 := Lib.hid K0
  go_upto_region 0 with fail
  refine wp_eager (coR_pre B gr gc) (n := 16) (by kernel_rfl) (by kernel_rfl) ?_
  refine Eg.batchK (coR_pre B gr gc) (by intro c a d v w h; cases d <;> exact h) (by kernel_rfl) (n := 9) [0, 1, 2, 4, 5, 6, 7] [] _ (by kernel_rfl) (fun K hK => ?_); (simp only [pickOps, List.getElem?_toArray, List.getElem?_cons_zero, List.getElem?_cons_succ, Option.toList_some, List.cons_append, List.nil_append]); (repeat (first | go_big_quiet_step (fail) | quiet_step (fail))); refine wpQuiet_nil (hK _ ?_); clear hK K
  (refine Eg.read (coR_pre B gr gc) (by intro c a d v w h; cases d <;> exact h) (by kernel_rfl) (i := 3) (n := 8) (l := [0, 1, 2, 4, 5, 6, 7]) rfl (by kernel_rfl) (by kernel_rfl) rfl ⟨_, fun w' hR => load_run rfl (load_ptrR (CoR.ptr hR HC0.out.drew)), ?_⟩); (simp only [Act.put, List.setIfInBounds_toArray, List.getElem_toArray, List.getElem_cons_succ, List.getElem_cons_zero, List.set_cons_succ, List.set_cons_zero])
  (refine Eg.read (coR_pre B gr gc) (by intro c a d v w h; cases d <;> exact h) (by kernel_rfl) (i := 8) (n := 7) (l := [0, 1, 2, 4, 5, 6, 7, 3]) rfl (by kernel_rfl) (by kernel_rfl) rfl ⟨_, fun w' hR => load_run rfl (load_ptrR (CoR.ptr hR HC0.out.drew)), ?_⟩); (simp only [Act.put, List.setIfInBounds_toArray, List.getElem_toArray, List.getElem_cons_succ, List.getElem_cons_zero, List.set_cons_succ, List.set_cons_zero])
  refine Eg.batchK (coR_pre B gr gc) (by intro c a d v w h; cases d <;> exact h) (by kernel_rfl) (n := 5) [9, 10] [0, 1, 2, 4, 5, 6, 7, 3, 8] _ (by kernel_rfl) (fun K hK => ?_); (simp only [pickOps, List.getElem?_toArray, List.getElem?_cons_zero, List.getElem?_cons_succ, Option.toList_some, List.cons_append, List.nil_append]); (repeat (first | go_big_quiet_step (fail) | quiet_step (fail))); refine wpQuiet_nil (hK _ ?_); clear hK K
  (refine Eg.read (coR_pre B gr gc) (by intro c a d v w h; cases d <;> exact h) (by kernel_rfl) (i := 11) (n := 4) (l := [0, 1, 2, 4, 5, 6, 7, 3, 8, 9, 10]) rfl (by kernel_rfl) (by kernel_rfl) rfl ⟨_, fun w' hR => load_run rfl (load_u64 (CoR.fld hR HC0.out.drew (i := 1) (x := (.int .u64 (x : Int))) rfl)), ?_⟩); (simp only [Act.put, List.setIfInBounds_toArray, List.getElem_toArray, List.getElem_cons_succ, List.getElem_cons_zero, List.set_cons_succ, List.set_cons_zero])
  refine Eg.act (coR_pre B gr gc) (i := 12) (n := 3) (l := [0, 1, 2, 4, 5, 6, 7, 3, 8, 9, 10, 11]) rfl (by kernel_rfl) ?_
  go_wp2_with fail
  refine K0.out.mono ?_
  rintro e wa0 ⟨rfl, ⟨va0, hCa⟩, hBa, hZa⟩
  obtain ⟨q1, q2, q3, q4⟩ := hCa.same (i := 1) (x := (.int .u64 (x : Int))) rfl
  have HCa := Lib.hid hCa
  have HBa := Lib.hid hBa
  have HZa := Lib.hid hZa
  have HQ1 := Lib.hid q1
  have HQ2 := Lib.hid q2
  clear hCa hBa hZa q1 q2
  go_wp2_with fail
  refine ⟨coR_of HC0.out.drew HCa.out HBa.out HZa.out, ?_⟩
  refine Eg.batchK (coR_pre B gr gc) (by intro c a d v w h; cases d <;> exact h) (by kernel_rfl) (n := 1) [13, 14] [0, 1, 2, 4, 5, 6, 7, 3, 8, 9, 10, 11, 12] _ (by kernel_rfl) (fun K hK => ?_); (simp only [pickOps, List.getElem?_toArray, List.getElem?_cons_zero, List.getElem?_cons_succ, Option.toList_some, List.cons_append, List.nil_append]); (repeat (first | go_big_quiet_step (fail) | quiet_step (fail))); refine wpQuiet_nil (hK _ ?_); clear hK K
  refine Eg.act (coR_pre B gr gc) (i := 15) (n := 0) (l := [0, 1, 2, 4, 5, 6, 7, 3, 8, 9, 10, 11, 12, 13, 14]) rfl (by kernel_rfl) ?_
  go_wp2_with fail
  refine ⟨HQ2.out, ?_⟩
  refine Eg.finish (by kernel_rfl) ?_
  have HC1 := Lib.hid HQ1.out
  have HB1 := Lib.hid (Below.trans HB0.out.drew (Below.trans HBa.out HQ2.out.1))
  have HZ1 := Lib.hid (Nat.le_trans HZ0.out (Nat.le_trans HZa.out HQ2.out.2.1))
  clear K0 HC0 HB0 HZ0 HCa HBa HZa HQ1 HQ2 q3 q4
  have K1 := Lib.hid (subs_co _ B gr gc _ _ (l ++ put x 8) S u cu h_u HUB.out (HNU.out.below HB1.out.drew HSS.out) HSS.out HC1.out.drew (by (try simp only [List.length_append, put_length, blob_length]); omega))
  go_upto_region 1 with fail
  refine wp_eager (coR_pre B gr gc) (n := 16) (by kernel_rfl) (by kernel_rfl) ?_
  refine Eg.batchK (coR_pre B gr gc) (by intro c a d v w h; cases d <;> exact h) (by kernel_rfl) (n := 9) [0, 1, 2, 4, 5, 6, 7] [] _ (by kernel_rfl) (fun K hK => ?_); (simp only [pickOps, List.getElem?_toArray, List.getElem?_cons_zero, List.getElem?_cons_succ, Option.toList_some, List.cons_append, List.nil_append]); (repeat (first | go_big_quiet_step (fail) | quiet_step (fail))); refine wpQuiet_nil (hK _ ?_); clear hK K
  (refine Eg.read (coR_pre B gr gc) (by intro c a d v w h; cases d <;> exact h) (by kernel_rfl) (i := 3) (n := 8) (l := [0, 1, 2, 4, 5, 6, 7]) rfl (by kernel_rfl) (by kernel_rfl) rfl ⟨_, fun w' hR => load_run rfl (load_ptrR (CoR.ptr hR HC1.out.drew)), ?_⟩); (simp only [Act.put, List.setIfInBounds_toArray, List.getElem_toArray, List.getElem_cons_succ, List.getElem_cons_zero, List.set_cons_succ, List.set_cons_zero])
  (refine Eg.read (coR_pre B gr gc) (by intro c a d v w h; cases d <;> exact h) (by kernel_rfl) (i := 8) (n := 7) (l := [0, 1, 2, 4, 5, 6, 7, 3]) rfl (by kernel_rfl) (by kernel_rfl) rfl ⟨_, fun w' hR => load_run rfl (load_ptrR (CoR.ptr hR HC1.out.drew)), ?_⟩); (simp only [Act.put, List.setIfInBounds_toArray, List.getElem_toArray, List.getElem_cons_succ, List.getElem_cons_zero, List.set_cons_succ, List.set_cons_zero])
  refine Eg.batchK (coR_pre B gr gc) (by intro c a d v w h; cases d <;> exact h) (by kernel_rfl) (n := 5) [9, 10] [0, 1, 2, 4, 5, 6, 7, 3, 8] _ (by kernel_rfl) (fun K hK => ?_); (simp only [pickOps, List.getElem?_toArray, List.getElem?_cons_zero, List.getElem?_cons_succ, Option.toList_some, List.cons_append, List.nil_append]); (repeat (first | go_big_quiet_step (fail) | quiet_step (fail))); refine wpQuiet_nil (hK _ ?_); clear hK K
  (refine Eg.read (coR_pre B gr gc) (by intro c a d v w h; cases d <;> exact h) (by kernel_rfl) (i := 11) (n := 4) (l := [0, 1, 2, 4, 5, 6, 7, 3, 8, 9, 10]) rfl (by kernel_rfl) (by kernel_rfl) rfl ⟨_, fun w' hR => load_run rfl (load_slu (CoR.fld hR HC1.out.drew (i := 5) (x := (.slice S u.length cu)) rfl)), ?_⟩); (simp only [Act.put, List.setIfInBounds_toArray, List.getElem_toArray, List.getElem_cons_succ, List.getElem_cons_zero, List.set_cons_succ, List.set_cons_zero])
  refine Eg.act (coR_pre B gr gc) (i := 12) (n := 3) (l := [0, 1, 2, 4, 5, 6, 7, 3, 8, 9, 10, 11]) rfl (by kernel_rfl) ?_
  go_wp2_with fail
  refine K1.out.mono ?_
  rintro e wa1 ⟨rfl, ⟨va1, hCa⟩, hBa, hZa⟩
  obtain ⟨q1, q2, q3, q4⟩ := hCa.same (i := 5) (x := (.slice S u.length cu)) rfl
  have HCa := Lib.hid hCa
  have HBa := Lib.hid hBa
  have HZa := Lib.hid hZa
  have HQ1 := Lib.hid q1
  have HQ2 := Lib.hid q2
  clear hCa hBa hZa q1 q2
  go_wp2_with fail
  refine ⟨coR_of HC1.out.drew HCa.out HBa.out HZa.out, ?_⟩
  refine Eg.batchK (coR_pre B gr gc) (by intro c a d v w h; cases d <;> exact h) (by kernel_rfl) (n := 1) [13, 14] [0, 1, 2, 4, 5, 6, 7, 3, 8, 9, 10, 11, 12] _ (by kernel_rfl) (fun K hK => ?_); (simp only [pickOps, List.getElem?_toArray, List.getElem?_cons_zero, List.getElem?_cons_succ, Option.toList_some, List.cons_append, List.nil_append]); (repeat (first | go_big_quiet_step (fail) | quiet_step (fail))); refine wpQuiet_nil (hK _ ?_); clear hK K
  refine Eg.act (coR_pre B gr gc) (i := 15) (n := 0) (l := [0, 1, 2, 4, 5, 6, 7, 3, 8, 9, 10, 11, 12, 13, 14]) rfl (by kernel_rfl) ?_
  go_wp2_with fail
  refine ⟨HQ2.out, ?_⟩
  refine Eg.finish (by kernel_rfl) ?_
  have HC2 := Lib.hid HQ1.out
  have HB2 := Lib.hid (Below.trans HB1.out.drew (Below.trans HBa.out HQ2.out.1))
  have HZ2 := Lib.hid (Nat.le_trans HZ1.out (Nat.le_trans HZa.out HQ2.out.2.1))
  clear K1 HC1 HB1 HZ1 HCa HBa HZa HQ1 HQ2 q3 q4
  go_end0
  exact ⟨⟨_, rfl⟩, ⟨_, HC2.out⟩, HB2.out, HZ2.out⟩

set_option maxHeartbeats 3200000 in
set_option maxRecDepth 100000 in
theorem cleanup_co (w : World) (B gr gc : Nat) (v : Value) (l : List UInt8) (kd : Int) (x nx rd tl : Nat) (pg : Int) (of : Int) (A S : Option Addr) (bl : List UInt8) (u : List Nat) (ca cu : Nat) (h_xid : x < 18446744073709551616) (h : Co w B gr gc v #[.int .i64 kd, .int .u64 (x : Int), .int .i64 pg, .int .i64 of, .slice A bl.length ca, .slice S u.length cu, .int .u64 (nx : Int), .int .u64 (rd : Int), .int .u64 (tl : Int)] l) (hl : l.length ≤ 100) :
    Calls Try.prog 92 #[.pointer (some ⟨gc, 0, none⟩)] w fun e w' => (∃ x, e = .returned x) ∧ CoP w B gr gc #[.int .i64 kd, .int .u64 (x : Int), .int .i64 pg, .int .i64 of, .slice A bl.length ca, .slice S u.length cu, .int .u64 (nx : Int), .int .u64 (rd : Int), .int .u64 (tl : Int)] (l ++ put x 8) w' := by
  have HC0 := Lib.hid h
  have HB0 := Lib.hid (Below.refl B w)
  have HZ0 := Lib.hid (Nat.le_refl w.heap.size)
  clear h
  go_enter Try.func92, Try.ntmps92
  have K0 := number_co _ B gr gc _ _ (l) x 8 (by omega) (by omega) (by omega) HC0.out.drew (by (try simp only [List.length_append, put_length, blob_length]); omega)
  rw [show ((8 : Nat) : Int) = 8 from rfl] at K0
  have K0 := Lib.hid K0
  go_upto_region 0 with fail
  refine wp_eager (coR_pre B gr gc) (n := 16) (by kernel_rfl) (by kernel_rfl) ?_
  refine Eg.batchK (coR_pre B gr gc) (by intro c a d v w h; cases d <;> exact h) (by kernel_rfl) (n := 9) [0, 1, 2, 4, 5, 6, 7] [] _ (by kernel_rfl) (fun K hK => ?_); (simp only [pickOps, List.getElem?_toArray, List.getElem?_cons_zero, List.getElem?_cons_succ, Option.toList_some, List.cons_append, List.nil_append]); (repeat (first | go_big_quiet_step (fail) | quiet_step (fail))); refine wpQuiet_nil (hK _ ?_); clear hK K
  (refine Eg.read (coR_pre B gr gc) (by intro c a d v w h; cases d <;> exact h) (by kernel_rfl) (i := 3) (n := 8) (l := [0, 1, 2, 4, 5, 6, 7]) rfl (by kernel_rfl) (by kernel_rfl) rfl ⟨_, fun w' hR => load_run rfl (load_ptrR (CoR.ptr hR HC0.out.drew)), ?_⟩); (simp only [Act.put, List.setIfInBounds_toArray, List.getElem_toArray, List.getElem_cons_succ, List.getElem_cons_zero, List.set_cons_succ, List.set_cons_zero])
  (refine Eg.read (coR_pre B gr gc) (by intro c a d v w h; cases d <;> exact h) (by kernel_rfl) (i := 8) (n := 7) (l := [0, 1, 2, 4, 5, 6, 7, 3]) rfl (by kernel_rfl) (by kernel_rfl) rfl ⟨_, fun w' hR => load_run rfl (load_ptrR (CoR.ptr hR HC0.out.drew)), ?_⟩); (simp only [Act.put, List.setIfInBounds_toArray, List.getElem_toArray, List.getElem_cons_succ, List.getElem_cons_zero, List.set_cons_succ, List.set_cons_zero])
  refine Eg.batchK (coR_pre B gr gc) (by intro c a d v w h; cases d <;> exact h) (by kernel_rfl) (n := 5) [9, 10] [0, 1, 2, 4, 5, 6, 7, 3, 8] _ (by kernel_rfl) (fun K hK => ?_); (simp only [pickOps, List.getElem?_toArray, List.getElem?_cons_zero, List.getElem?_cons_succ, Option.toList_some, List.cons_append, List.nil_append]); (repeat (first | go_big_quiet_step (fail) | quiet_step (fail))); refine wpQuiet_nil (hK _ ?_); clear hK K
  (refine Eg.read (coR_pre B gr gc) (by intro c a d v w h; cases d <;> exact h) (by kernel_rfl) (i := 11) (n := 4) (l := [0, 1, 2, 4, 5, 6, 7, 3, 8, 9, 10]) rfl (by kernel_rfl) (by kernel_rfl) rfl ⟨_, fun w' hR => load_run rfl (load_u64 (CoR.fld hR HC0.out.drew (i := 1) (x := (.int .u64 (x : Int))) rfl)), ?_⟩); (simp only [Act.put, List.setIfInBounds_toArray, List.getElem_toArray, List.getElem_cons_succ, List.getElem_cons_zero, List.set_cons_succ, List.set_cons_zero])
  refine Eg.act (coR_pre B gr gc) (i := 12) (n := 3) (l := [0, 1, 2, 4, 5, 6, 7, 3, 8, 9, 10, 11]) rfl (by kernel_rfl) ?_
  go_wp2_with fail
  refine K0.out.mono ?_
  rintro e wa0 ⟨rfl, ⟨va0, hCa⟩, hBa, hZa⟩
  obtain ⟨q1, q2, q3, q4⟩ := hCa.same (i := 1) (x := (.int .u64 (x : Int))) rfl
  have HCa := Lib.hid hCa
  have HBa := Lib.hid hBa
  have HZa := Lib.hid hZa
  have HQ1 := Lib.hid q1
  have HQ2 := Lib.hid q2
  clear hCa hBa hZa q1 q2
  go_wp2_with fail
  refine ⟨coR_of HC0.out.drew HCa.out HBa.out HZa.out, ?_⟩
  refine Eg.batchK (coR_pre B gr gc) (by intro c a d v w h; cases d <;> exact h) (by kernel_rfl) (n := 1) [13, 14] [0, 1, 2, 4, 5, 6, 7, 3, 8, 9, 10, 11, 12] _ (by kernel_rfl) (fun K hK => ?_); (simp only [pickOps, List.getElem?_toArray, List.getElem?_cons_zero, List.getElem?_cons_succ, Option.toList_some, List.cons_append, List.nil_append]); (repeat (first | go_big_quiet_step (fail) | quiet_step (fail))); refine wpQuiet_nil (hK _ ?_); clear hK K
  refine Eg.act (coR_pre B gr gc) (i := 15) (n := 0) (l := [0, 1, 2, 4, 5, 6, 7, 3, 8, 9, 10, 11, 12, 13, 14]) rfl (by kernel_rfl) ?_
  go_wp2_with fail
  refine ⟨HQ2.out, ?_⟩
  refine Eg.finish (by kernel_rfl) ?_
  have HC1 := Lib.hid HQ1.out
  have HB1 := Lib.hid (Below.trans HB0.out.drew (Below.trans HBa.out HQ2.out.1))
  have HZ1 := Lib.hid (Nat.le_trans HZ0.out (Nat.le_trans HZa.out HQ2.out.2.1))
  clear K0 HC0 HB0 HZ0 HCa HBa HZa HQ1 HQ2 q3 q4
  go_end0
  exact ⟨⟨_, rfl⟩, ⟨_, HC1.out⟩, HB1.out, HZ1.out⟩

set_option maxHeartbeats 3200000 in
set_option maxRecDepth 100000 in
theorem running_co (w : World) (B gr gc : Nat) (v : Value) (l : List UInt8) (kd : Int) (x nx rd tl : Nat) (pg : Int) (of : Int) (A S : Option Addr) (bl : List UInt8) (u : List Nat) (ca cu : Nat) (h_next : nx < 18446744073709551616) (h_u : u.length ≤ 9000) (h_u2 : ∀ i, i < u.length → u.getD i 0 < 18446744073709551616) (h_N : Nums w S u) (h_S : u = [] ∨ ∀ b o, S = some ⟨b, o, none⟩ → b < B) (h : Co w B gr gc v #[.int .i64 kd, .int .u64 (x : Int), .int .i64 pg, .int .i64 of, .slice A bl.length ca, .slice S u.length cu, .int .u64 (nx : Int), .int .u64 (rd : Int), .int .u64 (tl : Int)] l) (hl : l.length ≤ 100) :
    Calls Try.prog 93 #[.pointer (some ⟨gc, 0, none⟩)] w fun e w' => (∃ x, e = .returned x) ∧ CoP w B gr gc #[.int .i64 kd, .int .u64 (x : Int), .int .i64 pg, .int .i64 of, .slice A bl.length ca, .slice S u.length cu, .int .u64 (nx : Int), .int .u64 (rd : Int), .int .u64 (tl : Int)] (l ++ put nx 8 ++ subsB u) w' := by
  have HC0 := Lib.hid h
  have HB0 := Lib.hid (Below.refl B w)
  have HZ0 := Lib.hid (Nat.le_refl w.heap.size)
  have HNU := Lib.hid h_N
  have HSS := Lib.hid h_S
  have HUB := Lib.hid h_u2
  clear h_N h_S h_u2
  clear h
  go_enter Try.func93, Try.ntmps93
  have K0 := number_co _ B gr gc _ _ (l) nx 8 (by omega) (by omega) (by omega) HC0.out.drew (by (try simp only [List.length_append, put_length, blob_length]); omega)
  rw [show ((8 : Nat) : Int) = 8 from rfl] at K0
  have K0 := Lib.hid K0
  go_upto_region 0 with fail
  refine wp_eager (coR_pre B gr gc) (n := 16) (by kernel_rfl) (by kernel_rfl) ?_
  refine Eg.batchK (coR_pre B gr gc) (by intro c a d v w h; cases d <;> exact h) (by kernel_rfl) (n := 9) [0, 1, 2, 4, 5, 6, 7] [] _ (by kernel_rfl) (fun K hK => ?_); (simp only [pickOps, List.getElem?_toArray, List.getElem?_cons_zero, List.getElem?_cons_succ, Option.toList_some, List.cons_append, List.nil_append]); (repeat (first | go_big_quiet_step (fail) | quiet_step (fail))); refine wpQuiet_nil (hK _ ?_); clear hK K
  (refine Eg.read (coR_pre B gr gc) (by intro c a d v w h; cases d <;> exact h) (by kernel_rfl) (i := 3) (n := 8) (l := [0, 1, 2, 4, 5, 6, 7]) rfl (by kernel_rfl) (by kernel_rfl) rfl ⟨_, fun w' hR => load_run rfl (load_ptrR (CoR.ptr hR HC0.out.drew)), ?_⟩); (simp only [Act.put, List.setIfInBounds_toArray, List.getElem_toArray, List.getElem_cons_succ, List.getElem_cons_zero, List.set_cons_succ, List.set_cons_zero])
  (refine Eg.read (coR_pre B gr gc) (by intro c a d v w h; cases d <;> exact h) (by kernel_rfl) (i := 8) (n := 7) (l := [0, 1, 2, 4, 5, 6, 7, 3]) rfl (by kernel_rfl) (by kernel_rfl) rfl ⟨_, fun w' hR => load_run rfl (load_ptrR (CoR.ptr hR HC0.out.drew)), ?_⟩); (simp only [Act.put, List.setIfInBounds_toArray, List.getElem_toArray, List.getElem_cons_succ, List.getElem_cons_zero, List.set_cons_succ, List.set_cons_zero])
  refine Eg.batchK (coR_pre B gr gc) (by intro c a d v w h; cases d <;> exact h) (by kernel_rfl) (n := 5) [9, 10] [0, 1, 2, 4, 5, 6, 7, 3, 8] _ (by kernel_rfl) (fun K hK => ?_); (simp only [pickOps, List.getElem?_toArray, List.getElem?_cons_zero, List.getElem?_cons_succ, Option.toList_some, List.cons_append, List.nil_append]); (repeat (first | go_big_quiet_step (fail) | quiet_step (fail))); refine wpQuiet_nil (hK _ ?_); clear hK K
  (refine Eg.read (coR_pre B gr gc) (by intro c a d v w h; cases d <;> exact h) (by kernel_rfl) (i := 11) (n := 4) (l := [0, 1, 2, 4, 5, 6, 7, 3, 8, 9, 10]) rfl (by kernel_rfl) (by kernel_rfl) rfl ⟨_, fun w' hR => load_run rfl (load_u64 (CoR.fld hR HC0.out.drew (i := 6) (x := (.int .u64 (nx : Int))) rfl)), ?_⟩); (simp only [Act.put, List.setIfInBounds_toArray, List.getElem_toArray, List.getElem_cons_succ, List.getElem_cons_zero, List.set_cons_succ, List.set_cons_zero])
  refine Eg.act (coR_pre B gr gc) (i := 12) (n := 3) (l := [0, 1, 2, 4, 5, 6, 7, 3, 8, 9, 10, 11]) rfl (by kernel_rfl) ?_
  go_wp2_with fail
  refine K0.out.mono ?_
  rintro e wa0 ⟨rfl, ⟨va0, hCa⟩, hBa, hZa⟩
  obtain ⟨q1, q2, q3, q4⟩ := hCa.same (i := 6) (x := (.int .u64 (nx : Int))) rfl
  have HCa := Lib.hid hCa
  have HBa := Lib.hid hBa
  have HZa := Lib.hid hZa
  have HQ1 := Lib.hid q1
  have HQ2 := Lib.hid q2
  clear hCa hBa hZa q1 q2
  go_wp2_with fail
  refine ⟨coR_of HC0.out.drew HCa.out HBa.out HZa.out, ?_⟩
  refine Eg.batchK (coR_pre B gr gc) (by intro c a d v w h; cases d <;> exact h) (by kernel_rfl) (n := 1) [13, 14] [0, 1, 2, 4, 5, 6, 7, 3, 8, 9, 10, 11, 12] _ (by kernel_rfl) (fun K hK => ?_); (simp only [pickOps, List.getElem?_toArray, List.getElem?_cons_zero, List.getElem?_cons_succ, Option.toList_some, List.cons_append, List.nil_append]); (repeat (first | go_big_quiet_step (fail) | quiet_step (fail))); refine wpQuiet_nil (hK _ ?_); clear hK K
  refine Eg.act (coR_pre B gr gc) (i := 15) (n := 0) (l := [0, 1, 2, 4, 5, 6, 7, 3, 8, 9, 10, 11, 12, 13, 14]) rfl (by kernel_rfl) ?_
  go_wp2_with fail
  refine ⟨HQ2.out, ?_⟩
  refine Eg.finish (by kernel_rfl) ?_
  have HC1 := Lib.hid HQ1.out
  have HB1 := Lib.hid (Below.trans HB0.out.drew (Below.trans HBa.out HQ2.out.1))
  have HZ1 := Lib.hid (Nat.le_trans HZ0.out (Nat.le_trans HZa.out HQ2.out.2.1))
  clear K0 HC0 HB0 HZ0 HCa HBa HZa HQ1 HQ2 q3 q4
  have K1 := Lib.hid (subs_co _ B gr gc _ _ (l ++ put nx 8) S u cu h_u HUB.out (HNU.out.below HB1.out.drew HSS.out) HSS.out HC1.out.drew (by (try simp only [List.length_append, put_length, blob_length]); omega))
  go_upto_region 1 with fail
  refine wp_eager (coR_pre B gr gc) (n := 16) (by kernel_rfl) (by kernel_rfl) ?_
  refine Eg.batchK (coR_pre B gr gc) (by intro c a d v w h; cases d <;> exact h) (by kernel_rfl) (n := 9) [0, 1, 2, 4, 5, 6, 7] [] _ (by kernel_rfl) (fun K hK => ?_); (simp only [pickOps, List.getElem?_toArray, List.getElem?_cons_zero, List.getElem?_cons_succ, Option.toList_some, List.cons_append, List.nil_append]); (repeat (first | go_big_quiet_step (fail) | quiet_step (fail))); refine wpQuiet_nil (hK _ ?_); clear hK K
  (refine Eg.read (coR_pre B gr gc) (by intro c a d v w h; cases d <;> exact h) (by kernel_rfl) (i := 3) (n := 8) (l := [0, 1, 2, 4, 5, 6, 7]) rfl (by kernel_rfl) (by kernel_rfl) rfl ⟨_, fun w' hR => load_run rfl (load_ptrR (CoR.ptr hR HC1.out.drew)), ?_⟩); (simp only [Act.put, List.setIfInBounds_toArray, List.getElem_toArray, List.getElem_cons_succ, List.getElem_cons_zero, List.set_cons_succ, List.set_cons_zero])
  (refine Eg.read (coR_pre B gr gc) (by intro c a d v w h; cases d <;> exact h) (by kernel_rfl) (i := 8) (n := 7) (l := [0, 1, 2, 4, 5, 6, 7, 3]) rfl (by kernel_rfl) (by kernel_rfl) rfl ⟨_, fun w' hR => load_run rfl (load_ptrR (CoR.ptr hR HC1.out.drew)), ?_⟩); (simp only [Act.put, List.setIfInBounds_toArray, List.getElem_toArray, List.getElem_cons_succ, List.getElem_cons_zero, List.set_cons_succ, List.set_cons_zero])
  refine Eg.batchK (coR_pre B gr gc) (by intro c a d v w h; cases d <;> exact h) (by kernel_rfl) (n := 5) [9, 10] [0, 1, 2, 4, 5, 6, 7, 3, 8] _ (by kernel_rfl) (fun K hK => ?_); (simp only [pickOps, List.getElem?_toArray, List.getElem?_cons_zero, List.getElem?_cons_succ, Option.toList_some, List.cons_append, List.nil_append]); (repeat (first | go_big_quiet_step (fail) | quiet_step (fail))); refine wpQuiet_nil (hK _ ?_); clear hK K
  (refine Eg.read (coR_pre B gr gc) (by intro c a d v w h; cases d <;> exact h) (by kernel_rfl) (i := 11) (n := 4) (l := [0, 1, 2, 4, 5, 6, 7, 3, 8, 9, 10]) rfl (by kernel_rfl) (by kernel_rfl) rfl ⟨_, fun w' hR => load_run rfl (load_slu (CoR.fld hR HC1.out.drew (i := 5) (x := (.slice S u.length cu)) rfl)), ?_⟩); (simp only [Act.put, List.setIfInBounds_toArray, List.getElem_toArray, List.getElem_cons_succ, List.getElem_cons_zero, List.set_cons_succ, List.set_cons_zero])
  refine Eg.act (coR_pre B gr gc) (i := 12) (n := 3) (l := [0, 1, 2, 4, 5, 6, 7, 3, 8, 9, 10, 11]) rfl (by kernel_rfl) ?_
  go_wp2_with fail
  refine K1.out.mono ?_
  rintro e wa1 ⟨rfl, ⟨va1, hCa⟩, hBa, hZa⟩
  obtain ⟨q1, q2, q3, q4⟩ := hCa.same (i := 5) (x := (.slice S u.length cu)) rfl
  have HCa := Lib.hid hCa
  have HBa := Lib.hid hBa
  have HZa := Lib.hid hZa
  have HQ1 := Lib.hid q1
  have HQ2 := Lib.hid q2
  clear hCa hBa hZa q1 q2
  go_wp2_with fail
  refine ⟨coR_of HC1.out.drew HCa.out HBa.out HZa.out, ?_⟩
  refine Eg.batchK (coR_pre B gr gc) (by intro c a d v w h; cases d <;> exact h) (by kernel_rfl) (n := 1) [13, 14] [0, 1, 2, 4, 5, 6, 7, 3, 8, 9, 10, 11, 12] _ (by kernel_rfl) (fun K hK => ?_); (simp only [pickOps, List.getElem?_toArray, List.getElem?_cons_zero, List.getElem?_cons_succ, Option.toList_some, List.cons_append, List.nil_append]); (repeat (first | go_big_quiet_step (fail) | quiet_step (fail))); refine wpQuiet_nil (hK _ ?_); clear hK K
  refine Eg.act (coR_pre B gr gc) (i := 15) (n := 0) (l := [0, 1, 2, 4, 5, 6, 7, 3, 8, 9, 10, 11, 12, 13, 14]) rfl (by kernel_rfl) ?_
  go_wp2_with fail
  refine ⟨HQ2.out, ?_⟩
  refine Eg.finish (by kernel_rfl) ?_
  have HC2 := Lib.hid HQ1.out
  have HB2 := Lib.hid (Below.trans HB1.out.drew (Below.trans HBa.out HQ2.out.1))
  have HZ2 := Lib.hid (Nat.le_trans HZ1.out (Nat.le_trans HZa.out HQ2.out.2.1))
  clear K1 HC1 HB1 HZ1 HCa HBa HZa HQ1 HQ2 q3 q4
  go_end0
  exact ⟨⟨_, rfl⟩, ⟨_, HC2.out⟩, HB2.out, HZ2.out⟩

set_option maxHeartbeats 3200000 in
set_option maxRecDepth 100000 in
theorem check_co (w : World) (B gr gc : Nat) (v : Value) (l : List UInt8) (kd : Int) (x nx rd tl : Nat) (pg : Int) (of : Int) (A S : Option Addr) (bl : List UInt8) (u : List Nat) (ca cu : Nat) (h_next : nx < 18446744073709551616) (h_redo : rd < 18446744073709551616) (h : Co w B gr gc v #[.int .i64 kd, .int .u64 (x : Int), .int .i64 pg, .int .i64 of, .slice A bl.length ca, .slice S u.length cu, .int .u64 (nx : Int), .int .u64 (rd : Int), .int .u64 (tl : Int)] l) (hl : l.length ≤ 100) :
    Calls Try.prog 94 #[.pointer (some ⟨gc, 0, none⟩)] w fun e w' => (∃ x, e = .returned x) ∧ CoP w B gr gc #[.int .i64 kd, .int .u64 (x : Int), .int .i64 pg, .int .i64 of, .slice A bl.length ca, .slice S u.length cu, .int .u64 (nx : Int), .int .u64 (rd : Int), .int .u64 (tl : Int)] (l ++ put nx 8 ++ put rd 8) w' := by
  have HC0 := Lib.hid h
  have HB0 := Lib.hid (Below.refl B w)
  have HZ0 := Lib.hid (Nat.le_refl w.heap.size)
  clear h
  go_enter Try.func94, Try.ntmps94
  have K0 := number_co _ B gr gc _ _ (l) nx 8 (by omega) (by omega) (by omega) HC0.out.drew (by (try simp only [List.length_append, put_length, blob_length]); omega)
  rw [show ((8 : Nat) : Int) = 8 from rfl] at K0
  have K0 := Lib.hid K0
  go_upto_region 0 with fail
  refine wp_eager (coR_pre B gr gc) (n := 16) (by kernel_rfl) (by kernel_rfl) ?_
  refine Eg.batchK (coR_pre B gr gc) (by intro c a d v w h; cases d <;> exact h) (by kernel_rfl) (n := 9) [0, 1, 2, 4, 5, 6, 7] [] _ (by kernel_rfl) (fun K hK => ?_); (simp only [pickOps, List.getElem?_toArray, List.getElem?_cons_zero, List.getElem?_cons_succ, Option.toList_some, List.cons_append, List.nil_append]); (repeat (first | go_big_quiet_step (fail) | quiet_step (fail))); refine wpQuiet_nil (hK _ ?_); clear hK K
  (refine Eg.read (coR_pre B gr gc) (by intro c a d v w h; cases d <;> exact h) (by kernel_rfl) (i := 3) (n := 8) (l := [0, 1, 2, 4, 5, 6, 7]) rfl (by kernel_rfl) (by kernel_rfl) rfl ⟨_, fun w' hR => load_run rfl (load_ptrR (CoR.ptr hR HC0.out.drew)), ?_⟩); (simp only [Act.put, List.setIfInBounds_toArray, List.getElem_toArray, List.getElem_cons_succ, List.getElem_cons_zero, List.set_cons_succ, List.set_cons_zero])
  (refine Eg.read (coR_pre B gr gc) (by intro c a d v w h; cases d <;> exact h) (by kernel_rfl) (i := 8) (n := 7) (l := [0, 1, 2, 4, 5, 6, 7, 3]) rfl (by kernel_rfl) (by kernel_rfl) rfl ⟨_, fun w' hR => load_run rfl (load_ptrR (CoR.ptr hR HC0.out.drew)), ?_⟩); (simp only [Act.put, List.setIfInBounds_toArray, List.getElem_toArray, List.getElem_cons_succ, List.getElem_cons_zero, List.set_cons_succ, List.set_cons_zero])
  refine Eg.batchK (coR_pre B gr gc) (by intro c a d v w h; cases d <;> exact h) (by kernel_rfl) (n := 5) [9, 10] [0, 1, 2, 4, 5, 6, 7, 3, 8] _ (by kernel_rfl) (fun K hK => ?_); (simp only [pickOps, List.getElem?_toArray, List.getElem?_cons_zero, List.getElem?_cons_succ, Option.toList_some, List.cons_append, List.nil_append]); (repeat (first | go_big_quiet_step (fail) | quiet_step (fail))); refine wpQuiet_nil (hK _ ?_); clear hK K
  (refine Eg.read (coR_pre B gr gc) (by intro c a d v w h; cases d <;> exact h) (by kernel_rfl) (i := 11) (n := 4) (l := [0, 1, 2, 4, 5, 6, 7, 3, 8, 9, 10]) rfl (by kernel_rfl) (by kernel_rfl) rfl ⟨_, fun w' hR => load_run rfl (load_u64 (CoR.fld hR HC0.out.drew (i := 6) (x := (.int .u64 (nx : Int))) rfl)), ?_⟩); (simp only [Act.put, List.setIfInBounds_toArray, List.getElem_toArray, List.getElem_cons_succ, List.getElem_cons_zero, List.set_cons_succ, List.set_cons_zero])
  refine Eg.act (coR_pre B gr gc) (i := 12) (n := 3) (l := [0, 1, 2, 4, 5, 6, 7, 3, 8, 9, 10, 11]) rfl (by kernel_rfl) ?_
  go_wp2_with fail
  refine K0.out.mono ?_
  rintro e wa0 ⟨rfl, ⟨va0, hCa⟩, hBa, hZa⟩
  obtain ⟨q1, q2, q3, q4⟩ := hCa.same (i := 6) (x := (.int .u64 (nx : Int))) rfl
  have HCa := Lib.hid hCa
  have HBa := Lib.hid hBa
  have HZa := Lib.hid hZa
  have HQ1 := Lib.hid q1
  have HQ2 := Lib.hid q2
  clear hCa hBa hZa q1 q2
  go_wp2_with fail
  refine ⟨coR_of HC0.out.drew HCa.out HBa.out HZa.out, ?_⟩
  refine Eg.batchK (coR_pre B gr gc) (by intro c a d v w h; cases d <;> exact h) (by kernel_rfl) (n := 1) [13, 14] [0, 1, 2, 4, 5, 6, 7, 3, 8, 9, 10, 11, 12] _ (by kernel_rfl) (fun K hK => ?_); (simp only [pickOps, List.getElem?_toArray, List.getElem?_cons_zero, List.getElem?_cons_succ, Option.toList_some, List.cons_append, List.nil_append]); (repeat (first | go_big_quiet_step (fail) | quiet_step (fail))); refine wpQuiet_nil (hK _ ?_); clear hK K
  refine Eg.act (coR_pre B gr gc) (i := 15) (n := 0) (l := [0, 1, 2, 4, 5, 6, 7, 3, 8, 9, 10, 11, 12, 13, 14]) rfl (by kernel_rfl) ?_
  go_wp2_with fail
  refine ⟨HQ2.out, ?_⟩
  refine Eg.finish (by kernel_rfl) ?_
  have HC1 := Lib.hid HQ1.out
  have HB1 := Lib.hid (Below.trans HB0.out.drew (Below.trans HBa.out HQ2.out.1))
  have HZ1 := Lib.hid (Nat.le_trans HZ0.out (Nat.le_trans HZa.out HQ2.out.2.1))
  clear K0 HC0 HB0 HZ0 HCa HBa HZa HQ1 HQ2 q3 q4
  have K1 := number_co _ B gr gc _ _ (l ++ put nx 8) rd 8 (by omega) (by omega) (by omega) HC1.out.drew (by (try simp only [List.length_append, put_length, blob_length]); omega)
  rw [show ((8 : Nat) : Int) = 8 from rfl] at K1
  have K1 := Lib.hid K1
  go_upto_region 1 with fail
  refine wp_eager (coR_pre B gr gc) (n := 16) (by kernel_rfl) (by kernel_rfl) ?_
  refine Eg.batchK (coR_pre B gr gc) (by intro c a d v w h; cases d <;> exact h) (by kernel_rfl) (n := 9) [0, 1, 2, 4, 5, 6, 7] [] _ (by kernel_rfl) (fun K hK => ?_); (simp only [pickOps, List.getElem?_toArray, List.getElem?_cons_zero, List.getElem?_cons_succ, Option.toList_some, List.cons_append, List.nil_append]); (repeat (first | go_big_quiet_step (fail) | quiet_step (fail))); refine wpQuiet_nil (hK _ ?_); clear hK K
  (refine Eg.read (coR_pre B gr gc) (by intro c a d v w h; cases d <;> exact h) (by kernel_rfl) (i := 3) (n := 8) (l := [0, 1, 2, 4, 5, 6, 7]) rfl (by kernel_rfl) (by kernel_rfl) rfl ⟨_, fun w' hR => load_run rfl (load_ptrR (CoR.ptr hR HC1.out.drew)), ?_⟩); (simp only [Act.put, List.setIfInBounds_toArray, List.getElem_toArray, List.getElem_cons_succ, List.getElem_cons_zero, List.set_cons_succ, List.set_cons_zero])
  (refine Eg.read (coR_pre B gr gc) (by intro c a d v w h; cases d <;> exact h) (by kernel_rfl) (i := 8) (n := 7) (l := [0, 1, 2, 4, 5, 6, 7, 3]) rfl (by kernel_rfl) (by kernel_rfl) rfl ⟨_, fun w' hR => load_run rfl (load_ptrR (CoR.ptr hR HC1.out.drew)), ?_⟩); (simp only [Act.put, List.setIfInBounds_toArray, List.getElem_toArray, List.getElem_cons_succ, List.getElem_cons_zero, List.set_cons_succ, List.set_cons_zero])
  refine Eg.batchK (coR_pre B gr gc) (by intro c a d v w h; cases d <;> exact h) (by kernel_rfl) (n := 5) [9, 10] [0, 1, 2, 4, 5, 6, 7, 3, 8] _ (by kernel_rfl) (fun K hK => ?_); (simp only [pickOps, List.getElem?_toArray, List.getElem?_cons_zero, List.getElem?_cons_succ, Option.toList_some, List.cons_append, List.nil_append]); (repeat (first | go_big_quiet_step (fail) | quiet_step (fail))); refine wpQuiet_nil (hK _ ?_); clear hK K
  (refine Eg.read (coR_pre B gr gc) (by intro c a d v w h; cases d <;> exact h) (by kernel_rfl) (i := 11) (n := 4) (l := [0, 1, 2, 4, 5, 6, 7, 3, 8, 9, 10]) rfl (by kernel_rfl) (by kernel_rfl) rfl ⟨_, fun w' hR => load_run rfl (load_u64 (CoR.fld hR HC1.out.drew (i := 7) (x := (.int .u64 (rd : Int))) rfl)), ?_⟩); (simp only [Act.put, List.setIfInBounds_toArray, List.getElem_toArray, List.getElem_cons_succ, List.getElem_cons_zero, List.set_cons_succ, List.set_cons_zero])
  refine Eg.act (coR_pre B gr gc) (i := 12) (n := 3) (l := [0, 1, 2, 4, 5, 6, 7, 3, 8, 9, 10, 11]) rfl (by kernel_rfl) ?_
  go_wp2_with fail
  refine K1.out.mono ?_
  rintro e wa1 ⟨rfl, ⟨va1, hCa⟩, hBa, hZa⟩
  obtain ⟨q1, q2, q3, q4⟩ := hCa.same (i := 7) (x := (.int .u64 (rd : Int))) rfl
  have HCa := Lib.hid hCa
  have HBa := Lib.hid hBa
  have HZa := Lib.hid hZa
  have HQ1 := Lib.hid q1
  have HQ2 := Lib.hid q2
  clear hCa hBa hZa q1 q2
  go_wp2_with fail
  refine ⟨coR_of HC1.out.drew HCa.out HBa.out HZa.out, ?_⟩
  refine Eg.batchK (coR_pre B gr gc) (by intro c a d v w h; cases d <;> exact h) (by kernel_rfl) (n := 1) [13, 14] [0, 1, 2, 4, 5, 6, 7, 3, 8, 9, 10, 11, 12] _ (by kernel_rfl) (fun K hK => ?_); (simp only [pickOps, List.getElem?_toArray, List.getElem?_cons_zero, List.getElem?_cons_succ, Option.toList_some, List.cons_append, List.nil_append]); (repeat (first | go_big_quiet_step (fail) | quiet_step (fail))); refine wpQuiet_nil (hK _ ?_); clear hK K
  refine Eg.act (coR_pre B gr gc) (i := 15) (n := 0) (l := [0, 1, 2, 4, 5, 6, 7, 3, 8, 9, 10, 11, 12, 13, 14]) rfl (by kernel_rfl) ?_
  go_wp2_with fail
  refine ⟨HQ2.out, ?_⟩
  refine Eg.finish (by kernel_rfl) ?_
  have HC2 := Lib.hid HQ1.out
  have HB2 := Lib.hid (Below.trans HB1.out.drew (Below.trans HBa.out HQ2.out.1))
  have HZ2 := Lib.hid (Nat.le_trans HZ1.out (Nat.le_trans HZa.out HQ2.out.2.1))
  clear K1 HC1 HB1 HZ1 HCa HBa HZa HQ1 HQ2 q3 q4
  go_end0
  exact ⟨⟨_, rfl⟩, ⟨_, HC2.out⟩, HB2.out, HZ2.out⟩

set_option maxHeartbeats 3200000 in
set_option maxRecDepth 100000 in
theorem switched_co (w : World) (B gr gc : Nat) (v : Value) (l : List UInt8) (kd : Int) (x nx rd tl : Nat) (pg : Int) (of : Int) (A S : Option Addr) (bl : List UInt8) (u : List Nat) (ca cu : Nat) (h_redo : rd < 18446744073709551616) (h_tml : tl < 18446744073709551616) (h : Co w B gr gc v #[.int .i64 kd, .int .u64 (x : Int), .int .i64 pg, .int .i64 of, .slice A bl.length ca, .slice S u.length cu, .int .u64 (nx : Int), .int .u64 (rd : Int), .int .u64 (tl : Int)] l) (hl : l.length ≤ 100) :
    Calls Try.prog 95 #[.pointer (some ⟨gc, 0, none⟩)] w fun e w' => (∃ x, e = .returned x) ∧ CoP w B gr gc #[.int .i64 kd, .int .u64 (x : Int), .int .i64 pg, .int .i64 of, .slice A bl.length ca, .slice S u.length cu, .int .u64 (nx : Int), .int .u64 (rd : Int), .int .u64 (tl : Int)] (l ++ put rd 8 ++ put tl 8) w' := by
  have HC0 := Lib.hid h
  have HB0 := Lib.hid (Below.refl B w)
  have HZ0 := Lib.hid (Nat.le_refl w.heap.size)
  clear h
  go_enter Try.func95, Try.ntmps95
  have K0 := number_co _ B gr gc _ _ (l) rd 8 (by omega) (by omega) (by omega) HC0.out.drew (by (try simp only [List.length_append, put_length, blob_length]); omega)
  rw [show ((8 : Nat) : Int) = 8 from rfl] at K0
  have K0 := Lib.hid K0
  go_upto_region 0 with fail
  refine wp_eager (coR_pre B gr gc) (n := 16) (by kernel_rfl) (by kernel_rfl) ?_
  refine Eg.batchK (coR_pre B gr gc) (by intro c a d v w h; cases d <;> exact h) (by kernel_rfl) (n := 9) [0, 1, 2, 4, 5, 6, 7] [] _ (by kernel_rfl) (fun K hK => ?_); (simp only [pickOps, List.getElem?_toArray, List.getElem?_cons_zero, List.getElem?_cons_succ, Option.toList_some, List.cons_append, List.nil_append]); (repeat (first | go_big_quiet_step (fail) | quiet_step (fail))); refine wpQuiet_nil (hK _ ?_); clear hK K
  (refine Eg.read (coR_pre B gr gc) (by intro c a d v w h; cases d <;> exact h) (by kernel_rfl) (i := 3) (n := 8) (l := [0, 1, 2, 4, 5, 6, 7]) rfl (by kernel_rfl) (by kernel_rfl) rfl ⟨_, fun w' hR => load_run rfl (load_ptrR (CoR.ptr hR HC0.out.drew)), ?_⟩); (simp only [Act.put, List.setIfInBounds_toArray, List.getElem_toArray, List.getElem_cons_succ, List.getElem_cons_zero, List.set_cons_succ, List.set_cons_zero])
  (refine Eg.read (coR_pre B gr gc) (by intro c a d v w h; cases d <;> exact h) (by kernel_rfl) (i := 8) (n := 7) (l := [0, 1, 2, 4, 5, 6, 7, 3]) rfl (by kernel_rfl) (by kernel_rfl) rfl ⟨_, fun w' hR => load_run rfl (load_ptrR (CoR.ptr hR HC0.out.drew)), ?_⟩); (simp only [Act.put, List.setIfInBounds_toArray, List.getElem_toArray, List.getElem_cons_succ, List.getElem_cons_zero, List.set_cons_succ, List.set_cons_zero])
  refine Eg.batchK (coR_pre B gr gc) (by intro c a d v w h; cases d <;> exact h) (by kernel_rfl) (n := 5) [9, 10] [0, 1, 2, 4, 5, 6, 7, 3, 8] _ (by kernel_rfl) (fun K hK => ?_); (simp only [pickOps, List.getElem?_toArray, List.getElem?_cons_zero, List.getElem?_cons_succ, Option.toList_some, List.cons_append, List.nil_append]); (repeat (first | go_big_quiet_step (fail) | quiet_step (fail))); refine wpQuiet_nil (hK _ ?_); clear hK K
  (refine Eg.read (coR_pre B gr gc) (by intro c a d v w h; cases d <;> exact h) (by kernel_rfl) (i := 11) (n := 4) (l := [0, 1, 2, 4, 5, 6, 7, 3, 8, 9, 10]) rfl (by kernel_rfl) (by kernel_rfl) rfl ⟨_, fun w' hR => load_run rfl (load_u64 (CoR.fld hR HC0.out.drew (i := 7) (x := (.int .u64 (rd : Int))) rfl)), ?_⟩); (simp only [Act.put, List.setIfInBounds_toArray, List.getElem_toArray, List.getElem_cons_succ, List.getElem_cons_zero, List.set_cons_succ, List.set_cons_zero])
  refine Eg.act (coR_pre B gr gc) (i := 12) (n := 3) (l := [0, 1, 2, 4, 5, 6, 7, 3, 8, 9, 10, 11]) rfl (by kernel_rfl) ?_
  go_wp2_with fail
  refine K0.out.mono ?_
  rintro e wa0 ⟨rfl, ⟨va0, hCa⟩, hBa, hZa⟩
  obtain ⟨q1, q2, q3, q4⟩ := hCa.same (i := 7) (x := (.int .u64 (rd : Int))) rfl
  have HCa := Lib.hid hCa
  have HBa := Lib.hid hBa
  have HZa := Lib.hid hZa
  have HQ1 := Lib.hid q1
  have HQ2 := Lib.hid q2
  clear hCa hBa hZa q1 q2
  go_wp2_with fail
  refine ⟨coR_of HC0.out.drew HCa.out HBa.out HZa.out, ?_⟩
  refine Eg.batchK (coR_pre B gr gc) (by intro c a d v w h; cases d <;> exact h) (by kernel_rfl) (n := 1) [13, 14] [0, 1, 2, 4, 5, 6, 7, 3, 8, 9, 10, 11, 12] _ (by kernel_rfl) (fun K hK => ?_); (simp only [pickOps, List.getElem?_toArray, List.getElem?_cons_zero, List.getElem?_cons_succ, Option.toList_some, List.cons_append, List.nil_append]); (repeat (first | go_big_quiet_step (fail) | quiet_step (fail))); refine wpQuiet_nil (hK _ ?_); clear hK K
  refine Eg.act (coR_pre B gr gc) (i := 15) (n := 0) (l := [0, 1, 2, 4, 5, 6, 7, 3, 8, 9, 10, 11, 12, 13, 14]) rfl (by kernel_rfl) ?_
  go_wp2_with fail
  refine ⟨HQ2.out, ?_⟩
  refine Eg.finish (by kernel_rfl) ?_
  have HC1 := Lib.hid HQ1.out
  have HB1 := Lib.hid (Below.trans HB0.out.drew (Below.trans HBa.out HQ2.out.1))
  have HZ1 := Lib.hid (Nat.le_trans HZ0.out (Nat.le_trans HZa.out HQ2.out.2.1))
  clear K0 HC0 HB0 HZ0 HCa HBa HZa HQ1 HQ2 q3 q4
  have K1 := number_co _ B gr gc _ _ (l ++ put rd 8) tl 8 (by omega) (by omega) (by omega) HC1.out.drew (by (try simp only [List.length_append, put_length, blob_length]); omega)
  rw [show ((8 : Nat) : Int) = 8 from rfl] at K1
  have K1 := Lib.hid K1
  go_upto_region 1 with fail
  refine wp_eager (coR_pre B gr gc) (n := 16) (by kernel_rfl) (by kernel_rfl) ?_
  refine Eg.batchK (coR_pre B gr gc) (by intro c a d v w h; cases d <;> exact h) (by kernel_rfl) (n := 9) [0, 1, 2, 4, 5, 6, 7] [] _ (by kernel_rfl) (fun K hK => ?_); (simp only [pickOps, List.getElem?_toArray, List.getElem?_cons_zero, List.getElem?_cons_succ, Option.toList_some, List.cons_append, List.nil_append]); (repeat (first | go_big_quiet_step (fail) | quiet_step (fail))); refine wpQuiet_nil (hK _ ?_); clear hK K
  (refine Eg.read (coR_pre B gr gc) (by intro c a d v w h; cases d <;> exact h) (by kernel_rfl) (i := 3) (n := 8) (l := [0, 1, 2, 4, 5, 6, 7]) rfl (by kernel_rfl) (by kernel_rfl) rfl ⟨_, fun w' hR => load_run rfl (load_ptrR (CoR.ptr hR HC1.out.drew)), ?_⟩); (simp only [Act.put, List.setIfInBounds_toArray, List.getElem_toArray, List.getElem_cons_succ, List.getElem_cons_zero, List.set_cons_succ, List.set_cons_zero])
  (refine Eg.read (coR_pre B gr gc) (by intro c a d v w h; cases d <;> exact h) (by kernel_rfl) (i := 8) (n := 7) (l := [0, 1, 2, 4, 5, 6, 7, 3]) rfl (by kernel_rfl) (by kernel_rfl) rfl ⟨_, fun w' hR => load_run rfl (load_ptrR (CoR.ptr hR HC1.out.drew)), ?_⟩); (simp only [Act.put, List.setIfInBounds_toArray, List.getElem_toArray, List.getElem_cons_succ, List.getElem_cons_zero, List.set_cons_succ, List.set_cons_zero])
  refine Eg.batchK (coR_pre B gr gc) (by intro c a d v w h; cases d <;> exact h) (by kernel_rfl) (n := 5) [9, 10] [0, 1, 2, 4, 5, 6, 7, 3, 8] _ (by kernel_rfl) (fun K hK => ?_); (simp only [pickOps, List.getElem?_toArray, List.getElem?_cons_zero, List.getElem?_cons_succ, Option.toList_some, List.cons_append, List.nil_append]); (repeat (first | go_big_quiet_step (fail) | quiet_step (fail))); refine wpQuiet_nil (hK _ ?_); clear hK K
  (refine Eg.read (coR_pre B gr gc) (by intro c a d v w h; cases d <;> exact h) (by kernel_rfl) (i := 11) (n := 4) (l := [0, 1, 2, 4, 5, 6, 7, 3, 8, 9, 10]) rfl (by kernel_rfl) (by kernel_rfl) rfl ⟨_, fun w' hR => load_run rfl (load_u64 (CoR.fld hR HC1.out.drew (i := 8) (x := (.int .u64 (tl : Int))) rfl)), ?_⟩); (simp only [Act.put, List.setIfInBounds_toArray, List.getElem_toArray, List.getElem_cons_succ, List.getElem_cons_zero, List.set_cons_succ, List.set_cons_zero])
  refine Eg.act (coR_pre B gr gc) (i := 12) (n := 3) (l := [0, 1, 2, 4, 5, 6, 7, 3, 8, 9, 10, 11]) rfl (by kernel_rfl) ?_
  go_wp2_with fail
  refine K1.out.mono ?_
  rintro e wa1 ⟨rfl, ⟨va1, hCa⟩, hBa, hZa⟩
  obtain ⟨q1, q2, q3, q4⟩ := hCa.same (i := 8) (x := (.int .u64 (tl : Int))) rfl
  have HCa := Lib.hid hCa
  have HBa := Lib.hid hBa
  have HZa := Lib.hid hZa
  have HQ1 := Lib.hid q1
  have HQ2 := Lib.hid q2
  clear hCa hBa hZa q1 q2
  go_wp2_with fail
  refine ⟨coR_of HC1.out.drew HCa.out HBa.out HZa.out, ?_⟩
  refine Eg.batchK (coR_pre B gr gc) (by intro c a d v w h; cases d <;> exact h) (by kernel_rfl) (n := 1) [13, 14] [0, 1, 2, 4, 5, 6, 7, 3, 8, 9, 10, 11, 12] _ (by kernel_rfl) (fun K hK => ?_); (simp only [pickOps, List.getElem?_toArray, List.getElem?_cons_zero, List.getElem?_cons_succ, Option.toList_some, List.cons_append, List.nil_append]); (repeat (first | go_big_quiet_step (fail) | quiet_step (fail))); refine wpQuiet_nil (hK _ ?_); clear hK K
  refine Eg.act (coR_pre B gr gc) (i := 15) (n := 0) (l := [0, 1, 2, 4, 5, 6, 7, 3, 8, 9, 10, 11, 12, 13, 14]) rfl (by kernel_rfl) ?_
  go_wp2_with fail
  refine ⟨HQ2.out, ?_⟩
  refine Eg.finish (by kernel_rfl) ?_
  have HC2 := Lib.hid HQ1.out
  have HB2 := Lib.hid (Below.trans HB1.out.drew (Below.trans HBa.out HQ2.out.1))
  have HZ2 := Lib.hid (Nat.le_trans HZ1.out (Nat.le_trans HZa.out HQ2.out.2.1))
  clear K1 HC1 HB1 HZ1 HCa HBa HZa HQ1 HQ2 q3 q4
  go_end0
  exact ⟨⟨_, rfl⟩, ⟨_, HC2.out⟩, HB2.out, HZ2.out⟩

end Go.Proofs.Ytgbfeagoadlhmaa
