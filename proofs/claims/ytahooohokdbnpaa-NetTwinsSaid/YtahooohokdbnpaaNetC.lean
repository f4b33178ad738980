
/-
  Contract of net.flights: the flights that are there when it is called.
-/
import Derived.Test.YtahooohokdbnpaaNetB
import Derived.LoopN
set_option linter.unusedVariables false
set_option linter.unusedSimpArgs false
namespace Go.Proofs.Ytahooohokdbnpaa
open Go.RowKit Go.Maps Pl

attribute [local go_sem] Oper.semAt_some

/-- the cells of flights; their bytes as they stand in w0 -/
def FlCells (w0 : World) (cs : List Value) (fs : List Fl) : Prop :=
  cs.length = 3 * fs.length ∧ ∀ i, i < fs.length → ∃ vb, cs[3 * i]? = some (.int .i64 ((fs.getD i fl0).from_ : Int)) ∧ cs[3 * i + 1]? = some (.int .i64 ((fs.getD i fl0).to_ : Int)) ∧ cs[3 * i + 2]? = some vb ∧ Bs 5 w0 vb (fs.getD i fl0).b
theorem FlCells.nil (w0 : World) : FlCells w0 [] [] := ⟨rfl, fun i hi => by simp at hi⟩
theorem FlCells.snoc {w0 : World} {cs : List Value} {fs : List Fl} (h : FlCells w0 cs fs) (f : Fl) {vb : Value} (hb : Bs 5 w0 vb f.b) : FlCells w0 (cs ++ [.int .i64 (f.from_ : Int), .int .i64 (f.to_ : Int), vb]) (fs ++ [f]) := by
  obtain ⟨h1, h2⟩ := h
  refine ⟨by rw [List.length_append, List.length_append, h1]; simp; omega, fun i hi => ?_⟩
  rw [List.length_append] at hi
  simp only [List.length_cons, List.length_nil] at hi
  by_cases hin : i < fs.length
  · rw [getD_app_l _ _ _ _ hin, List.getElem?_append_left (by omega), List.getElem?_append_left (by omega), List.getElem?_append_left (by omega)]
    exact h2 i hin
  · obtain rfl : i = fs.length := by omega
    rw [getD_app_at _ _ _ rfl, List.getElem?_append_right (by omega), List.getElem?_append_right (by omega), List.getElem?_append_right (by omega), h1]
    refine ⟨vb, ?_, ?_, ?_, hb⟩
    · rw [Nat.sub_self]; rfl
    · rw [show 3 * fs.length + 1 - 3 * fs.length = 1 by omega]; rfl
    · rw [show 3 * fs.length + 2 - 3 * fs.length = 2 by omega]; rfl
theorem FlCells.chg {w0 w1 : World} {S : Nat → Prop} {cs : List Value} {fs : List Fl} (h : FlCells w0 cs fs) (hC : Chg S w0 w1) (hS : ∀ k cur, S k → ¬ Blk w0 k 5 cur) : FlCells w1 cs fs := by
  obtain ⟨h1, h2⟩ := h
  refine ⟨h1, fun i hi => ?_⟩
  obtain ⟨vb, a, b, c, d⟩ := h2 i hi
  exact ⟨vb, a, b, c, d.chg hC hS⟩
theorem FlCells.ext {w0 w1 : World} {cs : List Value} {fs : List Fl} (h : FlCells w0 cs fs) (hE : Ext w0 w1) : FlCells w1 cs fs := h.chg (S := fun _ => False) (Chg.of_ext hE) (fun _ _ h => h.elim)

/-- flights in a variable's block gl; their bytes as in w0 -/
def FlSt (w0 w : World) (B gl : Nat) (fs : List Fl) : Prop := ∃ v cs, Blk w gl 41 #[v] ∧ w.ownsRow B 45 3 v fs.length cs ∧ FlCells w0 cs fs

theorem Try.infoFl : (Try.prog.info? 45).map (fun i => (i.zero, i.size, i.bytes)) = some (some (.agg #[.int .i64 0, .int .i64 0, .slice none 0 0]), 3, 40) := by kernel_rfl
abbrev flightsV (gl : Nat) : Value := .func (.func 52) #[] #[.pointer (some ⟨gl, 0, none⟩)]

def linesTo (e k : Nat) : List (Nat × Nat) := (List.range k).flatMap fun a => (List.range e).map fun b => (a + 1, b + 1)
def rowTo (k j : Nat) : List (Nat × Nat) := (List.range j).map fun b => (k + 1, b + 1)
theorem linesTo_all (e : Nat) : linesTo e e = linesOf e := rfl
theorem linesTo_succ (e k : Nat) : linesTo e (k + 1) = linesTo e k ++ rowTo k e := by simp [linesTo, rowTo, List.range_succ]
theorem rowTo_succ (k j : Nat) : rowTo k (j + 1) = rowTo k j ++ [(k + 1, j + 1)] := by simp [rowTo, List.range_succ]
theorem flightsO_snoc (L : Lns) (O : List (Nat × Nat)) (p : Nat × Nat) : flightsO (O ++ [p]) L = flightsO O L ++ lineF L p := by rw [flightsO_app]; simp [flightsO]
theorem lineF_get (L : Lns) (p : Nat × Nat) {q : Nat} (hq : q < (L p).length) : (lineF L p).take (q + 1) = (lineF L p).take q ++ [⟨p.1, p.2, (L p).getD q []⟩] := by
  rw [List.take_succ_eq_append_getElem (by rw [lineF_length]; exact hq)]
  simp [lineF, List.getD_eq_getElem?_getD, hq]

/-- what the map has for a line of the net: a slice, and its elements -/
theorem LnsAt.slice {w : World} {S : Nat → Prop} {F : Lit → Option Value} {N : Nt} (hl : LnsAt w S F N) {p : Nat × Nat} (hp : p ∈ linesOf N.ends) :
    ∃ A c, (F (kl p)).getD (.slice none 0 0) = .slice A (N.L p).length c ∧ ∀ q, q < (N.L p).length → ∃ gr Ab cb, A = some ⟨gr, 0, none⟩ ∧ w.cell? ⟨gr, q, none⟩ = some (.slice Ab ((N.L p).getD q []).length cb) ∧ Bs 5 w (.slice Ab ((N.L p).getD q []).length cb) ((N.L p).getD q []) := by
  rcases hl.here p hp with ⟨h1, h2⟩ | ⟨v, h1, ⟨vs, hv, hb⟩, _⟩
  · exact ⟨none, 0, by rw [h1, h2]; rfl, fun q hq => by rw [h2] at hq; simp at hq⟩
  · rw [h1]
    obtain ⟨hvl, h2⟩ := hv
    rcases h2 with ⟨rfl, hn⟩ | ⟨gr, cap, cur, rfl, _, hh, _, _, hcs, ht⟩
    · exact ⟨none, 0, by rw [hn]; rfl, fun q hq => by omega⟩
    · refine ⟨some ⟨gr, 0, none⟩, cap, rfl, fun q hq => ?_⟩
      have hbq := hb q hq
      obtain ⟨Ab, cb, e, _⟩ := hb q hq
      rw [e] at hbq
      refine ⟨gr, Ab, cb, rfl, ?_, hbq⟩
      rw [cell_of_row w gr q cur _ (0, 0) hh, ← e]
      have h3 : (cur.toList.take ((N.L p).length * 1))[q]? = vs[q]? := by rw [ht]
      rw [List.getElem?_take_of_lt (by omega)] at h3
      rw [← Array.getElem?_toList, h3, List.getD_eq_getElem?_getD]
      rw [List.getElem?_eq_getElem (by omega)]
      rfl

theorem flightsO_le {N : Nt} (h : OkN N) : ∀ O : List (Nat × Nat), (flightsO O N.L).length ≤ 32 * O.length := by
  intro O
  induction O with
  | nil => simp [flightsO]
  | cons p O ih =>
    rw [flightsO_cons, List.length_append, lineF_length]
    have := h.full p
    simp only [List.length_cons]
    omega
theorem prefix_le {N : Nt} (h : OkN N) {k j : Nat} (hk : k ≤ N.ends) (hj : j ≤ N.ends) : (flightsO (linesTo N.ends k ++ rowTo k j) N.L).length ≤ 960 := by
  have h1 := flightsO_le h (linesTo N.ends k ++ rowTo k j)
  have h2 : (linesTo N.ends k).length = k * N.ends := by
    simp only [linesTo, List.length_flatMap, List.length_map, List.length_range]
    rw [List.map_const']
    simp
  have h3 : (rowTo k j).length = j := by simp [rowTo]
  rw [List.length_append, h2, h3] at h1
  have h5 := h.e5
  have h4 : k * N.ends ≤ 5 * 5 := Nat.mul_le_mul (by omega) h5
  omega
theorem blk_news3 {w : World} {g : Nat} {t : TypeId} {x y z : Value} (h : Blk w g t #[x, y, z]) : ∀ j u, [x, y, z][j]? = some u → w.cell? ((⟨g, 0, none⟩ : Addr).add j) = some u := by
  intro j u hj
  have e : (⟨g, 0, none⟩ : Addr).add j = ⟨g, j, none⟩ := by unfold Addr.add; split <;> simp_all
  rw [e, h.cell, ← hj]
  simp
theorem row_form {w : World} {B : Nat} {e : TypeId} {sz n : Nat} {v : Value} {xs : List Value} (h : w.ownsRow B e sz v n xs) : ∃ A c, v = .slice A n c := by
  obtain ⟨_, h2⟩ := h
  rcases h2 with ⟨rfl, rfl⟩ | ⟨g, cap, cur, rfl, _⟩
  · exact ⟨_, _, rfl⟩
  · exact ⟨_, _, rfl⟩
theorem load_bs {w : World} {p : Addr} {A : Option Addr} {n c : Nat} (h : w.cell? p = some (.slice A n c)) : (Instr.loadAt 36 (.pointer (some p))).run Try.prog w = .ok (.slice A n c) w := by
  simp [go_sem, h]

set_option maxHeartbeats 4000000 in
set_option maxRecDepth 100000 in
theorem flights_net {w : World} {S : Nat → Prop} {g nb : Nat} {N : Nt} (h : NetAt w S g nb N) :
    Calls Try.prog 38 #[.pointer (some ⟨g, 0, none⟩)] w fun e w' => ∃ gl, e = .returned (flightsV gl) ∧ FlSt w w' w.heap.size gl (flN N) ∧ w.heap.size ≤ gl ∧ Ext w w' := by
  have KN := Lib.hid (fun W (hW : Ext w W) => none_net (h.ext hW))
  obtain ⟨h0, hlo, gm, F, cc, hb, hm, hln, hs1, hs2, hk⟩ := h
  have H0 := Lib.hid h0
  have HB := Lib.hid hb
  have HM := Lib.hid hm
  have HL := Lib.hid hln
  have h5 := h0.e5
  have h1 := h0.e1
  have HFL : Hid (flN N = flightsO (linesTo N.ends N.ends) N.L) := Lib.hid rfl
  have HLEN := Lib.hid (flN_length h0)
  have HMEM : Hid (∀ k j, k < N.ends → j < N.ends → (k + 1, j + 1) ∈ linesOf N.ends) := Lib.hid (fun k j hk hj => (mem_linesOf _ _).2 ⟨⟨by omega, by show k + 1 ≤ _; omega⟩, by omega, by show j + 1 ≤ _; omega⟩)
  have HPL : Hid (∀ k j, k ≤ N.ends → j ≤ N.ends → (flightsO (linesTo N.ends k ++ rowTo k j) N.L).length ≤ 960) := Lib.hid (fun k j hk hj => prefix_le h0 hk hj)
  have HBL := Lib.hid (Blk.new w 41 #[.slice none 0 0])
  have HE1 := Lib.hid (ext_new w (.cells #[.slice none 0 0] 41))
  clear hb hm hln hk h0
  obtain ⟨i0, hi, hz0, hz1, hz2⟩ := info_parts Try.infoFl
  go_enter Try.func38, Try.ntmps38
  go_wp2_with fail
  generalize w.alloc (.cells #[.slice none 0 0] 41) = w1 at *
  refine (KN.out w1 HE1.out).mono ?_
  rintro e w' ⟨rfl, rfl⟩
  generalize hen : N.ends = en at *
  go_wp2_with fail
  go_loopw [4] (fun i wr => ∃ k : Nat, k ≤ en ∧ i = .int .i64 ((k + 1 : Nat) : Int) ∧ FlSt w wr w.heap.size w.heap.size (flightsO (linesTo en k) N.L) ∧ Ext w wr) (fun i _ => en + 1 - (intOf i).toNat)
  case atStart => exact ⟨0, Nat.zero_le _, rfl, ⟨.slice none 0 0, [], HBL.out, World.ownsRow_nil _ _ _ _, FlCells.nil w⟩, HE1.out⟩
  case round =>
    obtain ⟨k, hk, rfl, hF, hE⟩ := hrel
    have HF := Lib.hid hF
    have HE := Lib.hid hE
    clear hF hE HBL HE1
    have hce : wr.cell? ⟨g, 0, none⟩ = some (.int .i64 (en : Int)) := by rw [(HB.out.ext HE.out).cell]; rfl
    by_cases hlt : k < en
    · have hd : decide (((k + 1 : Nat) : Int) ≤ (en : Int)) = true := decide_eq_true (by omega)
      go_wp2_with fail
      clear hce hd
      go_loopw [5] (fun i wr => ∃ j : Nat, j ≤ en ∧ i = .int .i64 ((j + 1 : Nat) : Int) ∧ FlSt w wr w.heap.size w.heap.size (flightsO (linesTo en k ++ rowTo k j) N.L) ∧ Ext w wr) (fun i _ => en + 1 - (intOf i).toNat)
      case atStart => exact ⟨0, Nat.zero_le _, rfl, by rw [show rowTo k 0 = [] from rfl, List.append_nil]; exact HF.out, HE.out⟩
      case round =>
        obtain ⟨j, hj, rfl, hF, hE⟩ := hrel
        have HF := Lib.hid hF
        have HE := Lib.hid hE
        clear hF hE
        have hce : wr.cell? ⟨g, 0, none⟩ = some (.int .i64 (en : Int)) := by rw [(HB.out.ext HE.out).cell]; rfl
        by_cases hjl : j < en
        · have hd : decide (((j + 1 : Nat) : Int) ≤ (en : Int)) = true := decide_eq_true (by omega)
          have hkey := key_pair (a := ((k + 1 : Nat) : Int)) (b := ((j + 1 : Nat) : Int)) (.small (by omega)) (.small (by omega))
          obtain ⟨A, c, hv, hel⟩ := HL.out.slice (p := (k + 1, j + 1)) (by rw [hen]; exact HMEM.out k j hlt hjl)
          have hlk := (HM.out.ext HE.out).look1 Try.pairKeys Try.underlying73 (Try.lineZero _) hkey
          rw [show (F (klz ((k + 1 : Nat) : Int) ((j + 1 : Nat) : Int))).getD (.slice none 0 0) = .slice A (N.L (k + 1, j + 1)).length c from hv] at hlk
          rw [show ((k + 1 : Nat) : Int) = (k : Int) + 1 from rfl, show ((j + 1 : Nat) : Int) = (j : Int) + 1 from rfl] at hlk
          have hcm : wr.cell? ⟨g, 1, none⟩ = some (.map (some gm)) := by rw [(HB.out.ext HE.out).cell]; rfl
          have HEL := Lib.hid hel
          have HRB : Hid (flightsO (linesTo en k ++ rowTo k (j + 1)) N.L = flightsO (linesTo en k ++ rowTo k j) N.L ++ lineF N.L (k + 1, j + 1)) := Lib.hid (by rw [rowTo_succ, ← List.append_assoc, flightsO_snoc])
          have HGT : Hid (∀ q, q < (N.L (k + 1, j + 1)).length → (lineF N.L (k + 1, j + 1)).take (q + 1) = (lineF N.L (k + 1, j + 1)).take q ++ [⟨k + 1, j + 1, (N.L (k + 1, j + 1)).getD q []⟩]) := Lib.hid (fun q hq => lineF_get N.L (k + 1, j + 1) hq)
          have HLL := Lib.hid (lineF_length N.L (k + 1, j + 1))
          have hn32 := H0.out.full (k + 1, j + 1)
          have HXL := Lib.hid (HPL.out k j (by omega) (by omega))
          clear hv hel hkey
          generalize (N.L (k + 1, j + 1)).length = n at *
          generalize flightsO (linesTo en k ++ rowTo k j) N.L = X at *
          generalize lineF N.L (k + 1, j + 1) = Y at *
          go_wp2_with fail
          clear hlk hcm hce hd
          go_loopw [36] (fun i wr => ∃ q : Nat, q ≤ n ∧ i = .int .i64 (q : Int) ∧ FlSt w wr w.heap.size w.heap.size (X ++ Y.take q) ∧ Ext w wr) (fun i _ => n - (intOf i).toNat)
          case atStart => exact ⟨0, Nat.zero_le _, rfl, by rw [List.take_zero, List.append_nil]; exact HF.out, HE.out⟩
          case round =>
            obtain ⟨q, hq, rfl, hF, hE⟩ := hrel
            have HE := Lib.hid hE
            have HF := Lib.hid hF
            clear hE hF
            by_cases hql : q < n
            · have hd : decide ((q : Int) < (n : Int)) = true := decide_eq_true (by omega)
              obtain ⟨gr, Ab, cb, rfl, hcq, hbs⟩ := HEL.out q hql
              have hcq' := HE.out.cell hcq
              obtain ⟨v, cs, hvb, hrow, hcells⟩ := HF.out
              have HSN := Lib.hid (hcells.snoc ⟨k + 1, j + 1, (N.L (k + 1, j + 1)).getD q []⟩ hbs)
              have HGq := Lib.hid (HGT.out q hql)
              have hcv : wr.cell? ⟨w.heap.size, 0, none⟩ = some v := by rw [hvb.cell]; rfl
              have hfl : (X ++ Y.take q).length ≤ 992 := by rw [List.length_append, List.length_take, HLL.out]; have := HXL.out; omega
              obtain ⟨xl, hxl⟩ : ∃ xl, (X ++ Y.take q).length = xl := ⟨_, rfl⟩
              have HQL := Lib.hid hxl
              rw [hxl] at hrow hfl
              clear hxl
              have hvne : v.ownBlock ≠ some w.heap.size := fun e => by
                obtain ⟨_, h2⟩ := hrow
                rcases h2 with ⟨rfl, _⟩ | ⟨gv, cap, cur, rfl, _, hh, _⟩
                · cases e
                · cases e
                  exact absurd (Blk.type (t := 45) hh hvb).1 (by decide)
              generalize (N.L (k + 1, j + 1)).getD q [] = lq at *
              have HVB := Lib.hid hvb
              have hE3 := ext_new wr (.cells #[.int .i64 ((k : Int) + 1), .int .i64 ((j : Int) + 1), .slice Ab lq.length cb] 45)
              have HE3 := Lib.hid (HE.out.trans hE3)
              have HOW := Lib.hid (World.ownsRow.alloc hrow (.cells #[.int .i64 ((k : Int) + 1), .int .i64 ((j : Int) + 1), .slice Ab lq.length cb] 45))
              have HNW := Lib.hid (blk_news3 (Blk.new wr 45 #[.int .i64 ((k : Int) + 1), .int .i64 ((j : Int) + 1), .slice Ab lq.length cb]))
              have HV3 := Lib.hid (hvb.ext hE3)
              have HLT := Lib.hid (World.ownsRow.lt hrow)
              have HVN := Lib.hid hvne
              clear hcq hbs hvb hrow hcells hvne hE3
              go_wp2_with (at_builtin; refine wpList_append_own_at _ rfl _ _ _ rfl w.heap.size 45 i0 (.agg #[.int .i64 0, .int .i64 0, .slice none 0 0]) 3 40 Try.underlying41 hi hz0 hz1 hz2 rfl (by omega) v xl cs rfl HOW.out ⟨wr.heap.size, 0, none⟩ 1 1 [.int .i64 ((k : Int) + 1), .int .i64 ((j : Int) + 1), .slice Ab lq.length cb] rfl rfl HNW.out (by intro u hu; simp at hu; rcases hu with rfl | rfl | rfl <;> rfl) (by unfold maxLen; omega) (by omega) (by have := HE3.out.size; omega) ?_; intro v4 w4 hown4 hG4 hnil4 hat4; obtain ⟨A4, c4, rfl⟩ := row_form hown4; have hc4 : w4.cell? ⟨w.heap.size, 0, none⟩ = some v := (by rw [(HV3.out.grown hG4 (fun e => HVN.out e.symm)).cell]; rfl); have hf4 := (HV3.out.grown hG4 (fun e => HVN.out e.symm)).frozen 0)
              have hb4 := (HV3.out.grown hG4 (fun e => HVN.out e.symm)).set 0 (.slice A4 (xl + 1) c4)
              have hr4 := World.ownsRow.kept hown4 (grown_set w4 ⟨w.heap.size, 0, none⟩ (.slice A4 (xl + 1) c4)) (.inr (fun e => by
                rcases hat4 with h1 | h1
                · rw [h1] at e; exact HVN.out e
                · rw [h1] at e
                  have h2 : wr.heap.size + 1 = w.heap.size := by simpa using e
                  have := HE.out.size
                  omega))
              have hE4 := (HE3.out.grown hG4 (fun k e => (HLT.out k e).1)).setCell (p := ⟨w.heap.size, 0, none⟩) (Nat.le_refl _) (.slice A4 (xl + 1) c4)
              refine ⟨⟨q + 1, by omega, by go_num, ?_, hE4⟩, by simp [intOf]; omega⟩
              rw [HGq.out, ← List.append_assoc]
              exact ⟨_, _, hb4, by rw [List.length_append (bs := [_]), HQL.out]; exact hr4, HSN.out⟩
            · obtain rfl : q = n := by omega
              have hd : decide ((q : Int) < (q : Int)) = false := decide_eq_false (by omega)
              have hY : Y.take q = Y := List.take_of_length_le (by rw [HLL.out]; exact Nat.le_refl _)
              rw [hY] at HF
              clear hY
              go_wp2_with fail
              exact ⟨⟨j + 1, by omega, by go_num, by rw [HRB.out]; exact HF.out, HE.out⟩, by simp [intOf]; omega⟩
        · obtain rfl : j = en := by omega
          have hd : decide (((j + 1 : Nat) : Int) ≤ (j : Int)) = false := decide_eq_false (by omega)
          go_wp2_with fail
          exact ⟨⟨k + 1, by omega, by go_num, by rw [linesTo_succ]; exact HF.out, HE.out⟩, by simp [intOf]; omega⟩
    · obtain rfl : k = en := by omega
      have hd : decide (((k + 1 : Nat) : Int) ≤ (k : Int)) = false := decide_eq_false (by omega)
      go_wp2_with fail
      go_ret
      exact ⟨w.heap.size, rfl, by rw [HFL.out]; exact HF.out, Nat.le_refl _, HE.out⟩

end Go.Proofs.Ytahooohokdbnpaa
