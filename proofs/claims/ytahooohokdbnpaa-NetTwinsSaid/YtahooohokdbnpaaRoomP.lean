
/-
  The law NetRoom, plain: a line that is filled; what a clear leaves.
-/
import Derived.Test.YtahooohokdbnpaaFlK
set_option linter.unusedVariables false
set_option linter.unusedSimpArgs false
namespace Go.Proofs.Ytahooohokdbnpaa
open Go.RowKit Go.Shelf Go.Maps Pl

theorem setL_setL (L : Lns) (p : Nat × Nat) (l m : List (List UInt8)) : setL (setL L p l) p m = setL L p m := by
  funext q
  unfold setL
  split <;> rfl
theorem sendsN_ends (N : Nt) (a b : Int) (l : List UInt8) : ∀ t, (sendsN N a b l t).ends = N.ends
  | 0 => rfl
  | t + 1 => by
    show (sendN (sendsN N a b l t) a b l).ends = _
    rw [← sendsN_ends N a b l t]
    generalize sendsN N a b l t = M
    unfold sendN
    split
    · rfl
    · split <;> rfl
theorem doN_ends (N : Nt) (s : Ac) : (doN N s).ends = N.ends := by
  unfold doN
  split
  · exact sendsN_ends _ _ _ _ _
  · split
    · unfold takeN; split <;> rfl
    · split
      · unfold doubleN; split <;> rfl
      · split
        · unfold clearN; split <;> rfl
        · split
          · exact sendsN_ends _ _ _ _ _
          · rfl
theorem actsN_ends (fs : List Ac) : (actsN fs).ends = 4 := by
  unfold actsN
  have h : ∀ (fs : List Ac) (N : Nt), (fs.foldl doN N).ends = N.ends := by
    intro fs
    induction fs with
    | nil => intro N; rfl
    | cons s fs ih => intro N; rw [List.foldl_cons, ih, doN_ends]
  rw [h]
  rfl

/-! ## a line, filled -/
def fillN (N : Nt) (p : Nat × Nat) (k : Nat) : Nt := { N with L := setL N.L p (N.L p ++ List.replicate k []) }
theorem fillN_zero (N : Nt) (p : Nat × Nat) : fillN N p 0 = N := by
  unfold fillN
  rw [List.replicate_zero, List.append_nil, setL_self]
theorem fillN_len (N : Nt) (p : Nat × Nat) (k : Nat) : ((fillN N p k).L p).length = (N.L p).length + k := by
  show (setL _ _ _ p).length = _
  rw [setL_same, List.length_append, List.length_replicate]
theorem fillN_push (N : Nt) (p : Nat × Nat) (k : Nat) : pushN (fillN N p k) p [] = fillN N p (k + 1) := by
  unfold pushN fillN
  simp only [setL_same, setL_setL, List.append_assoc]
  rw [show List.replicate k ([] : List UInt8) ++ [[]] = List.replicate (k + 1) [] from List.replicate_succ'.symm]
theorem twoB_nat {N : Nt} {p q : Nat} (hp : 1 ≤ p ∧ p ≤ N.ends) (hq : 1 ≤ q ∧ q ≤ N.ends) (hne : p ≠ q) : twoB N (p : Int) (q : Int) = true ∧ pr (p : Int) (q : Int) = (p, q) ∧ lineN N (p : Int) (q : Int) = (N.L (p, q)).length ∧ (p, q) ∈ linesOf N.ends := by
  have e1 : endB N (p : Int) = true := (endB_iff N _).2 ⟨by omega, by omega⟩
  have e2 : endB N (q : Int) = true := (endB_iff N _).2 ⟨by omega, by omega⟩
  have e3 : pr (p : Int) (q : Int) = (p, q) := by simp [pr]
  refine ⟨?_, e3, ?_, (mem_linesOf _ _).2 ⟨hp, hq⟩⟩
  · unfold twoB
    rw [e1, e2, decide_eq_true (show (p : Int) ≠ (q : Int) by omega)]
    rfl
  · unfold lineN
    rw [e1, e2, e3]
    rfl
/-- a send that has room; and one that has none -/
theorem send_room {N : Nt} {p q : Nat} (hp : 1 ≤ p ∧ p ≤ N.ends) (hq : 1 ≤ q ∧ q ≤ N.ends) (hne : p ≠ q) {l : List UInt8} (hl : l.length ≤ 1048576) (hf : (N.L (p, q)).length < 32) : sendE N (p : Int) (q : Int) l.length = 0 ∧ sendN N (p : Int) (q : Int) l = pushN N (p, q) l := by
  obtain ⟨h1, h2, h3, _⟩ := twoB_nat hp hq hne
  have e : sendE N (p : Int) (q : Int) l.length = 0 := by
    unfold sendE
    rw [h1, h3, decide_eq_true hl, if_pos (by rfl), if_neg (by omega)]
  refine ⟨e, ?_⟩
  unfold sendN
  rw [e, if_pos rfl, h2]
theorem send_full {N : Nt} {p q : Nat} (hp : 1 ≤ p ∧ p ≤ N.ends) (hq : 1 ≤ q ∧ q ≤ N.ends) (hne : p ≠ q) {l : List UInt8} (hl : l.length ≤ 1048576) (hf : 32 ≤ (N.L (p, q)).length) : sendE N (p : Int) (q : Int) l.length = 5 ∧ sendN N (p : Int) (q : Int) l = { N with lost := N.lost + 1 } := by
  obtain ⟨h1, h2, h3, _⟩ := twoB_nat hp hq hne
  have e : sendE N (p : Int) (q : Int) l.length = 5 := by
    unfold sendE
    rw [h1, h3, decide_eq_true hl, if_pos (by rfl), if_pos hf]
  refine ⟨e, ?_⟩
  unfold sendN
  rw [e, if_neg (by decide), if_pos rfl]
theorem send_bad {N : Nt} {a b : Int} (h : twoB N a b = false) (l : List UInt8) : sendE N a b l.length = 2 ∧ sendN N a b l = N := by
  have e : sendE N a b l.length = 2 := by
    unfold sendE
    rw [h, Bool.false_and, if_neg (by decide)]
  refine ⟨e, ?_⟩
  unfold sendN
  rw [e, if_neg (by decide), if_neg (by decide)]
theorem sends_fill {N : Nt} {p q : Nat} (hp : 1 ≤ p ∧ p ≤ N.ends) (hq : 1 ≤ q ∧ q ≤ N.ends) (hne : p ≠ q) : ∀ k, (N.L (p, q)).length + k ≤ 32 → sendsN N (p : Int) (q : Int) [] k = fillN N (p, q) k
  | 0, _ => by rw [fillN_zero]; rfl
  | k + 1, h => by
    show sendN (sendsN N (p : Int) (q : Int) [] k) (p : Int) (q : Int) [] = _
    rw [sends_fill hp hq hne k (by omega), (send_room (N := fillN N (p, q) k) hp hq hne (Nat.zero_le _) (by rw [fillN_len]; omega)).2, fillN_push]
/-- a line's first flight -/
theorem first_of {N : Nt} {p : Nat × Nat} (hp : p ∈ linesOf N.ends) (h0 : 0 < (N.L p).length) : ∃ j, j < (flN N).length ∧ ((flN N).getD j fl0).line = p ∧ ∀ i, i < j → ((flN N).getD i fl0).line ≠ p := by
  have hex : ∃ j, j < (flN N).length ∧ ((flN N).getD j fl0).line = p := by
    obtain ⟨O1, O2, hO⟩ := List.append_of_mem hp
    have hat := flights_at N.L (O1 := O1) (O2 := O2) h0
    rw [← hO, Nat.add_zero] at hat
    refine ⟨(flightsO O1 N.L).length, (List.getElem?_eq_some_iff.1 hat).1, ?_⟩
    unfold flN flightsN
    rw [List.getD_eq_getElem?_getD, hat]
    rfl
  obtain ⟨j, hj⟩ := hex
  induction j using Nat.strongRecOn with
  | ind j ih =>
    by_cases h : ∃ i, i < j ∧ ((flN N).getD i fl0).line = p
    · obtain ⟨i, hi, he⟩ := h
      exact ih i hi ⟨by omega, he⟩
    · exact ⟨j, hj.1, hj.2, fun i hi he => h ⟨i, hi, he⟩⟩
theorem atE_nat {N : Nt} {j : Nat} (hj : j < (flN N).length) : atE N (j : Int) = 0 := by
  unfold atE
  rw [if_neg (by omega), Int.toNat_natCast, if_pos hj]
theorem atF_of {N : Nt} {j : Nat} (hj : j < (flN N).length) : atF N (j : Int) = (flN N).getD j fl0 := by
  unfold atF
  rw [if_pos (atE_nat hj), Int.toNat_natCast]

/-! ## what a clear leaves -/
def keptN (fs : List Fl) (z : Int) : List Fl := fs.filter (fun f => decide ((f.to_ : Int) ≠ z))
theorem keptN_snoc (fs : List Fl) (z : Int) {k : Nat} (hk : k < fs.length) : keptN (fs.take (k + 1)) z = if ((fs.getD k fl0).to_ : Int) = z then keptN (fs.take k) z else keptN (fs.take k) z ++ [fs.getD k fl0] := by
  rw [List.take_succ_eq_append_getElem hk, List.getD_eq_getElem?_getD, List.getElem?_eq_getElem hk, Option.getD_some]
  unfold keptN
  rw [List.filter_append, List.filter_cons]
  by_cases h : (((fs[k]).to_ : Nat) : Int) = z
  · rw [if_pos h, if_neg (by simp [h])]; simp
  · rw [if_neg h, if_pos (by simp [h])]; simp
theorem kept_line (L : Lns) (p : Nat × Nat) (z : Int) : keptN (lineF L p) z = if (p.2 : Int) = z then [] else lineF L p := by
  have h : ∀ f ∈ lineF L p, (f.to_ : Int) = (p.2 : Int) := fun f hf => by
    have e := lineF_line L p f hf
    rw [← e]
    rfl
  unfold keptN
  split
  · rename_i h1
    exact List.filter_eq_nil_iff.2 (fun f hf => by rw [h f hf]; simp [h1])
  · rename_i h1
    exact List.filter_eq_self.2 (fun f hf => by rw [h f hf]; simp [h1])
theorem kept_cons (L : Lns) (q : Nat × Nat) (O : List (Nat × Nat)) (z : Int) : keptN (flightsO (q :: O) L) z = keptN (lineF L q) z ++ keptN (flightsO O L) z := by
  rw [flightsO_cons]
  unfold keptN
  rw [List.filter_append]
theorem kept_clear {L : Lns} {z n : Nat} : ∀ (O : List (Nat × Nat)), (∀ q ∈ O, 1 ≤ q.1 ∧ q.1 ≤ n) → flightsO O (clearL L z n) = keptN (flightsO O L) (z : Int)
  | [], _ => rfl
  | q :: O, h => by
    rw [kept_cons, flightsO_cons, kept_clear O (fun r hr => h r (List.mem_cons_of_mem _ hr)), kept_line]
    congr 1
    have hq := h q List.mem_cons_self
    unfold lineF clearL
    by_cases e : q.2 = z
    · rw [if_pos ⟨hq.1, hq.2, e⟩, if_pos (by omega)]; rfl
    · rw [if_neg (fun h => e h.2.2), if_neg (by omega)]
theorem clear_kept {N : Nt} (z : Int) : flN (clearN N z) = keptN (flN N) z := by
  unfold clearN
  split
  · rename_i h
    have hz := (endB_iff N z).1 h
    have h1 := kept_clear (L := N.L) (z := z.toNat) (n := N.ends) (linesOf N.ends) (fun q hq => ((mem_linesOf _ _).1 hq).1)
    rw [show ((z.toNat : Nat) : Int) = z by omega] at h1
    exact h1
  · rename_i h
    refine (List.filter_eq_self.2 (fun f hf => ?_)).symm
    have hm := (mem_linesOf _ _).1 (flightsO_line N.L _ f hf)
    have hm2 : 1 ≤ f.to_ ∧ f.to_ ≤ N.ends := hm.2
    have hne : (f.to_ : Int) ≠ z := fun e => h ((endB_iff N z).2 ⟨by omega, by omega⟩)
    simp [hne]
/-- how many go -/
theorem gone_row {L : Lns} {z k : Nat} (hz : 1 ≤ z) : ∀ j, (flightsO (rowTo k j) L).length = (keptN (flightsO (rowTo k j) L) (z : Int)).length + if z ≤ j then (L (k + 1, z)).length else 0
  | 0 => by rw [if_neg (by omega)]; rfl
  | j + 1 => by
    have ih := gone_row (L := L) (k := k) hz j
    rw [rowTo_succ, flightsO_app]
    have e : keptN (flightsO (rowTo k j) L ++ flightsO [(k + 1, j + 1)] L) (z : Int) = keptN (flightsO (rowTo k j) L) (z : Int) ++ keptN (lineF L (k + 1, j + 1)) (z : Int) := by
      unfold keptN
      rw [List.filter_append]
      congr 1
      rw [flightsO_cons]
      simp [flightsO]
    rw [e, kept_line, List.length_append, List.length_append, show flightsO [(k + 1, j + 1)] L = lineF L (k + 1, j + 1) by rw [flightsO_cons]; simp [flightsO], lineF_length]
    by_cases h1 : j + 1 = z
    · rw [if_pos (by show ((j + 1 : Nat) : Int) = z; omega), if_pos (by omega)]
      rw [if_neg (by omega)] at ih
      subst h1
      rw [List.length_nil]
      omega
    · rw [if_neg (by show ¬ ((j + 1 : Nat) : Int) = z; omega), lineF_length]
      by_cases h2 : z ≤ j
      · rw [if_pos h2] at ih
        rw [if_pos (by omega)]
        omega
      · rw [if_neg h2] at ih
        rw [if_neg (by omega)]
        omega
theorem gone_rows {L : Lns} {z e : Nat} (hz : 1 ≤ z) (hze : z ≤ e) : ∀ k, (flightsO (linesTo e k) L).length = (keptN (flightsO (linesTo e k) L) (z : Int)).length + clearK L z k
  | 0 => rfl
  | k + 1 => by
    have ih := gone_rows (L := L) hz hze k
    have h1 := gone_row (L := L) (k := k) hz e
    rw [if_pos hze] at h1
    rw [linesTo_succ, flightsO_app]
    unfold keptN at ih h1 ⊢
    rw [List.filter_append, List.length_append, List.length_append]
    show _ = _ + (clearK L z k + (L (k + 1, z)).length)
    omega
theorem clear_gone (N : Nt) (z : Int) : clearC N z + (keptN (flN N) z).length = (flN N).length := by
  unfold clearC
  split
  · rename_i h
    have hz := (endB_iff N z).1 h
    have h1 := gone_rows (L := N.L) (z := z.toNat) (e := N.ends) (by omega) (by omega) N.ends
    rw [show ((z.toNat : Nat) : Int) = z by omega] at h1
    have h2 : (flN N).length = (keptN (flN N) z).length + clearK N.L z.toNat N.ends := h1
    omega
  · rename_i h
    have h1 := clear_kept (N := N) z
    unfold clearN at h1
    rw [if_neg h] at h1
    rw [← h1]
    omega

end Go.Proofs.Ytahooohokdbnpaa
