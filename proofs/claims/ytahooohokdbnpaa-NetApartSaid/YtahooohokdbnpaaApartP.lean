
/-
  The law NetApart, plain: what is done to a line leaves the others.
-/
import Derived.Test.YtahooohokdbnpaaNetP
set_option linter.unusedVariables false
set_option linter.unusedSimpArgs false
namespace Go.Proofs.Ytahooohokdbnpaa.Pl

/-- the flights of a line; or those of all others -/
def onlyB (x y : Int) (o : Bool) (f : Fl) : Bool := (decide ((f.from_ : Int) = x) && decide ((f.to_ : Int) = y)) != o
def onlyN (fs : List Fl) (x y : Int) (o : Bool) : List Fl := fs.filter (onlyB x y o)
theorem onlyN_nil (x y : Int) (o : Bool) : onlyN [] x y o = [] := rfl
theorem onlyN_app (fs gs : List Fl) (x y : Int) (o : Bool) : onlyN (fs ++ gs) x y o = onlyN fs x y o ++ onlyN gs x y o := by simp [onlyN]
theorem onlyN_snoc (fs : List Fl) (x y : Int) (o : Bool) {k : Nat} (hk : k < fs.length) : onlyN (fs.take (k + 1)) x y o = if onlyB x y o (fs.getD k fl0) then onlyN (fs.take k) x y o ++ [fs.getD k fl0] else onlyN (fs.take k) x y o := by
  rw [List.take_succ_eq_append_getElem hk, onlyN_app, List.getD_eq_getElem?_getD, List.getElem?_eq_getElem hk, Option.getD_some]
  unfold onlyN
  rw [List.filter_cons]
  split <;> simp
theorem onlyN_le (fs : List Fl) (x y : Int) (o : Bool) : (onlyN fs x y o).length ≤ fs.length := List.length_filter_le _ _
theorem only_line (L : Lns) (p : Nat × Nat) (x y : Int) (o : Bool) : onlyN (lineF L p) x y o = if (decide ((p.1 : Int) = x) && decide ((p.2 : Int) = y)) != o then lineF L p else [] := by
  have h : ∀ f ∈ lineF L p, onlyB x y o f = ((decide ((p.1 : Int) = x) && decide ((p.2 : Int) = y)) != o) := fun f hf => by
    have e := lineF_line L p f hf
    unfold onlyB
    rw [← e]
    rfl
  unfold onlyN
  split
  · rename_i h1
    exact List.filter_eq_self.2 (fun f hf => by rw [h f hf]; exact h1)
  · rename_i h1
    exact List.filter_eq_nil_iff.2 (fun f hf => by rw [h f hf]; exact h1)
/-- .. all others: they hang on the other lines alone -/
theorem only_others {L L' : Lns} {x y : Int} : ∀ (O : List (Nat × Nat)), (∀ q ∈ O, ¬ ((q.1 : Int) = x ∧ (q.2 : Int) = y) → L q = L' q) → onlyN (flightsO O L) x y true = onlyN (flightsO O L') x y true
  | [], _ => rfl
  | q :: O, h => by
    rw [flightsO_cons, flightsO_cons, onlyN_app, onlyN_app, only_others O (fun r hr => h r (List.mem_cons_of_mem _ hr)), only_line, only_line]
    congr 1
    by_cases e : (q.1 : Int) = x ∧ (q.2 : Int) = y
    · rw [decide_eq_true e.1, decide_eq_true e.2]; rfl
    · unfold lineF
      rw [h q List.mem_cons_self e]
/-- .. a line's own -/
theorem only_none {L : Lns} {p : Nat × Nat} : ∀ (O : List (Nat × Nat)), p ∉ O → onlyN (flightsO O L) (p.1 : Int) (p.2 : Int) false = []
  | [], _ => rfl
  | q :: O, h => by
    rw [flightsO_cons, onlyN_app, only_none O (fun hr => h (List.mem_cons_of_mem _ hr)), only_line, List.append_nil]
    rw [if_neg]
    intro hc
    simp only [Bool.bne_false, Bool.and_eq_true, decide_eq_true_eq] at hc
    exact h (List.mem_cons.2 (.inl (Prod.ext (by omega) (by omega))))
theorem only_mine {L : Lns} {p : Nat × Nat} {e : Nat} (hp : p ∈ linesOf e) : onlyN (flightsN e L) (p.1 : Int) (p.2 : Int) false = lineF L p := by
  obtain ⟨O1, O2, hO⟩ := List.append_of_mem hp
  have hn := nodup_linesOf e
  unfold flightsN
  rw [hO] at hn ⊢
  have h1 : p ∉ O1 := fun h => (List.nodup_append.1 hn).2.2 p h p (by simp) rfl
  have h2 : p ∉ O2 := ((List.nodup_cons.1 (List.nodup_append.1 hn).2.1)).1
  rw [flightsO_app, flightsO_cons, onlyN_app, onlyN_app, only_none O1 h1, only_none O2 h2, only_line, List.nil_append, List.append_nil, if_pos]
  simp

theorem apart_send (N : Nt) (a b : Int) (l : List UInt8) : onlyN (flN (sendN N a b l)) a b true = onlyN (flN N) a b true := by
  by_cases h : sendE N a b l.length = 0
  · have ht : twoB N a b = true := by
      unfold sendE at h
      split at h
      · rename_i h1
        simp only [Bool.and_eq_true] at h1
        exact h1.1
      · omega
    simp only [twoB, endB, Bool.and_eq_true, decide_eq_true_eq] at ht
    have e : sendN N a b l = pushN N (pr a b) l := by unfold sendN; rw [if_pos h]
    rw [e]
    exact only_others _ (fun q _ hq => setL_other _ _ (fun e => hq (by rw [e]; unfold pr; exact ⟨by show ((a.toNat : Nat) : Int) = a; omega, by show ((b.toNat : Nat) : Int) = b; omega⟩)))
  · have e : (sendN N a b l).ends = N.ends ∧ (sendN N a b l).L = N.L := by
      unfold sendN
      rw [if_neg h]
      split <;> exact ⟨rfl, rfl⟩
    unfold flN
    rw [e.1, e.2]
/-- behind one more of it, what stands at a place is the same flight -/
theorem double_at {N : Nt} {z : Int} (h0 : atE N z = 0) : atE (doubleN N z) z = 0 ∧ atF (doubleN N z) z = atF N z ∧ atK (doubleN N z) z = atK N z := by
  by_cases hd : doubleE N z = 0
  · obtain ⟨O1, p, O2, k, hO, hz, hk, hf, hK⟩ := at_split h0
    have e : doubleN N z = pushN N p (atF N z).b := by unfold doubleN; rw [if_pos hd, hf]; rfl
    have hn := nodup_linesOf N.ends
    rw [hO] at hn
    have h1 : p ∉ O1 := fun h => (List.nodup_append.1 hn).2.2 p h p (by simp) rfl
    rw [e]
    generalize (atF N z).b = x at *
    have hO' : linesOf (pushN N p x).ends = O1 ++ p :: O2 := hO
    have hL : (pushN N p x).L p = N.L p ++ [x] := setL_same _ _ _
    have hz' : z.toNat = (flightsO O1 (pushN N p x).L).length + k := by rw [hz]; unfold pushN; rw [flightsO_set _ _ h1]
    have hk' : k < ((pushN N p x).L p).length := by rw [hL, List.length_append]; omega
    have hat : (flN (pushN N p x))[z.toNat]? = some ⟨p.1, p.2, (N.L p).getD k []⟩ := by
      unfold flN flightsN
      rw [hO', hz', flights_at _ hk', hL, List.getD_eq_getElem?_getD, List.getElem?_append_left hk, List.getD_eq_getElem?_getD]
    have hlt : z.toNat < (flN (pushN N p x)).length := (List.getElem?_eq_some_iff.1 hat).1
    have hz0 : ¬ z < 0 := by
      intro h
      unfold atE at h0
      rw [if_pos h] at h0
      omega
    have h0' : atE (pushN N p x) z = 0 := by unfold atE; rw [if_neg hz0, if_pos hlt]
    have hF : atF (pushN N p x) z = atF N z := by
      rw [hf]
      unfold atF
      rw [if_pos h0', List.getD_eq_getElem?_getD, hat]
      rfl
    refine ⟨h0', hF, ?_⟩
    rw [hK]
    unfold atK
    rw [if_pos h0', hF, hf]
    unfold flN flightsN
    rw [hO', hz']
    exact ahead_cut _ (by rw [← hO]; exact nodup_linesOf _) (by omega) _
  · have e : doubleN N z = N := by unfold doubleN; rw [if_neg hd]
    rw [e]
    exact ⟨h0, rfl, rfl⟩
theorem apart_place {N : Nt} (h : OkN N) {z : Int} (h0 : atE N z = 0) :
    onlyN (flN (takeN (doubleN N z) z)) ((atF N z).from_ : Int) ((atF N z).to_ : Int) true = onlyN (flN N) ((atF N z).from_ : Int) ((atF N z).to_ : Int) true ∧
    (onlyN (flN N) ((atF N z).from_ : Int) ((atF N z).to_ : Int) false).length ≤ 32 ∧
    (onlyN (flN (takeN (doubleN N z) z)) ((atF N z).from_ : Int) ((atF N z).to_ : Int) false).length =
      (if (onlyN (flN N) ((atF N z).from_ : Int) ((atF N z).to_ : Int) false).length = 32 then 31 else (onlyN (flN N) ((atF N z).from_ : Int) ((atF N z).to_ : Int) false).length) := by
  obtain ⟨d0, dF, dK⟩ := double_at h0
  obtain ⟨o1, o2, o3, o4⟩ := at_ok h h0
  have hT : takeN (doubleN N z) z = delN (doubleN N z) (atF N z).line (atK N z) := by unfold takeN; rw [if_pos d0, dF, dK]
  have hne : (doubleN N z).ends = N.ends := by
    unfold doubleN
    split <;> rfl
  have ho : ∀ q, q ≠ (atF N z).line → (takeN (doubleN N z) z).L q = N.L q := fun q hq => by
    rw [hT]
    show setL _ _ _ q = _
    rw [setL_other _ _ hq]
    unfold doubleN
    split
    · exact setL_other _ _ hq
    · rfl
  have hl : ((takeN (doubleN N z) z).L (atF N z).line).length = if (N.L (atF N z).line).length = 32 then 31 else (N.L (atF N z).line).length := by
    rw [hT]
    show (setL _ _ _ _).length = _
    have hf := h.full (atF N z).line
    by_cases hd : doubleE N z = 0
    · have hf2 : (N.L (atF N z).line).length < 32 := by
        unfold doubleE at hd
        rw [if_pos h0] at hd
        split at hd <;> omega
      have e : (doubleN N z).L (atF N z).line = N.L (atF N z).line ++ [(atF N z).b] := by
        unfold doubleN
        rw [if_pos hd]
        exact setL_same _ _ _
      rw [setL_same, e, List.length_eraseIdx_of_lt (by rw [List.length_append]; omega), List.length_append, if_neg (by omega)]
      simp
    · have hf2 : (N.L (atF N z).line).length = 32 := by
        unfold doubleE at hd
        rw [if_pos h0] at hd
        split at hd
        · omega
        · exact absurd rfl hd
      have e : (doubleN N z).L = N.L := by unfold doubleN; rw [if_neg hd]
      rw [setL_same, e, List.length_eraseIdx_of_lt (by omega), if_pos hf2, hf2]
  have hends : (takeN (doubleN N z) z).ends = N.ends := by rw [hT]; exact hne
  have m1 : onlyN (flN N) ((atF N z).from_ : Int) ((atF N z).to_ : Int) false = lineF N.L (atF N z).line := only_mine o1
  have m2 : onlyN (flN (takeN (doubleN N z) z)) ((atF N z).from_ : Int) ((atF N z).to_ : Int) false = lineF (takeN (doubleN N z) z).L (atF N z).line := by
    unfold flN
    rw [hends]
    exact only_mine o1
  rw [m1, m2, lineF_length, lineF_length]
  refine ⟨?_, h.full _, hl⟩
  unfold flN
  rw [hends]
  exact only_others _ (fun q _ hq => ho q (fun e => hq (by rw [e]; exact ⟨rfl, rfl⟩)))

end Go.Proofs.Ytahooohokdbnpaa.Pl
