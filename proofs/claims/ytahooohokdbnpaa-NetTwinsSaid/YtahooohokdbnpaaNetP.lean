
/-
  A net, plain: lines, flights in their order, places; what is done to it. No program in sight.
-/
import Derived.Test.YtahooohokdbnpaaPlain
set_option linter.unusedVariables false
set_option linter.unusedSimpArgs false
namespace Go.Proofs.Ytahooohokdbnpaa.Pl

/-! ## a net, plain -/
/-- a flight -/
structure Fl where
  from_ : Nat
  to_ : Nat
  b : List UInt8
/-- what is in flight from an end to another one -/
abbrev Lns := Nat × Nat → List (List UInt8)
/-- the lines of e ends, in their order -/
def linesOf (e : Nat) : List (Nat × Nat) := (List.range e).flatMap fun a => (List.range e).map fun b => (a + 1, b + 1)
def lineF (L : Lns) (p : Nat × Nat) : List Fl := (L p).map (Fl.mk p.1 p.2)
def flightsO (O : List (Nat × Nat)) (L : Lns) : List Fl := O.flatMap (lineF L)
def flightsN (e : Nat) (L : Lns) : List Fl := flightsO (linesOf e) L
def Fl.line (f : Fl) : Nat × Nat := (f.from_, f.to_)
def setL (L : Lns) (p : Nat × Nat) (l : List (List UInt8)) : Lns := fun q => if q = p then l else L q
theorem setL_same (L : Lns) (p : Nat × Nat) (l : List (List UInt8)) : setL L p l p = l := by simp [setL]
theorem setL_other (L : Lns) {p q : Nat × Nat} (l : List (List UInt8)) (h : q ≠ p) : setL L p l q = L q := by simp [setL, h]

theorem mem_linesOf (e : Nat) (p : Nat × Nat) : p ∈ linesOf e ↔ (1 ≤ p.1 ∧ p.1 ≤ e) ∧ 1 ≤ p.2 ∧ p.2 ≤ e := by
  obtain ⟨a, b⟩ := p
  simp only [linesOf, List.mem_flatMap, List.mem_range, List.mem_map, Prod.mk.injEq]
  constructor
  · rintro ⟨x, hx, y, hy, rfl, rfl⟩; omega
  · rintro ⟨⟨h1, h2⟩, h3, h4⟩; exact ⟨a - 1, by omega, b - 1, by omega, by omega, by omega⟩
theorem nodup_linesOf (e : Nat) : (linesOf e).Nodup := by
  unfold linesOf List.Nodup
  rw [List.pairwise_flatMap]
  refine ⟨fun a _ => ?_, ?_⟩
  · rw [List.pairwise_map]
    exact List.nodup_range.imp (fun h e => h (by simpa using e))
  · refine List.nodup_range.imp (fun {a a'} h x hx y hy e => ?_)
    simp only [List.mem_map] at hx hy
    obtain ⟨_, _, rfl⟩ := hx
    obtain ⟨_, _, rfl⟩ := hy
    simp at e
    exact h e.1

theorem lineF_line (L : Lns) (p : Nat × Nat) : ∀ f ∈ lineF L p, f.line = p := by
  intro f hf
  simp only [lineF, List.mem_map] at hf
  obtain ⟨b, _, rfl⟩ := hf
  rfl
theorem lineF_length (L : Lns) (p : Nat × Nat) : (lineF L p).length = (L p).length := by simp [lineF]
/-- a place among the flights: a line, and a place in it -/
theorem place_split (L : Lns) : ∀ (O : List (Nat × Nat)) (i : Nat), i < (flightsO O L).length → ∃ O1 p O2 k, O = O1 ++ p :: O2 ∧ i = (flightsO O1 L).length + k ∧ k < (L p).length
  | [], i, h => by simp [flightsO] at h
  | q :: O, i, h => by
    by_cases hq : i < (L q).length
    · exact ⟨[], q, O, i, rfl, by simp [flightsO], hq⟩
    · have h' : i - (L q).length < (flightsO O L).length := by
        simp only [flightsO, List.flatMap_cons, List.length_append, lineF_length] at h ⊢
        omega
      obtain ⟨O1, p, O2, k, rfl, hk, hl⟩ := place_split L O _ h'
      refine ⟨q :: O1, p, O2, k, rfl, ?_, hl⟩
      simp only [flightsO, List.flatMap_cons, List.length_append, lineF_length] at hk ⊢
      omega
theorem flightsO_app (L : Lns) (O1 O2 : List (Nat × Nat)) : flightsO (O1 ++ O2) L = flightsO O1 L ++ flightsO O2 L := by simp [flightsO]
theorem flightsO_cons (L : Lns) (p : Nat × Nat) (O : List (Nat × Nat)) : flightsO (p :: O) L = lineF L p ++ flightsO O L := by simp [flightsO]
theorem flightsO_line (L : Lns) (O : List (Nat × Nat)) : ∀ f ∈ flightsO O L, f.line ∈ O := by
  intro f hf
  simp only [flightsO, List.mem_flatMap] at hf
  obtain ⟨p, hp, hf⟩ := hf
  rw [lineF_line L p f hf]
  exact hp
/-- .. it does not hang on lines that are not there -/
theorem flightsO_set (L : Lns) {p : Nat × Nat} (l : List (List UInt8)) {O : List (Nat × Nat)} (h : p ∉ O) : flightsO O (setL L p l) = flightsO O L := by
  induction O with
  | nil => rfl
  | cons q O ih =>
    simp only [List.mem_cons, not_or] at h
    rw [flightsO_cons, flightsO_cons, ih h.2]
    congr 1
    unfold lineF
    rw [setL_other L l (fun e => h.1 e.symm)]
/-- the flights, cut at a line -/
theorem flights_cut (L : Lns) {O1 O2 : List (Nat × Nat)} {p : Nat × Nat} (hn : (O1 ++ p :: O2).Nodup) (l : List (List UInt8)) :
    flightsO (O1 ++ p :: O2) (setL L p l) = flightsO O1 L ++ (l.map (Fl.mk p.1 p.2) ++ flightsO O2 L) := by
  have h1 : p ∉ O1 := fun h => by
    have := (List.nodup_append.1 hn).2.2 p h p (by simp)
    exact this rfl
  have h2 : p ∉ O2 := ((List.nodup_cons.1 (List.nodup_append.1 hn).2.1)).1
  rw [flightsO_app, flightsO_cons, flightsO_set L l h1, flightsO_set L l h2]
  unfold lineF
  rw [setL_same]
theorem setL_self (L : Lns) (p : Nat × Nat) : setL L p (L p) = L := by
  funext q
  unfold setL
  split
  · rename_i h; rw [h]
  · rfl
theorem flights_at (L : Lns) {O1 O2 : List (Nat × Nat)} {p : Nat × Nat} {k : Nat} (hk : k < (L p).length) : (flightsO (O1 ++ p :: O2) L)[(flightsO O1 L).length + k]? = some ⟨p.1, p.2, (L p).getD k []⟩ := by
  rw [flightsO_app, flightsO_cons, List.getElem?_append_right (by omega), List.getElem?_append_left (by rw [lineF_length]; omega)]
  simp [lineF, List.getD_eq_getElem?_getD, hk]

/-- how many of its line stand ahead of a flight -/
def sameB (f g : Fl) : Bool := decide (f.from_ = g.from_) && decide (f.to_ = g.to_)
theorem sameB_line (f g : Fl) : sameB f g = decide (f.line = g.line) := by
  unfold sameB Fl.line
  rw [Bool.eq_iff_iff]
  simp
def aheadN (F : List Fl) (i : Nat) (f : Fl) : Nat := ((F.take i).filter (fun g => sameB g f)).length
theorem ahead_cut (L : Lns) {O1 O2 : List (Nat × Nat)} {p : Nat × Nat} (hn : (O1 ++ p :: O2).Nodup) {k : Nat} (hk : k ≤ (L p).length) (b : List UInt8) :
    aheadN (flightsO (O1 ++ p :: O2) L) ((flightsO O1 L).length + k) ⟨p.1, p.2, b⟩ = k := by
  have h1 : p ∉ O1 := fun h => by
    have := (List.nodup_append.1 hn).2.2 p h p (by simp)
    exact this rfl
  unfold aheadN
  rw [flightsO_app, flightsO_cons, List.take_append, List.take_of_length_le (by omega), show (flightsO O1 L).length + k - (flightsO O1 L).length = k by omega, List.take_append_of_le_length (by rw [lineF_length]; omega), List.filter_append]
  have e1 : (flightsO O1 L).filter (fun g => sameB g ⟨p.1, p.2, b⟩) = [] := by
    rw [List.filter_eq_nil_iff]
    intro f hf
    rw [sameB_line, decide_eq_true_eq]
    intro e
    have := flightsO_line L O1 f hf
    rw [e] at this
    exact h1 this
  have e2 : ((lineF L p).take k).filter (fun g => sameB g ⟨p.1, p.2, b⟩) = (lineF L p).take k := by
    rw [List.filter_eq_self]
    intro f hf
    rw [sameB_line, decide_eq_true_eq]
    exact lineF_line L p f (List.mem_of_mem_take hf)
  rw [e1, e2, List.nil_append, List.length_take, lineF_length]
  omega

/-! ## what is done to a net -/
structure Nt where
  ends : Nat
  lost : Nat
  L : Lns
def fl0 : Fl := ⟨0, 0, []⟩
def endB (N : Nt) (z : Int) : Bool := decide (1 ≤ z) && decide (z ≤ (N.ends : Int))
def pr (a b : Int) : Nat × Nat := (a.toNat, b.toNat)
def twoB (N : Nt) (a b : Int) : Bool := endB N a && endB N b && decide (a ≠ b)
def lineN (N : Nt) (a b : Int) : Nat := if endB N a && endB N b then (N.L (pr a b)).length else 0
def pushN (N : Nt) (p : Nat × Nat) (l : List UInt8) : Nt := { N with L := setL N.L p (N.L p ++ [l]) }
def sendE (N : Nt) (a b : Int) (n : Nat) : Nat := if twoB N a b && decide (n ≤ 1048576) then (if 32 ≤ lineN N a b then 5 else 0) else 2
def sendN (N : Nt) (a b : Int) (l : List UInt8) : Nt :=
  if sendE N a b l.length = 0 then pushN N (pr a b) l else if sendE N a b l.length = 5 then { N with lost := N.lost + 1 } else N
def flN (N : Nt) : List Fl := flightsN N.ends N.L
def atE (N : Nt) (z : Int) : Nat := if z < 0 then 2 else if z.toNat < (flN N).length then 0 else 6
def atF (N : Nt) (z : Int) : Fl := if atE N z = 0 then (flN N).getD z.toNat fl0 else fl0
def atK (N : Nt) (z : Int) : Nat := if atE N z = 0 then aheadN (flN N) z.toNat (atF N z) else 0
def delN (N : Nt) (p : Nat × Nat) (k : Nat) : Nt := { N with L := setL N.L p ((N.L p).eraseIdx k) }
def takeN (N : Nt) (z : Int) : Nt := if atE N z = 0 then delN N (atF N z).line (atK N z) else N
def doubleE (N : Nt) (z : Int) : Nat := if atE N z = 0 then (if 32 ≤ (N.L (atF N z).line).length then 5 else 0) else atE N z
def doubleN (N : Nt) (z : Int) : Nt := if doubleE N z = 0 then pushN N (atF N z).line (atF N z).b else N
def clearL (L : Lns) (z n : Nat) : Lns := fun q => if 1 ≤ q.1 ∧ q.1 ≤ n ∧ q.2 = z then [] else L q
def clearK (L : Lns) (z : Nat) : Nat → Nat
  | 0 => 0
  | n + 1 => clearK L z n + (L (n + 1, z)).length
def clearC (N : Nt) (z : Int) : Nat := if endB N z then clearK N.L z.toNat N.ends else 0
def clearN (N : Nt) (z : Int) : Nt := if endB N z then { N with L := clearL N.L z.toNat N.ends } else N
def newN (e : Nat) : Nt := ⟨e, 0, fun _ => []⟩

/-- a net as it may be -/
structure OkN (N : Nt) : Prop where
  e1 : 1 ≤ N.ends
  e5 : N.ends ≤ 5
  out : ∀ p, p ∉ linesOf N.ends → N.L p = []
  self_ : ∀ a, N.L (a, a) = []
  full : ∀ p, (N.L p).length ≤ 32
  big : ∀ p, ∀ l ∈ N.L p, l.length ≤ 1048576

theorem okN_new {e : Nat} (h1 : 1 ≤ e) (h5 : e ≤ 5) : OkN (newN e) := ⟨h1, h5, fun _ _ => rfl, fun _ => rfl, fun _ => by simp [newN], fun p l h => by simp [newN] at h⟩
theorem endB_iff (N : Nt) (z : Int) : endB N z = true ↔ 1 ≤ z ∧ z ≤ (N.ends : Int) := by simp [endB]
theorem pr_mem {N : Nt} {a b : Int} (ha : endB N a = true) (hb : endB N b = true) : pr a b ∈ linesOf N.ends := by
  rw [endB_iff] at ha hb
  rw [mem_linesOf]
  simp only [pr]
  omega
theorem okN_push {N : Nt} (h : OkN N) {p : Nat × Nat} (hp : p ∈ linesOf N.ends) (hne : p.1 ≠ p.2) (hf : (N.L p).length < 32) {l : List UInt8} (hl : l.length ≤ 1048576) : OkN (pushN N p l) := by
  refine ⟨h.e1, h.e5, fun q hq => ?_, fun a => ?_, fun q => ?_, fun q x hx => ?_⟩
  · have : q ≠ p := fun e => hq (by rw [e]; exact hp)
    show setL N.L p _ q = []
    rw [setL_other _ _ this]
    exact h.out q hq
  · have : (a, a) ≠ p := fun e => hne (by rw [← e])
    show setL N.L p _ (a, a) = []
    rw [setL_other _ _ this]
    exact h.self_ a
  · show (setL N.L p _ q).length ≤ 32
    by_cases e : q = p
    · subst e; rw [setL_same, List.length_append]; simp; omega
    · rw [setL_other _ _ e]; exact h.full q
  · have hx' : x ∈ setL N.L p (N.L p ++ [l]) q := hx
    by_cases e : q = p
    · subst e
      rw [setL_same, List.mem_append] at hx'
      rcases hx' with hx' | hx'
      · exact h.big _ x hx'
      · simp at hx'; subst hx'; exact hl
    · rw [setL_other _ _ e] at hx'; exact h.big q x hx'
theorem okN_set {N : Nt} (h : OkN N) {p : Nat × Nat} {l : List (List UInt8)} (hs : ∀ x ∈ l, x ∈ N.L p) (hl : l.length ≤ (N.L p).length) : OkN { N with L := setL N.L p l } := by
  have nil_of : N.L p = [] → l = [] := fun e => by
    cases l with
    | nil => rfl
    | cons x t => have := hs x (by simp); rw [e] at this; simp at this
  refine ⟨h.e1, h.e5, fun q hq => ?_, fun a => ?_, fun q => ?_, fun q x hx => ?_⟩
  · show setL N.L p l q = []
    by_cases e : q = p
    · subst e; rw [setL_same]; exact nil_of (h.out _ hq)
    · rw [setL_other _ _ e]; exact h.out q hq
  · show setL N.L p l (a, a) = []
    by_cases e : (a, a) = p
    · subst e; rw [setL_same]; exact nil_of (h.self_ a)
    · rw [setL_other _ _ e]; exact h.self_ a
  · show (setL N.L p l q).length ≤ 32
    by_cases e : q = p
    · subst e; rw [setL_same]; have := h.full q; omega
    · rw [setL_other _ _ e]; exact h.full q
  · have hx' : x ∈ setL N.L p l q := hx
    by_cases e : q = p
    · subst e; rw [setL_same] at hx'; exact h.big _ x (hs x hx')
    · rw [setL_other _ _ e] at hx'; exact h.big q x hx'
theorem okN_del {N : Nt} (h : OkN N) (p : Nat × Nat) (k : Nat) : OkN (delN N p k) :=
  okN_set h (fun x hx => List.mem_of_mem_eraseIdx hx) (List.length_eraseIdx_le _ _)
theorem okN_send {N : Nt} (h : OkN N) (a b : Int) (l : List UInt8) : OkN (sendN N a b l) := by
  unfold sendN
  split
  · rename_i h0
    unfold sendE at h0
    split at h0
    · rename_i h1
      rw [Bool.and_eq_true] at h1
      obtain ⟨h1, h2⟩ := h1
      unfold twoB at h1
      simp only [Bool.and_eq_true] at h1
      have hm := pr_mem h1.1.1 h1.1.2
      have e1 := (endB_iff N a).1 h1.1.1
      have e2 := (endB_iff N b).1 h1.1.2
      have e3 : a ≠ b := of_decide_eq_true h1.2
      split at h0
      · omega
      · rename_i h3
        have : lineN N a b = (N.L (pr a b)).length := by unfold lineN; rw [h1.1.1, h1.1.2]; rfl
        exact okN_push h hm (by simp only [pr]; omega) (by omega) (by simpa using h2)
    · omega
  · split
    · exact ⟨h.e1, h.e5, h.out, h.self_, h.full, h.big⟩
    · exact h
/-- a flight that is there -/
theorem at_split {N : Nt} {z : Int} (h0 : atE N z = 0) : ∃ O1 p O2 k, linesOf N.ends = O1 ++ p :: O2 ∧ z.toNat = (flightsO O1 N.L).length + k ∧ k < (N.L p).length ∧ atF N z = ⟨p.1, p.2, (N.L p).getD k []⟩ ∧ atK N z = k := by
  have hlt : z.toNat < (flN N).length := by
    unfold atE at h0
    split at h0
    · omega
    · split at h0
      · assumption
      · omega
  obtain ⟨O1, p, O2, k, hO, hz, hk⟩ := place_split N.L (linesOf N.ends) z.toNat hlt
  have hf : atF N z = ⟨p.1, p.2, (N.L p).getD k []⟩ := by
    unfold atF
    rw [if_pos h0, List.getD_eq_getElem?_getD]
    unfold flN flightsN
    rw [hO, hz, flights_at N.L hk]
    rfl
  refine ⟨O1, p, O2, k, hO, hz, hk, hf, ?_⟩
  unfold atK
  rw [if_pos h0, hf]
  unfold flN flightsN
  rw [hO, hz]
  exact ahead_cut N.L (by rw [← hO]; exact nodup_linesOf _) (by omega) _
theorem okN_take {N : Nt} (h : OkN N) (z : Int) : OkN (takeN N z) := by
  unfold takeN
  split
  · exact okN_del h _ _
  · exact h
theorem at_ok {N : Nt} (h : OkN N) {z : Int} (h0 : atE N z = 0) : (atF N z).line ∈ linesOf N.ends ∧ (atF N z).from_ ≠ (atF N z).to_ ∧ (atF N z).b.length ≤ 1048576 ∧ atK N z < (N.L (atF N z).line).length := by
  obtain ⟨O1, p, O2, k, hO, hz, hk, hf, hK⟩ := at_split h0
  rw [hf, hK]
  refine ⟨by show p ∈ _; rw [hO]; simp, fun e => ?_, ?_, hk⟩
  · have := h.self_ p.1
    have e2 : p = (p.1, p.1) := Prod.ext rfl e.symm
    rw [← e2] at this
    rw [this] at hk
    simp at hk
  · show ((N.L p).getD k []).length ≤ _
    rw [List.getD_eq_getElem?_getD, List.getElem?_eq_getElem hk]
    exact h.big p _ (List.getElem_mem hk)
theorem okN_double {N : Nt} (h : OkN N) (z : Int) : OkN (doubleN N z) := by
  unfold doubleN
  split
  · rename_i h0
    unfold doubleE at h0
    split at h0
    · rename_i h1
      obtain ⟨a1, a2, a3, _⟩ := at_ok h h1
      split at h0
      · omega
      · exact okN_push h a1 a2 (by omega) a3
    · rename_i h1
      exact absurd h0 h1
  · exact h
theorem okN_clear {N : Nt} (h : OkN N) (z : Int) : OkN (clearN N z) := by
  unfold clearN
  split
  · refine ⟨h.e1, h.e5, fun q hq => ?_, fun a => ?_, fun q => ?_, fun q x hx => ?_⟩
    · show clearL N.L z.toNat N.ends q = []
      unfold clearL; split; rfl; exact h.out q hq
    · show clearL N.L z.toNat N.ends (a, a) = []
      unfold clearL; split; rfl; exact h.self_ a
    · show (clearL N.L z.toNat N.ends q).length ≤ 32
      unfold clearL; split; simp; exact h.full q
    · have hx' : x ∈ clearL N.L z.toNat N.ends q := hx
      unfold clearL at hx'
      split at hx'
      · simp at hx'
      · exact h.big q x hx'
  · exact h
theorem flN_length {N : Nt} (h : OkN N) : (flN N).length ≤ 800 := by
  have h1 : ∀ O : List (Nat × Nat), (flightsO O N.L).length ≤ 32 * O.length := by
    intro O
    induction O with
    | nil => simp [flightsO]
    | cons p O ih =>
      rw [flightsO_cons, List.length_append, lineF_length]
      have := h.full p
      simp only [List.length_cons]
      omega
  have h2 : (linesOf N.ends).length = N.ends * N.ends := by
    simp only [linesOf, List.length_flatMap, List.length_map, List.length_range]
    rw [List.map_const']
    simp
  have h3 := h1 (linesOf N.ends)
  rw [h2] at h3
  have h4 : N.ends * N.ends ≤ 5 * 5 := Nat.mul_le_mul h.e5 h.e5
  show (flightsO (linesOf N.ends) N.L).length ≤ 800
  omega

/-! ## going over the flights -/
theorem getD_of_some {α : Type} {l : List α} {i : Nat} {x d : α} (h : l[i]? = some x) : l.getD i d = x := by
  rw [List.getD_eq_getElem?_getD, h]; rfl
theorem ahead_step {e : Nat} {L : Lns} {s : Nat} (h : s + 1 < (flightsN e L).length) :
    aheadN (flightsN e L) (s + 1) ((flightsN e L).getD (s + 1) fl0) = if ((flightsN e L).getD (s + 1) fl0).line = ((flightsN e L).getD s fl0).line then aheadN (flightsN e L) s ((flightsN e L).getD s fl0) + 1 else 0 := by
  obtain ⟨O1, p, O2, k, hO, hz, hk⟩ := place_split L (linesOf e) (s + 1) h
  have hn := nodup_linesOf e
  unfold flightsN
  rw [hO] at hn ⊢
  rw [hz, getD_of_some (flights_at L hk), ahead_cut L hn (by omega)]
  cases k with
  | zero =>
    have hs : s < (flightsO O1 L).length := by omega
    have hf : (flightsO (O1 ++ p :: O2) L).getD s fl0 = (flightsO O1 L)[s] := by
      rw [flightsO_app, List.getD_eq_getElem?_getD, List.getElem?_append_left hs, List.getElem?_eq_getElem hs]; rfl
    have hm := flightsO_line L O1 _ (List.getElem_mem hs)
    have hp : p ∉ O1 := fun h => by
      have := (List.nodup_append.1 hn).2.2 p h p (by simp)
      exact this rfl
    rw [hf, if_neg (fun e => hp (by rw [show p = ((flightsO O1 L)[s]).line from e]; exact hm))]
  | succ k =>
    have hs : s = (flightsO O1 L).length + k := by omega
    rw [hs, getD_of_some (flights_at L (by omega)), if_pos (show (Fl.mk p.1 p.2 ((L p).getD (k + 1) [])).line = (Fl.mk p.1 p.2 ((L p).getD k [])).line from rfl), ahead_cut L hn (by omega)]
theorem ahead_zero (F : List Fl) (f : Fl) : aheadN F 0 f = 0 := by simp [aheadN]
theorem flights_pos {e : Nat} {L : Lns} {s : Nat} (h : s < (flightsN e L).length) : 1 ≤ ((flightsN e L).getD s fl0).from_ ∧ ((flightsN e L).getD s fl0).from_ ≤ e ∧ 1 ≤ ((flightsN e L).getD s fl0).to_ ∧ ((flightsN e L).getD s fl0).to_ ≤ e := by
  obtain ⟨O1, p, O2, k, hO, hz, hk⟩ := place_split L (linesOf e) s h
  have hm : p ∈ linesOf e := by rw [hO]; simp
  have := (mem_linesOf e p).1 hm
  unfold flightsN
  rw [hO, hz, getD_of_some (flights_at L hk)]
  exact ⟨this.1.1, this.1.2, this.2.1, this.2.2⟩
/-- what find's variables are when s flights have been gone over -/
def foundAt (F : List Fl) (s : Nat) : Fl := if s = 0 then fl0 else F.getD (s - 1) fl0
def aheadAt (F : List Fl) (s : Nat) : Nat := if s = 0 then 0 else aheadN F (s - 1) (F.getD (s - 1) fl0)
theorem aheadAt_le (F : List Fl) (s : Nat) : aheadAt F s ≤ F.length := by
  unfold aheadAt
  split
  · exact Nat.zero_le _
  · unfold aheadN
    refine Nat.le_trans (List.length_filter_le _ _) ?_
    rw [List.length_take]
    exact Nat.min_le_right _ _
theorem aheadAt_step {e : Nat} {L : Lns} {s : Nat} (h : s < (flightsN e L).length) :
    (aheadAt (flightsN e L) (s + 1) : Int) = (if ((flightsN e L).getD s fl0).line = (foundAt (flightsN e L) s).line then (aheadAt (flightsN e L) s : Int) else -1) + 1 := by
  cases s with
  | zero =>
    have := flights_pos h
    have e1 : aheadAt (flightsN e L) 1 = 0 := by unfold aheadAt; rw [if_neg (by decide)]; exact ahead_zero _ _
    rw [e1, if_neg]
    · rfl
    · intro e2
      have : ((flightsN e L).getD 0 fl0).from_ = 0 := congrArg Prod.fst e2
      omega
  | succ s =>
    have e1 : aheadAt (flightsN e L) (s + 1 + 1) = aheadN (flightsN e L) (s + 1) ((flightsN e L).getD (s + 1) fl0) := by unfold aheadAt; rw [if_neg (by omega)]; rfl
    have e2 : aheadAt (flightsN e L) (s + 1) = aheadN (flightsN e L) s ((flightsN e L).getD s fl0) := by unfold aheadAt; rw [if_neg (by omega)]; rfl
    have e3 : foundAt (flightsN e L) (s + 1) = (flightsN e L).getD s fl0 := by unfold foundAt; rw [if_neg (by omega)]; rfl
    rw [e1, e2, e3, ahead_step h]
    split
    · exact Int.natCast_succ _
    · rfl

end Go.Proofs.Ytahooohokdbnpaa.Pl
