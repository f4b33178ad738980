
/-
  The law NetAdds, plain: nothing comes and nothing is lost; and what holds of both rows while the net goes on.
-/
import Derived.Test.YtahooohokdbnpaaRoomP
import Derived.Test.YtahooohokdbnpaaBagN
set_option linter.unusedVariables false
set_option linter.unusedSimpArgs false
namespace Go.Proofs.Ytahooohokdbnpaa
open Go.RowKit Go.Shelf Go.Maps Pl

/-! ## plain -/
theorem push_perm {N : Nt} {p : Nat × Nat} (hp : p ∈ linesOf N.ends) (l : List UInt8) : (flN (pushN N p l)).Perm (⟨p.1, p.2, l⟩ :: flN N) := by
  obtain ⟨O1, O2, hO⟩ := List.append_of_mem hp
  have hn := nodup_linesOf N.ends
  have e1 : flN (pushN N p l) = flightsO O1 N.L ++ ((N.L p ++ [l]).map (Fl.mk p.1 p.2) ++ flightsO O2 N.L) := by
    unfold flN flightsN pushN
    rw [hO] at hn ⊢
    exact flights_cut N.L hn _
  have e2 : flN N = flightsO O1 N.L ++ ((N.L p).map (Fl.mk p.1 p.2) ++ flightsO O2 N.L) := by
    unfold flN flightsN
    rw [hO, flightsO_app, flightsO_cons]
    rfl
  rw [e1, e2, List.map_append]
  simp only [List.map_cons, List.map_nil, List.append_assoc, List.singleton_append]
  exact (List.Perm.append_left _ List.perm_middle).trans List.perm_middle
theorem take_perm {N : Nt} {z : Int} (h0 : atE N z = 0) : (flN N).Perm (atF N z :: flN (takeN N z)) := by
  obtain ⟨O1, p, O2, k, hO, hz, hk, hf, hK⟩ := at_split h0
  have hn := nodup_linesOf N.ends
  have hT : takeN N z = delN N p k := by unfold takeN; rw [if_pos h0, hK, hf]; rfl
  have e1 : flN (delN N p k) = flightsO O1 N.L ++ (((N.L p).eraseIdx k).map (Fl.mk p.1 p.2) ++ flightsO O2 N.L) := by
    unfold flN flightsN delN
    rw [hO] at hn ⊢
    exact flights_cut N.L hn _
  have e2 : flN N = flightsO O1 N.L ++ ((N.L p).map (Fl.mk p.1 p.2) ++ flightsO O2 N.L) := by
    unfold flN flightsN
    rw [hO, flightsO_app, flightsO_cons]
    rfl
  rw [hT, e1, e2, hf]
  have e3 : N.L p = (N.L p).take k ++ (N.L p).getD k [] :: (N.L p).drop (k + 1) := by
    rw [List.getD_eq_getElem?_getD, List.getElem?_eq_getElem hk, Option.getD_some, List.getElem_cons_drop, List.take_append_drop]
  have e4 : (N.L p).eraseIdx k = (N.L p).take k ++ (N.L p).drop (k + 1) := List.eraseIdx_eq_take_drop_succ _ _
  rw [e4]
  conv => lhs; rw [e3]
  rw [List.map_append, List.map_append, List.map_cons]
  simp only [List.append_assoc, List.cons_append]
  refine (List.Perm.append_left _ ?_).trans List.perm_middle
  exact List.perm_middle
def goneN (fs : List Fl) (z : Int) : List Fl := fs.filter (fun f => decide ((f.to_ : Int) = z))
theorem goneN_snoc (fs : List Fl) (z : Int) {k : Nat} (hk : k < fs.length) : goneN (fs.take (k + 1)) z = if ((fs.getD k fl0).to_ : Int) = z then goneN (fs.take k) z ++ [fs.getD k fl0] else goneN (fs.take k) z := by
  rw [List.take_succ_eq_append_getElem hk, List.getD_eq_getElem?_getD, List.getElem?_eq_getElem hk, Option.getD_some]
  unfold goneN
  rw [List.filter_append, List.filter_cons]
  by_cases h : (((fs[k]).to_ : Nat) : Int) = z
  · rw [if_pos h, if_pos (by simp [h])]; simp
  · rw [if_neg h, if_neg (by simp [h])]; simp
theorem gone_kept (z : Int) : ∀ fs : List Fl, fs.Perm (goneN fs z ++ keptN fs z)
  | [] => List.Perm.nil
  | f :: fs => by
    have ih := gone_kept z fs
    unfold goneN keptN at ih ⊢
    rw [List.filter_cons, List.filter_cons]
    by_cases h : (f.to_ : Int) = z
    · rw [if_pos (by simp [h]), if_neg (by simp [h]), List.cons_append]
      exact ih.cons f
    · rw [if_neg (by simp [h]), if_pos (by simp [h])]
      exact (ih.cons f).trans List.perm_middle.symm
theorem clear_perm (N : Nt) (z : Int) : (flN N).Perm (goneN (flN N) z ++ flN (clearN N z)) := by
  rw [clear_kept]
  exact gone_kept z _
theorem send_perm (N : Nt) (a b : Int) (l : List UInt8) : if sendE N a b l.length = 0 then ∃ p q : Nat, a = (p : Int) ∧ b = (q : Int) ∧ (flN (sendN N a b l)).Perm (⟨p, q, l⟩ :: flN N) else flN (sendN N a b l) = flN N := by
  split
  · rename_i h
    have ht : twoB N a b = true := by
      unfold sendE at h
      split at h
      · rename_i h1
        simp only [Bool.and_eq_true] at h1
        exact h1.1
      · omega
    simp only [twoB, Bool.and_eq_true, decide_eq_true_eq] at ht
    obtain ⟨⟨ha, hb⟩, _⟩ := ht
    have ha' := (endB_iff N a).1 ha
    have hb' := (endB_iff N b).1 hb
    refine ⟨a.toNat, b.toNat, by omega, by omega, ?_⟩
    have e : sendN N a b l = pushN N (pr a b) l := by unfold sendN; rw [if_pos h]
    rw [e]
    exact push_perm (pr_mem ha hb) l
  · rename_i h
    unfold sendN
    rw [if_neg h]
    split <;> rfl
theorem double_perm {N : Nt} (h : OkN N) (z : Int) : if doubleE N z = 0 then atE N z = 0 ∧ (flN (doubleN N z)).Perm (atF N z :: flN N) else flN (doubleN N z) = flN N := by
  split
  · rename_i h1
    have h0 : atE N z = 0 := by
      unfold doubleE at h1
      split at h1
      · assumption
      · exact h1
    have e : doubleN N z = pushN N (atF N z).line (atF N z).b := by unfold doubleN; rw [if_pos h1]
    rw [e]
    exact ⟨h0, push_perm (at_ok h h0).1 _⟩
  · rename_i h1
    unfold doubleN
    rw [if_neg h1]

/-! ## both rows -/
/-- bytes that a row of flights may have: the arguments', or such as the call itself has made -/
def EB (w W : World) (A : Option Addr) (c : Nat) (l : List UInt8) : Prop := By w A l ∨ Bs 5 W (.slice A l.length c) l
theorem EB.by_ {w W : World} {A : Option Addr} {c : Nat} {l : List UInt8} (h : EB w W A c l) (hE : Ext w W) : By W A l := by
  rcases h with h | h
  · exact h.ext hE
  · obtain ⟨A', c', e, hb, _⟩ := h.by_
    cases e
    exact hb
theorem EB.chg {w W W' : World} {S : Nat → Prop} {A : Option Addr} {c : Nat} {l : List UInt8} (h : EB w W A c l) (hC : Chg S W W') (hS : ∀ k cur, S k → ¬ Blk W k 5 cur) : EB w W' A c l := by
  rcases h with h | h
  · exact .inl h
  · exact .inr (h.chg hC hS)
theorem CyP.mono {P Q : Option Addr → Nat → List UInt8 → Prop} {cs : List Value} {fs : List Fl} (h : CyP P cs fs) (hPQ : ∀ A c l, P A c l → Q A c l) : CyP Q cs fs := by
  obtain ⟨h1, h2⟩ := h
  refine ⟨h1, fun i hi => ?_⟩
  obtain ⟨Ab, cb, k0, k1, k2, k3⟩ := h2 i hi
  exact ⟨Ab, cb, k0, k1, k2, hPQ _ _ _ k3⟩
theorem row_typ {A B : World} {S : Nat → Prop} {N : Nat} {e : TypeId} {sz n : Nat} {v : Value} {xs : List Value} (h : A.ownsRow N e sz v n xs) (hC : Chg S A B) (hS : ∀ k cur, S k → ¬ Blk A k e cur) : B.ownsRow N e sz v n xs := by
  obtain ⟨h2, h3⟩ := h
  refine ⟨h2, ?_⟩
  rcases h3 with h3 | ⟨g, cap, cur, rfl, hb, hh, r⟩
  · exact .inl h3
  · exact .inr ⟨g, cap, cur, rfl, hb, hC.blk (t := e) hh (fun hs => hS g cur hs hh), r⟩
theorem row_blk {A : World} {N : Nat} {e : TypeId} {sz n : Nat} {v : Value} {xs : List Value} (h : A.ownsRow N e sz v n xs) {k : Nat} (hk : v.ownBlock = some k) : ∃ cur, Blk A k e cur := by
  obtain ⟨h2, h3⟩ := h
  rcases h3 with ⟨rfl, _⟩ | ⟨g, cap, cur, rfl, hb, hh, r⟩
  · cases hk
  · cases hk
    exact ⟨cur, hh⟩
/-- the net, and what went in and out -/
def Ad (w W : World) (S : Nat → Prop) (g nb : Nat) (N : Nt) (vi vo : Value) (ci co : List Value) (fi fo : List Fl) : Prop :=
  NetAt W S g nb N ∧ W.ownsRow w.heap.size 45 3 vi fi.length ci ∧ CyP (EB w W) ci fi ∧ W.ownsRow w.heap.size 45 3 vo fo.length co ∧ CyP (EB w W) co fo ∧ (∀ k, vi.ownBlock = some k → vo.ownBlock ≠ some k) ∧ (∀ k, S k → w.heap.size ≤ k) ∧ Ext w W
section
variable {w W W' : World} {S S' : Nat → Prop} {g nb nb' : Nat} {N N' : Nt} {vi vo : Value} {ci co : List Value} {fi fo : List Fl}
theorem Ad.net (h : Ad w W S g nb N vi vo ci co fi fo) (hN : NetAt W' S' g nb' N') (hG : ∀ k, S' k → S k ∨ W.heap.size ≤ k) (hC : Chg S W W') : Ad w W' S' g nb' N' vi vo ci co fi fo := by
  obtain ⟨h1, h2, h3, h4, h5, h6, h7, h8⟩ := h
  have ht := h1.typ (t := 45) (by decide) (by decide)
  exact ⟨hN, row_typ h2 hC ht, h3.mono (fun A c l h => h.chg hC h1.bytes), row_typ h4 hC ht, h5.mono (fun A c l h => h.chg hC h1.bytes), h6, fun k hk => (hG k hk).elim (h7 k) (fun h => Nat.le_trans h8.size h), hC.ext h8 h7⟩
theorem Ad.ext (h : Ad w W S g nb N vi vo ci co fi fo) (hE : Ext W W') : Ad w W' S g nb N vi vo ci co fi fo :=
  h.net (h.1.ext hE) (fun k hk => .inl hk) (Chg.of_ext hE)
theorem Ad.mono (h : Ad w W S g nb N vi vo ci co fi fo) {nb' : Nat} (hn : nb ≤ nb') : Ad w W S g nb' N vi vo ci co fi fo := ⟨h.1.mono hn, h.2⟩
theorem Ad.swap (h : Ad w W S g nb N vi vo ci co fi fo) : Ad w W S g nb N vo vi co ci fo fi := by
  obtain ⟨h1, h2, h3, h4, h5, h6, h7, h8⟩ := h
  exact ⟨h1, h4, h5, h2, h3, fun k hk hi => h6 k hi hk, h7, h8⟩
theorem Ad.pushI (h : Ad w W S g nb N vi vo ci co fi fo) (f : Fl) {Ab : Option Addr} {cb : Nat} (hb : EB w W Ab cb f.b) {v4 : Value} {w4 : World}
    (hown : w4.ownsRow w.heap.size 45 3 v4 (fi.length + 1) (ci ++ [.int .i64 (f.from_ : Int), .int .i64 (f.to_ : Int), .slice Ab f.b.length cb]))
    (hG : (W.alloc (.cells #[.int .i64 (f.from_ : Int), .int .i64 (f.to_ : Int), .slice Ab f.b.length cb] 45)).grownBy w4 vi.ownBlock)
    (hat : v4.ownBlock = vi.ownBlock ∨ v4.ownBlock = some (W.alloc (.cells #[.int .i64 (f.from_ : Int), .int .i64 (f.to_ : Int), .slice Ab f.b.length cb] 45)).heap.size) :
    Ad w w4 S g nb N v4 vo (ci ++ [.int .i64 (f.from_ : Int), .int .i64 (f.to_ : Int), .slice Ab f.b.length cb]) co (fi ++ [f]) fo ∧ Chg (fun k => vi.ownBlock = some k) W w4 := by
  have hX := ext_new W (.cells #[.int .i64 (f.from_ : Int), .int .i64 (f.to_ : Int), .slice Ab f.b.length cb] 45)
  have h' := h.ext hX
  have hb' := hb.chg (S := fun _ => False) (Chg.of_ext hX) (fun _ _ h => h.elim)
  generalize W.alloc (.cells #[.int .i64 (f.from_ : Int), .int .i64 (f.to_ : Int), .slice Ab f.b.length cb] 45) = W1 at *
  obtain ⟨h1, h2, h3, h4, h5, h6, h7, h8⟩ := h'
  have hC : Chg (fun k => vi.ownBlock = some k) W1 w4 := Chg.of_grown hG (fun k e => e)
  have hu8 : ∀ k cur, vi.ownBlock = some k → ¬ Blk W1 k 5 cur := fun k cur hk hx => by
    obtain ⟨cur', hf⟩ := row_blk h2 hk
    exact absurd (hf.type hx).1 (by decide)
  have hst : ∀ k, S k → ¬ vi.ownBlock = some k := fun k hk e => by
    obtain ⟨cur', hf⟩ := row_blk h2 e
    exact h1.typ (t := 45) (by decide) (by decide) k cur' hk hf
  have h2l := World.ownsRow.lt h2
  have h4l := World.ownsRow.lt h4
  refine ⟨⟨h1.chg hC hst hu8, by rw [List.length_append]; exact hown, (h3.mono (fun A c l h => h.chg hC hu8)).app (CyP.one (EB w w4) f cb (hb'.chg hC hu8)), ?_, h5.mono (fun A c l h => h.chg hC hu8), ?_, h7, h8.grown hG (fun k e => (h2l k e).1)⟩, (Chg.of_ext hX).trans hC (fun k h => .inl h)⟩
  · rcases hvo : vo.ownBlock with _ | k
    · exact World.ownsRow.kept h4 hG (.inl hvo)
    · exact World.ownsRow.kept h4 hG (.inr (fun e => h6 k (by rw [← e]; exact hvo) hvo))
  · intro k hk hk'
    rcases hat with e | e
    · exact h6 k (by rw [← e]; exact hk) hk'
    · rw [e] at hk
      cases hk
      have := (h4l _ hk').2
      omega
end
/-- such a row, read -/
theorem row_flP {P : Option Addr → Nat → List UInt8 → Prop} {W : World} {B : Nat} {v : Value} {cs : List Value} {fs : List Fl} (h : W.ownsRow B 45 3 v fs.length cs) (hc : CyP P cs fs) : ∃ A c, v = .slice A fs.length c ∧ FlP P W A fs := by
  obtain ⟨h1, h2⟩ := h
  rcases h2 with ⟨rfl, h0⟩ | ⟨g, cap, cur, rfl, hb, hh, hnc, hm, hs, ht⟩
  · exact ⟨none, 0, by rw [h0], .inl (List.eq_nil_of_length_eq_zero h0)⟩
  · refine ⟨_, cap, rfl, .inr ⟨g, 0, rfl, fun i hi => ?_⟩⟩
    obtain ⟨Ab, cb, k0, k1, k2, k3⟩ := hc.2 i hi
    have hcell : ∀ j x, j < fs.length * 3 → cs[j]? = some x → W.cell? ⟨g, 0 + j, none⟩ = some x := fun j x hj hx => by
      rw [Nat.zero_add, Blk.cell (t := 45) hh, ← Array.getElem?_toList]
      rw [← ht, List.getElem?_take_of_lt hj] at hx
      exact hx
    exact ⟨Ab, cb, hcell (i * 3) _ (by omega) (by rw [Nat.mul_comm]; exact k0), hcell (i * 3 + 1) _ (by omega) (by rw [Nat.mul_comm i 3]; exact k1), hcell (i * 3 + 2) _ (by omega) (by rw [Nat.mul_comm i 3]; exact k2), k3⟩
theorem FlP.mono {P Q : Option Addr → Nat → List UInt8 → Prop} {w : World} {A : Option Addr} {fs : List Fl} (h : FlP P w A fs) (hPQ : ∀ A c l, P A c l → Q A c l) : FlP Q w A fs := by
  rcases h with h | ⟨gr, o, e, hi⟩
  · exact .inl h
  · refine .inr ⟨gr, o, e, fun i hl => ?_⟩
    obtain ⟨Ab, cb, h0, h1, h2, h3⟩ := hi i hl
    exact ⟨Ab, cb, h0, h1, h2, hPQ _ _ _ h3⟩
theorem FlX.eb {w W : World} {A : Option Addr} {fs : List Fl} (h : FlX W A fs) : FlP (EB w W) W A fs := by
  rcases h with h | ⟨gr, o, e, hi⟩
  · exact .inl h
  · refine .inr ⟨gr, o, e, fun i hl => ?_⟩
    obtain ⟨Ab, cb, h0, h1, h2, h3⟩ := hi i hl
    exact ⟨Ab, cb, h0, h1, h2, .inr h3⟩

end Go.Proofs.Ytahooohokdbnpaa
