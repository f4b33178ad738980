
/-
  Rows of flights that law04.flights has made, kept while a net changes.
-/
import Derived.Test.YtahooohokdbnpaaAsN
set_option linter.unusedVariables false
set_option linter.unusedSimpArgs false
namespace Go.Proofs.Ytahooohokdbnpaa
open Go.RowKit Go.Shelf Go.Maps Pl

attribute [local go_sem] Oper.semAt_some

theorem row_keep {A B : World} {S : Nat → Prop} {N : Nat} {e : TypeId} {sz n : Nat} {v : Value} {xs : List Value} (h : A.ownsRow N e sz v n xs) (hC : Chg S A B) (hS : ∀ k, S k → k < N ∨ A.heap.size ≤ k) : B.ownsRow N e sz v n xs := by
  obtain ⟨h2, h3⟩ := h
  refine ⟨h2, ?_⟩
  rcases h3 with h3 | ⟨g, cap, cur, rfl, hb, hh, r⟩
  · exact .inl h3
  · exact .inr ⟨g, cap, cur, rfl, hb, hC.blk (t := e) hh (fun hs => (hS g hs).elim (fun h => by omega) (fun h => by have := Blk.lt (t := e) hh; omega)), r⟩
theorem own_keep {A B : World} {S : Nat → Prop} {e : TypeId} {N : Nat} {v : Value} {l : List UInt8} (h : Own e A N v l) (hC : Chg S A B) (hS : ∀ k, S k → k < N ∨ A.heap.size ≤ k) : Own e B N v l := by
  obtain ⟨h1, h2⟩ := h
  refine ⟨h1, ?_⟩
  rcases h2 with h2 | ⟨g, cap, cur, rfl, hb, hh, r⟩
  · exact .inl h2
  · exact .inr ⟨g, cap, cur, rfl, hb, hC.blk (t := e) hh (fun hs => (hS g hs).elim (fun h => by omega) (fun h => by have := Blk.lt (t := e) hh; omega)), r⟩
theorem FlOwn.keep {A B : World} {S : Nat → Prop} {N : Nat} {cs : List Value} {fs : List Fl} (h : FlOwn A N cs fs) (hC : Chg S A B) (hS : ∀ k, S k → k < N ∨ A.heap.size ≤ k) : FlOwn B N cs fs := by
  obtain ⟨h1, h2⟩ := h
  refine ⟨h1, fun i hi => ?_⟩
  obtain ⟨vb, a, b, c, d⟩ := h2 i hi
  exact ⟨vb, a, b, c, own_keep d hC hS⟩
/-- a row of flights that stays while other blocks change -/
def FlK (w0 w : World) (A : Option Addr) (fs : List Fl) : Prop := ∀ S W, Chg S w W → (∀ k, S k → k < w0.heap.size ∨ w.heap.size ≤ k) → FlX W A fs
theorem FlK.x {w0 w : World} {A : Option Addr} {fs : List Fl} (h : FlK w0 w A fs) {W : World} (hE : Ext w W) : FlX W A fs := h (fun _ => False) W (Chg.of_ext hE) (fun _ h => h.elim)
theorem flk_of {w0 w : World} {A : Option Addr} {c : Nat} {fs : List Fl} {cs : List Value} (hr : w.ownsRow w0.heap.size 45 3 (.slice A fs.length c) fs.length cs) (ho : FlOwn w w0.heap.size cs fs) : FlK w0 w A fs := by
  intro S W hC hS
  have hr' := row_keep hr hC hS
  have ho' := ho.keep hC hS
  have hfr : FlRow W W w0.heap.size (.slice A fs.length c) fs := ⟨cs, hr', ho'.cells⟩
  obtain ⟨A', c', e, hx⟩ := hfr.x (Ext.refl W)
  cases e
  exact hx
/-- flights of a net, up to a number of them -/
theorem flights_upto {w : World} {S : Nat → Prop} {g nb : Nat} {N : Nt} (h : NetAt w S g nb N) (most : Int) (hm : I64 most) :
    Calls Try.prog 16 #[.pointer (some ⟨g, 0, none⟩), .int .i64 most] w fun e w' => ∃ A c, e = .returned (.tuple #[.slice A (upTo (flN N) most).length c, .bool true]) ∧ FlK w w' A (upTo (flN N) most) ∧ Ext w w' := by
  refine (flights_law h most hm).mono ?_
  rintro e w1 ⟨v, cs, rfl, hrow, hown, hE⟩
  obtain ⟨A, c, rfl⟩ := row_form hrow
  exact ⟨A, c, rfl, flk_of hrow hown, hE⟩
theorem flights_keep {w : World} {S : Nat → Prop} {g nb : Nat} {N : Nt} {F : List Fl} {n : Nat} (h : NetAt w S g nb N) (hF : flN N = F) (hn : F.length = n) :
    Calls Try.prog 16 #[.pointer (some ⟨g, 0, none⟩), .int .i64 0] w fun e w' => ∃ A c, e = .returned (.tuple #[.slice A n c, .bool true]) ∧ FlK w w' A F ∧ Ext w w' := by
  have K := flights_upto h 0 (by unfold I64; omega)
  rw [upTo_zero, hF, hn] at K
  exact K

end Go.Proofs.Ytahooohokdbnpaa
