/-
  The reference's reader in memory; contracts of its Bytes, Number, Blob, Left, End.
-/
import Derived.Test.YtojgjmkkcadabaaKnownA
import Derived.Test.YtojgjmkkcadabaaEager
set_option linter.unusedVariables false
set_option linter.unusedSimpArgs false
namespace Go.Proofs.Ytojgjmkkcadabaa
open Go.RowKit Pl

theorem By.turned {w w' : World} {A : Option Addr} {l : List UInt8} {r : Nat} {t : TypeId} {cs : Array Value} (h : By w A l) (hr : Blk w r t cs) (hn : NoByte cs) (hu : w.grownBy w' (some r)) : By w' A l := by
  rcases h with rfl | ⟨b, o, rfl, hc⟩
  · exact .inl rfl
  · refine .inr ⟨b, o, rfl, fun i hi => ?_⟩
    have h1 := hc i hi
    have hne : b ≠ r := by
      rintro rfl
      rw [hr.cell] at h1
      exact hn _ _ h1
    rw [World.cell?_of_block (w := w) (hu.block b (block_lt_of_cell h1) (by simpa using hne))]
    exact h1

/-- the reference's reader at q: what is ahead of it; none: it is broken -/
def RdR (w : World) (q : Nat) : Option (List UInt8) → Prop
  | some l => ∃ A c, Blk w q 49 #[.slice A l.length c, .bool false] ∧ By w A l ∧ l.length ≤ c ∧ c ≤ 9223372036854775807
  | none => Blk w q 49 #[.slice none 0 0, .bool true]

theorem RdR.ext {w w' : World} {q : Nat} {s : Option (List UInt8)} (h : RdR w q s) (hb : Ext w w') : RdR w' q s := by
  cases s with
  | none => exact Blk.ext h hb
  | some l => obtain ⟨A, c, h1, h2, h3, h4⟩ := h; exact ⟨A, c, h1.ext hb, h2.ext hb, h3, h4⟩
theorem RdR.lt {w : World} {q : Nat} {s : Option (List UInt8)} (h : RdR w q s) : q < w.heap.size := by
  cases s with
  | none => exact Blk.lt h
  | some l => obtain ⟨A, c, h1, _⟩ := h; exact h1.lt
theorem RdR.cells {w : World} {q : Nat} {s : Option (List UInt8)} (h : RdR w q s) : ∃ (A : Option Addr) (m c : Nat), Blk w q 49 #[.slice A m c, .bool (brokenB s)] ∧ m = leftN s ∧ m ≤ c ∧ c ≤ 9223372036854775807 := by
  cases s with
  | none => exact ⟨none, 0, 0, h, rfl, Nat.le_refl _, by omega⟩
  | some l => obtain ⟨A, c, h1, h2, h3, h4⟩ := h; exact ⟨A, l.length, c, h1, rfl, h3, h4⟩
theorem By.rdr {w w' : World} {A : Option Addr} {l : List UInt8} {q : Nat} {s : Option (List UInt8)} (h : By w A l) (hr : RdR w q s) (hu : w.grownBy w' (some q)) : By w' A l := by
  obtain ⟨B, m, c, h1, _⟩ := hr.cells
  exact h.turned h1 (noByte2 (by intro n h; cases h) (by intro n h; cases h)) hu

/-- what a step leaves -/
def RGot (w : World) (q : Nat) (p : List UInt8 × Option (List UInt8)) (e : Ending) (w' : World) : Prop :=
  ∃ A c, e = .returned (.slice A p.1.length c) ∧ By w' A p.1 ∧ p.1.length ≤ c ∧ RdR w' q p.2 ∧ w.grownBy w' (some q)

theorem rgot_close {w : World} {r m c k : Nat} {A : Option Addr} {l : List UInt8} (h1 : Blk w r 49 #[.slice A m c, .bool false]) (h2 : By w A l) (hm : l.length = m) (h3 : m ≤ c) (h4 : c ≤ 9223372036854775807) (hk : k ≤ m)
    {A' : Option Addr} {c' : Nat} (ha : A' = cutA A c k) (hc : c' = c - k) :
    RGot w r (l.take k, some (l.drop k)) (.returned (.slice A k c)) (w.setCell ⟨r, 0, none⟩ (.slice A' (m - k) c')) := by
  subst hm ha hc
  have hn : NoByte #[.slice A l.length c, .bool false] := noByte2 (by intro n h; cases h) (by intro n h; cases h)
  have hu := Upd.set w r 0 (.slice (cutA A c k) (l.length - k) (c - k))
  refine ⟨A, c, by simp only [List.length_take]; rw [Nat.min_eq_left hk], (h2.take k).upd h1 hn hu, by simp only [List.length_take]; omega, ⟨cutA A c k, c - k, ?_, (h2.drop hk h3).upd h1 hn hu, by rw [List.length_drop]; omega, by omega⟩, hu.grown⟩
  rw [List.length_drop]
  exact h1.set 0 _

theorem rgot_broken {w : World} {r : Nat} {v0 v1 : Value} (h1 : Blk w r 49 #[v0, v1]) :
    RGot w r ([], none) (.returned (.slice none 0 0)) ((w.setCell ⟨r, 1, none⟩ (.bool true)).setCell ⟨r, 0, none⟩ (.slice none 0 0)) :=
  ⟨none, 0, rfl, .inl rfl, Nat.le_refl _, (h1.set 1 (.bool true)).set 0 (.slice none 0 0), ((Upd.set w r 1 _).trans (Upd.set _ r 0 _)).grown⟩

set_option maxHeartbeats 800000 in
theorem rbytes_any (w : World) (r : Nat) (s : Option (List UInt8)) (n : Int) (h : RdR w r s) :
    Calls Try.prog 54 #[.pointer (some ⟨r, 0, none⟩), .int .i64 n] w (RGot w r (gets s n)) := by
  cases s with
  | none =>
    rw [gets_none]
    have c0 : w.cell? ⟨r, 0, none⟩ = some (.slice none 0 0) := by rw [Blk.cell h]; rfl
    have c1 : w.cell? ⟨r, 1, none⟩ = some (.bool true) := by rw [Blk.cell h]; rfl
    have f0 := Blk.frozen h 0
    have f1 := Blk.frozen h 1
    have H := Lib.hid h
    clear h
    go_enter Try.func54, Try.ntmps54
    go_wp2
    go_ret
    exact rgot_broken H.out
  | some l =>
    obtain ⟨A, c, h1, h2, h3, h4⟩ := h
    have c0 : w.cell? ⟨r, 0, none⟩ = some (.slice A l.length c) := by rw [h1.cell]; rfl
    have c1 : w.cell? ⟨r, 1, none⟩ = some (.bool false) := by rw [h1.cell]; rfl
    have f0 := h1.frozen 0
    have f1 := h1.frozen 1
    have H1 := Lib.hid h1
    have H2 := Lib.hid h2
    clear h1 h2
    by_cases hin : 0 ≤ n ∧ n ≤ l.length
    · obtain ⟨hn0, hn1⟩ := hin
      obtain ⟨k, rfl⟩ := Int.eq_ofNat_of_zero_le hn0
      have hk : k ≤ l.length := by omega
      rw [gets_in l k hk]
      generalize hm : l.length = m at *
      have HM := Lib.hid hm
      clear hm hn0 hn1
      have hkc : k ≤ c := by omega
      go_enter Try.func54, Try.ntmps54
      go_wp2
      · have hck : c = k := by assumption
        go_ret
        subst hck
        exact rgot_close H1.out H2.out HM.out h3 h4 hk (by unfold cutA; rw [if_pos rfl]) (Nat.sub_self _).symm
      · have hck : ¬ c = k := by assumption
        go_ret
        exact rgot_close H1.out H2.out HM.out h3 h4 hk (by unfold cutA; rw [if_neg hck]) rfl
    · rw [gets_out l n (by omega)]
      have hlen : l.length ≤ 9223372036854775807 := by omega
      by_cases hneg : n < 0
      · clear hin
        go_enter Try.func54, Try.ntmps54
        go_wp2
        go_ret
        exact rgot_broken H1.out
      · have hgt : (l.length : Int) < n := by omega
        clear hin
        go_enter Try.func54, Try.ntmps54
        go_wp2
        go_ret
        exact rgot_broken H1.out

def RNumPost (w : World) (r : Nat) (p : Nat × Option (List UInt8)) (e : Ending) (w' : World) : Prop :=
  e = .returned (.int .u64 (p.1 : Int)) ∧ RdR w' r p.2 ∧ w.grownBy w' (some r)

theorem grown_ext {a b c : World} {row : Option Nat} (h : a.grownBy b row) (k : Ext b c) : a.grownBy c row :=
  h.trans ⟨Below.os k, Below.tape k, Below.output k, Below.size k, fun j hj _ => k.block hj⟩

set_option maxHeartbeats 800000 in
theorem rnumber_any (w : World) (r : Nat) (s : Option (List UInt8)) (n : Int) (h : RdR w r s) :
    Calls Try.prog 52 #[.pointer (some ⟨r, 0, none⟩), .int .i64 n] w (RNumPost w r (nums s n)) := by
  have HS := fun n => rbytes_any w r s n h
  have H := Lib.hid HS
  clear HS h
  unfold nums
  by_cases h1 : n < 1
  · rw [if_pos (.inl h1)]
    have hp : (gets s (-1)).1 = [] := by
      rcases gets_len s (-1) with h | h
      · exact h
      · omega
    have HP := Lib.hid hp
    clear hp
    go_enter Try.func52, Try.ntmps52
    go_wp2_with fail
    refine (H.out (-1)).mono ?_
    rintro e w' ⟨A, c, rfl, hb, hc, hr, hu⟩
    go_wp2
    go_ret
    exact ⟨by rw [HP.out]; rfl, hr, hu⟩
  by_cases h2 : 8 < n
  · rw [if_pos (.inr h2)]
    have hp : (gets s (-1)).1 = [] := by
      rcases gets_len s (-1) with h | h
      · exact h
      · omega
    have HP := Lib.hid hp
    clear hp
    go_enter Try.func52, Try.ntmps52
    go_wp2_with fail
    refine (H.out (-1)).mono ?_
    rintro e w' ⟨A, c, rfl, hb, hc, hr, hu⟩
    go_wp2
    go_ret
    exact ⟨by rw [HP.out]; rfl, hr, hu⟩
  · rw [if_neg (by omega)]
    have hl := gets_len s n
    generalize hp : gets s n = p at *
    have HP := Lib.hid hp
    have hl8 : p.1.length ≤ 8 := by rcases hl with h | h; (rw [h]; simp); omega
    clear hl hp
    go_enter Try.func52, Try.ntmps52
    go_wp2_with fail
    refine (H.out n).mono ?_
    rintro e w' ⟨A, c, rfl, hb, hc, hr, hu⟩
    rw [HP.out] at *
    go_wp2_with fail
    refine (rget_any A p.1 c hl8 _ hb).mono ?_
    rintro e w2 ⟨rfl, hE⟩
    go_wp2
    go_ret
    exact ⟨rfl, hr.ext hE, grown_ext hu hE⟩

set_option maxHeartbeats 800000 in
theorem rrblob_any (w : World) (r : Nat) (s : Option (List UInt8)) (h : RdR w r s) :
    Calls Try.prog 53 #[.pointer (some ⟨r, 0, none⟩)] w (RGot w r (blobs s)) := by
  have HS := Lib.hid (rnumber_any w r s 2 h)
  have hlt := nums_lt s 2 (by omega)
  clear h
  unfold blobs
  generalize nums s 2 = p at *
  go_enter Try.func53, Try.ntmps53
  go_wp2_with fail
  refine HS.out.mono ?_
  rintro e w' ⟨rfl, hr, hu⟩
  have hlt2 : p.1 < 65536 := hlt
  clear hlt
  go_wp2_with fail
  refine (rbytes_any _ r p.2 (p.1 : Int) hr).mono ?_
  rintro e w' ⟨A, c, rfl, hb, hc, hr, hu2⟩
  go_wp2
  go_ret
  exact ⟨A, c, rfl, hb, hc, hr, hu.trans hu2⟩

theorem rleft_any (w : World) (r : Nat) (s : Option (List UInt8)) (h : RdR w r s) :
    Calls Try.prog 31 #[.pointer (some ⟨r, 0, none⟩)] w fun e w' => e = .returned (.int .i64 (leftN s)) ∧ w = w' := by
  obtain ⟨A, m, c, hb, rfl, hmc, hc⟩ := h.cells
  have c0 : w.cell? ⟨r, 0, none⟩ = some (.slice A (leftN s) c) := by rw [hb.cell]; rfl
  generalize leftN s = m at *
  clear hb h
  go_enter Try.func31, Try.ntmps31
  go_wp2
  go_ret
  exact ⟨rfl, rfl⟩

theorem rend_any (w : World) (r : Nat) (s : Option (List UInt8)) (h : RdR w r s) :
    Calls Try.prog 32 #[.pointer (some ⟨r, 0, none⟩)] w fun e w' => e = .returned (.int .i64 (if s = some [] then 0 else 4)) ∧ w = w' := by
  cases s with
  | none =>
    have c1 : w.cell? ⟨r, 1, none⟩ = some (.bool true) := by rw [Blk.cell h]; rfl
    rw [if_neg (by simp)]
    clear h
    go_enter Try.func32, Try.ntmps32
    go_wp2
    go_ret
    exact ⟨rfl, rfl⟩
  | some l =>
    obtain ⟨A, c, h1, h2, h3, h4⟩ := h
    have c0 : w.cell? ⟨r, 0, none⟩ = some (.slice A l.length c) := by rw [h1.cell]; rfl
    have c1 : w.cell? ⟨r, 1, none⟩ = some (.bool false) := by rw [h1.cell]; rfl
    have hlen : l.length ≤ 9223372036854775807 := by omega
    clear h1 h2
    by_cases hl : l = []
    · subst hl
      rw [if_pos rfl]
      simp only [List.length_nil] at c0
      go_enter Try.func32, Try.ntmps32
      go_wp2
      go_ret
      exact ⟨rfl, rfl⟩
    · rw [if_neg (by simpa using hl)]
      have h1 : 0 < l.length := by cases l with
        | nil => exact absurd rfl hl
        | cons a t => simp
      generalize l.length = m at *
      clear hl
      go_enter Try.func32, Try.ntmps32
      go_wp2
      go_ret
      exact ⟨rfl, rfl⟩

end Go.Proofs.Ytojgjmkkcadabaa
