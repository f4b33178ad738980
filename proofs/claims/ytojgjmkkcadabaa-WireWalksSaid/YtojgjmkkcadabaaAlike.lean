/-
  A step of both readers: contract of law01.alike.
-/
import Derived.Test.YtojgjmkkcadabaaRefRead
import Derived.Test.YtojgjmkkcadabaaSteps
import Derived.Test.YtojgjmkkcadabaaKeepsB
set_option linter.unusedVariables false
set_option linter.unusedSimpArgs false
namespace Go.Proofs.Ytojgjmkkcadabaa
open Go.RowKit Pl

theorem Rd.turned {w w' : World} {r q : Nat} {s t : Option (List UInt8)} (h : Rd w r s) (hq : RdR w q t) (hu : w.grownBy w' (some q)) (hne : r ≠ q) : Rd w' r s := by
  cases s with
  | none => exact Blk.grown h hu (by simpa using hne)
  | some l => obtain ⟨A, c, h1, h2, h3⟩ := h; exact ⟨A, c, h1.grown hu (by simpa using hne), h2.rdr hq hu, h3⟩
theorem RdR.turned {w w' : World} {r q : Nat} {s t : Option (List UInt8)} (h : RdR w q s) (hr : Rd w r t) (hu : Upd w w' r) (hne : q ≠ r) : RdR w' q s := by
  cases s with
  | none => exact Blk.upd h hu hne
  | some l => obtain ⟨A, c, h1, h2, h3⟩ := h; exact ⟨A, c, h1.upd hu hne, h2.rd hr hu, h3⟩

/-- what has turned lies in the blocks r and q -/
structure Two (r q : Nat) (w w' : World) : Prop where
  os : w'.os = w.os
  tape : w'.tape = w.tape
  output : w'.output = w.output
  size : w.heap.size ≤ w'.heap.size
  block : ∀ k, k < w.heap.size → k ≠ r → k ≠ q → w'.heap[k]? = w.heap[k]?

theorem two_pre (r q : Nat) : Pre (Two r q) :=
  ⟨fun w => ⟨rfl, rfl, rfl, Nat.le_refl _, fun _ _ _ _ => rfl⟩, fun h k => ⟨k.os.trans h.os, k.tape.trans h.tape, k.output.trans h.output, Nat.le_trans h.size k.size, fun j hj h1 h2 => (k.block j (by have := h.size; omega) h1 h2).trans (h.block j hj h1 h2)⟩⟩
theorem Two.refl (r q : Nat) (w : World) : Two r q w w := (two_pre r q).refl w
theorem Two.trans {r q : Nat} {a b c : World} (h : Two r q a b) (k : Two r q b c) : Two r q a c := (two_pre r q).trans h k
theorem Two.left {r q : Nat} {w w' : World} (h : w.grownBy w' (some r)) : Two r q w w' := ⟨h.os, h.tape, h.output, h.size, fun k hk h1 _ => h.block k hk (by simpa using h1)⟩
theorem Two.right {r q : Nat} {w w' : World} (h : w.grownBy w' (some q)) : Two r q w w' := ⟨h.os, h.tape, h.output, h.size, fun k hk _ h1 => h.block k hk (by simpa using h1)⟩
theorem Two.of_ext {r q : Nat} {w w' : World} (h : Ext w w') : Two r q w w' := ⟨Below.os h, Below.tape h, Below.output h, h.size, fun k hk _ _ => h.block hk⟩
theorem Two.ext {r q : Nat} {w0 w w' : World} (h : Two r q w w') (k : Ext w0 w) (h1 : w0.heap.size ≤ r) (h2 : w0.heap.size ≤ q) : Ext w0 w' :=
  ⟨h.os.trans (Below.os k), h.tape.trans (Below.tape k), h.output.trans (Below.output k), Nat.le_trans k.size h.size, fun j hj => (h.block j (by have := k.size; omega) (by omega) (by omega)).trans (k.block hj)⟩
theorem Two.cell {r q : Nat} {w w' : World} (h : Two r q w w') {b o : Nat} {v : Value} (hc : w.cell? ⟨b, o, none⟩ = some v) (h1 : b ≠ r) (h2 : b ≠ q) : w'.cell? ⟨b, o, none⟩ = some v := by
  rw [World.cell?_of_block (w := w) (h.block b (block_lt_of_cell hc) h1 h2)]
  exact hc
theorem By.two {r q : Nat} {w w' : World} {A : Option Addr} {l : List UInt8} {s t : Option (List UInt8)} (h : By w A l) (hr : Rd w r s) (hq : RdR w q t) (hu : Two r q w w') : By w' A l := by
  rcases h with rfl | ⟨b, o, rfl, hc⟩
  · exact .inl rfl
  · refine .inr ⟨b, o, rfl, fun i hi => ?_⟩
    have h1 := hc i hi
    refine hu.cell h1 ?_ ?_
    · rintro rfl
      obtain ⟨A, m, c, x, hb⟩ := hr.cells
      rw [hb.cell] at h1
      exact noByte2 (by intro n h; cases h) (by intro n h; cases h) _ _ h1
    · rintro rfl
      obtain ⟨A, m, c, hb, _⟩ := hq.cells
      rw [hb.cell] at h1
      exact noByte2 (by intro n h; cases h) (by intro n h; cases h) _ _ h1

/-- the two readers after a step -/
def goes (s : Option (List UInt8)) (kind n : Int) : Option (List UInt8) :=
  if kind = 1 then (nums s n).2 else if kind = 2 then (blobs s).2 else if kind = 3 then (gets s n).2 else s

theorem gets_goes (s : Option (List UInt8)) (n : Int) : leftN (gets s n).2 ≤ leftN s ∧ (brokenB s = true → brokenB (gets s n).2 = true) := by
  cases s with
  | none => exact ⟨Nat.le_refl _, fun _ => rfl⟩
  | some l => exact ⟨(gets_le l n).2, fun h => by cases h⟩
theorem goes_on (s : Option (List UInt8)) (kind n : Int) : leftN (goes s kind n) ≤ leftN s ∧ (brokenB s = true → brokenB (goes s kind n) = true) := by
  unfold goes
  split
  · unfold nums; exact gets_goes s _
  · split
    · unfold blobs nums
      have h1 := gets_goes s (if (2 : Int) < 1 ∨ 8 < (2 : Int) then -1 else 2)
      have h2 := gets_goes (gets s (if (2 : Int) < 1 ∨ 8 < (2 : Int) then -1 else 2)).2 (num (gets s (if (2 : Int) < 1 ∨ 8 < (2 : Int) then -1 else 2)).1 : Nat)
      exact ⟨Nat.le_trans h2.1 h1.1, fun h => h2.2 (h1.2 h)⟩
    · split
      · exact gets_goes s n
      · exact ⟨Nat.le_refl _, id⟩

def AlikePost (w : World) (r q : Nat) (s : Option (List UInt8)) (e : Ending) (w' : World) : Prop :=
  e = .returned (.bool true) ∧ Rd w' r s ∧ RdR w' q s ∧ Two r q w w' ∧ w.heap.size < w'.heap.size

set_option maxHeartbeats 4000000 in
set_option maxRecDepth 100000 in
theorem alike_any (w : World) (r q : Nat) (hne : r ≠ q) (s : Option (List UInt8)) (kind n : Int) (hr : Rd w r s) (hq : RdR w q s) :
    Calls Try.prog 30 #[.pointer (some ⟨r, 0, none⟩), .pointer (some ⟨q, 0, none⟩), .agg #[.int .i64 kind, .int .i64 n]] w (AlikePost w r q (goes s kind n)) := by
  have hlr := hr.lt
  have hlq := hq.lt
  have HR := Lib.hid hr
  have HQ := Lib.hid hq
  clear hr hq
  have hB := Blk.new w 53 #[.int .i64 kind, .int .i64 n]
  have hx : Ext w (w.alloc (.cells #[.int .i64 kind, .int .i64 n] 53)) := (Ext.refl w).alloc _
  have hs1 : (w.alloc (.cells #[.int .i64 kind, .int .i64 n] 53)).heap.size = w.heap.size + 1 := by simp
  have b1 : w.heap.size ≠ r := by omega
  have b2 : w.heap.size ≠ q := by omega
  unfold goes
  by_cases h1 : kind = 1
  · subst h1
    rw [if_pos rfl]
    go_enter Try.func30, Try.ntmps30
    go_wp2_with fail
    generalize w.alloc (.cells #[.int .i64 1, .int .i64 n] 53) = w1 at *
    have cn : w1.drew.cell? ⟨w.heap.size, 1, none⟩ = some (.int .i64 n) := by show w1.cell? _ = _; rw [hB.cell]; rfl
    have hr1 : Rd w1.drew r s := HR.out.ext hx.drew
    have hq1 : RdR w1.drew q s := HQ.out.ext hx.drew
    have hT : Two r q w w1.drew := Two.of_ext hx.drew
    clear hB hx
    have K1 := Lib.hid (number_any w1.drew r s n hr1)
    have K2 := Lib.hid (fun W (hu : Upd w1.drew W r) => rnumber_any W q s n (hq1.turned hr1 hu hne.symm))
    generalize nums s n = p at *
    have HQ1 := Lib.hid hq1
    have HR1 := Lib.hid hr1
    clear hr1 hq1
    refine wp_eager (two_pre r q) (n := 10) (by kernel_rfl) (by kernel_rfl) ?_
    refine Eg.batchK (two_pre r q) (by intro c a d v w h; cases d <;> exact h) (by kernel_rfl) (n := 6) [0, 1, 4, 5] [] _ (by kernel_rfl) (fun K hK => ?_); (simp only [pickOps, List.getElem?_toArray, List.getElem?_cons_zero, List.getElem?_cons_succ, Option.toList_some, List.cons_append, List.nil_append]); (repeat (first | go_big_quiet_step (fail) | quiet_step (fail))); refine wpQuiet_nil (hK _ ?_); clear hK K
    (refine Eg.read (two_pre r q) (by intro c a d v w h; cases d <;> exact h) (by kernel_rfl) (i := 2) (n := 5) (l := [0, 1, 4, 5]) rfl (by kernel_rfl) (by kernel_rfl) rfl ⟨_, fun w' hR => load_run rfl (load_i64 (hR.cell cn b1 b2)), ?_⟩); (simp only [Act.put, List.setIfInBounds_toArray])
    (refine Eg.read (two_pre r q) (by intro c a d v w h; cases d <;> exact h) (by kernel_rfl) (i := 6) (n := 4) (l := [0, 1, 4, 5, 2]) rfl (by kernel_rfl) (by kernel_rfl) rfl ⟨_, fun w' hR => load_run rfl (load_i64 (hR.cell cn b1 b2)), ?_⟩); (simp only [Act.put, List.setIfInBounds_toArray])
    refine Eg.act (two_pre r q) (i := 3) (n := 3) (l := [0, 1, 4, 5, 2, 6]) rfl (by kernel_rfl) ?_
    go_wp2_with fail
    refine K1.out.mono ?_
    rintro e w2 ⟨rfl, hr2, hu2⟩
    go_wp2_with fail
    refine ⟨Two.left hu2.grown, ?_⟩
    refine Eg.act (two_pre r q) (i := 7) (n := 2) (l := [0, 1, 4, 5, 2, 6, 3]) rfl (by kernel_rfl) ?_
    go_wp2_with fail
    refine (K2.out w2 hu2).mono ?_
    rintro e w3 ⟨rfl, hq3, hu3⟩
    go_wp2_with fail
    refine ⟨Two.right hu3, ?_⟩
    refine Eg.batchK (two_pre r q) (by intro c a d v w h; cases d <;> exact h) (by kernel_rfl) (n := 0) [8, 9] [0, 1, 4, 5, 2, 6, 3, 7] _ (by kernel_rfl) (fun K hK => ?_); (simp only [pickOps, List.getElem?_toArray, List.getElem?_cons_zero, List.getElem?_cons_succ, Option.toList_some, List.cons_append, List.nil_append]); (repeat (first | go_big_quiet_step (fail) | quiet_step (fail))); refine wpQuiet_nil (hK _ ?_); clear hK K
    refine Eg.finish (by kernel_rfl) ?_
    have hq2 := HQ1.out.turned HR1.out hu2 hne.symm
    have hr3 := hr2.turned hq2 hu3 hne
    have hT3 := (hT.trans (Two.left hu2.grown)).trans (Two.right hu3)
    have hsz : w.heap.size < w3.heap.size := by have h1 := hu2.size; have h2 := hu3.size; simp at h1; omega
    clear hu2 hr2 hq2 hu3
    go_wp2
    go_ret
    exact ⟨rfl, hr3, hq3, hT3, hsz⟩
  rw [if_neg h1]
  by_cases h2 : kind = 2
  · subst h2
    rw [if_pos rfl]
    go_enter Try.func30, Try.ntmps30
    go_wp2_with fail
    generalize w.alloc (.cells #[.int .i64 2, .int .i64 n] 53) = w1 at *
    have cn : w1.drew.cell? ⟨w.heap.size, 1, none⟩ = some (.int .i64 n) := by show w1.cell? _ = _; rw [hB.cell]; rfl
    have hr1 : Rd w1.drew r s := HR.out.ext hx.drew
    have hq1 : RdR w1.drew q s := HQ.out.ext hx.drew
    have hT : Two r q w w1.drew := Two.of_ext hx.drew
    clear hB hx
    have K1 := Lib.hid (rblob_any w1.drew r s hr1)
    have K2 := Lib.hid (fun W (hu : Upd w1.drew W r) => rrblob_any W q s (hq1.turned hr1 hu hne.symm))
    generalize blobs s = p at *
    have HQ1 := Lib.hid hq1
    have HR1 := Lib.hid hr1
    clear hr1 hq1
    refine wp_eager (two_pre r q) (n := 8) (by kernel_rfl) (by kernel_rfl) ?_
    refine Eg.batchK (two_pre r q) (by intro c a d v w h; cases d <;> exact h) (by kernel_rfl) (n := 6) [0, 3] [] _ (by kernel_rfl) (fun K hK => ?_); (simp only [pickOps, List.getElem?_toArray, List.getElem?_cons_zero, List.getElem?_cons_succ, Option.toList_some, List.cons_append, List.nil_append]); (repeat (first | go_big_quiet_step (fail) | quiet_step (fail))); refine wpQuiet_nil (hK _ ?_); clear hK K
    refine Eg.act (two_pre r q) (i := 1) (n := 5) (l := [0, 3]) rfl (by kernel_rfl) ?_
    go_wp2_with fail
    refine K1.out.mono ?_
    rintro e w2 ⟨A2, c2, rfl, hb2, hc2, hr2, hu2⟩
    go_wp2_with fail
    refine ⟨Two.left hu2.grown, ?_⟩
    have HQ2 := Lib.hid (HQ1.out.turned HR1.out hu2 hne.symm)
    (refine Eg.read (two_pre r q) (by intro c a d v w h; cases d <;> exact h) (by kernel_rfl) (i := 2) (n := 4) (l := [0, 3, 1]) rfl (by kernel_rfl) (by kernel_rfl) rfl ⟨_, fun w' hR => convert_run rfl (str_any (hb2.two hr2 HQ2.out hR) c2), ?_⟩); (simp only [Act.put, List.setIfInBounds_toArray])
    refine Eg.act (two_pre r q) (i := 4) (n := 3) (l := [0, 3, 1, 2]) rfl (by kernel_rfl) ?_
    go_wp2_with fail
    refine (K2.out w2 hu2).mono ?_
    rintro e w3 ⟨A3, c3, rfl, hb3, hc3, hq3, hu3⟩
    go_wp2_with fail
    refine ⟨Two.right hu3, ?_⟩
    have hr3 := hr2.turned HQ2.out hu3 hne
    (refine Eg.read (two_pre r q) (by intro c a d v w h; cases d <;> exact h) (by kernel_rfl) (i := 5) (n := 2) (l := [0, 3, 1, 2, 4]) rfl (by kernel_rfl) (by kernel_rfl) rfl ⟨_, fun w' hR => convert_run rfl (str_any (hb3.two hr3 hq3 hR) c3), ?_⟩); (simp only [Act.put, List.setIfInBounds_toArray])
    refine Eg.batchK (two_pre r q) (by intro c a d v w h; cases d <;> exact h) (by kernel_rfl) (n := 0) [6, 7] [0, 3, 1, 2, 4, 5] _ (by kernel_rfl) (fun K hK => ?_); (simp only [pickOps, List.getElem?_toArray, List.getElem?_cons_zero, List.getElem?_cons_succ, Option.toList_some, List.cons_append, List.nil_append]); (repeat (first | go_big_quiet_step (fail) | quiet_step (fail))); refine wpQuiet_nil (hK _ ?_); clear hK K
    refine Eg.finish (by kernel_rfl) ?_
    have hT3 := (hT.trans (Two.left hu2.grown)).trans (Two.right hu3)
    have hsz : w.heap.size < w3.heap.size := by have h1 := hu2.size; have h2 := hu3.size; simp at h1; omega
    clear hu2 hr2 hu3 hb2 hb3
    go_wp2
    go_ret
    exact ⟨rfl, hr3, hq3, hT3, hsz⟩
  rw [if_neg h2]
  by_cases h3 : kind = 3
  · subst h3
    rw [if_pos rfl]
    go_enter Try.func30, Try.ntmps30
    go_wp2_with fail
    generalize w.alloc (.cells #[.int .i64 3, .int .i64 n] 53) = w1 at *
    have cn : w1.drew.cell? ⟨w.heap.size, 1, none⟩ = some (.int .i64 n) := by show w1.cell? _ = _; rw [hB.cell]; rfl
    have hr1 : Rd w1.drew r s := HR.out.ext hx.drew
    have hq1 : RdR w1.drew q s := HQ.out.ext hx.drew
    have hT : Two r q w w1.drew := Two.of_ext hx.drew
    clear hB hx
    have K1 := Lib.hid (bytes_any w1.drew r s n hr1)
    have K2 := Lib.hid (fun W (hu : Upd w1.drew W r) => rbytes_any W q s n (hq1.turned hr1 hu hne.symm))
    generalize gets s n = p at *
    have HQ1 := Lib.hid hq1
    have HR1 := Lib.hid hr1
    clear hr1 hq1
    refine wp_eager (two_pre r q) (n := 12) (by kernel_rfl) (by kernel_rfl) ?_
    refine Eg.batchK (two_pre r q) (by intro c a d v w h; cases d <;> exact h) (by kernel_rfl) (n := 8) [0, 1, 5, 6] [] _ (by kernel_rfl) (fun K hK => ?_); (simp only [pickOps, List.getElem?_toArray, List.getElem?_cons_zero, List.getElem?_cons_succ, Option.toList_some, List.cons_append, List.nil_append]); (repeat (first | go_big_quiet_step (fail) | quiet_step (fail))); refine wpQuiet_nil (hK _ ?_); clear hK K
    (refine Eg.read (two_pre r q) (by intro c a d v w h; cases d <;> exact h) (by kernel_rfl) (i := 2) (n := 7) (l := [0, 1, 5, 6]) rfl (by kernel_rfl) (by kernel_rfl) rfl ⟨_, fun w' hR => load_run rfl (load_i64 (hR.cell cn b1 b2)), ?_⟩); (simp only [Act.put, List.setIfInBounds_toArray])
    (refine Eg.read (two_pre r q) (by intro c a d v w h; cases d <;> exact h) (by kernel_rfl) (i := 7) (n := 6) (l := [0, 1, 5, 6, 2]) rfl (by kernel_rfl) (by kernel_rfl) rfl ⟨_, fun w' hR => load_run rfl (load_i64 (hR.cell cn b1 b2)), ?_⟩); (simp only [Act.put, List.setIfInBounds_toArray])
    refine Eg.act (two_pre r q) (i := 3) (n := 5) (l := [0, 1, 5, 6, 2, 7]) rfl (by kernel_rfl) ?_
    go_wp2_with fail
    refine K1.out.mono ?_
    rintro e w2 ⟨A2, c2, rfl, hb2, hc2, hr2, hu2⟩
    go_wp2_with fail
    refine ⟨Two.left hu2.grown, ?_⟩
    have HQ2 := Lib.hid (HQ1.out.turned HR1.out hu2 hne.symm)
    (refine Eg.read (two_pre r q) (by intro c a d v w h; cases d <;> exact h) (by kernel_rfl) (i := 4) (n := 4) (l := [0, 1, 5, 6, 2, 7, 3]) rfl (by kernel_rfl) (by kernel_rfl) rfl ⟨_, fun w' hR => convert_run rfl (str_any (hb2.two hr2 HQ2.out hR) c2), ?_⟩); (simp only [Act.put, List.setIfInBounds_toArray])
    refine Eg.act (two_pre r q) (i := 8) (n := 3) (l := [0, 1, 5, 6, 2, 7, 3, 4]) rfl (by kernel_rfl) ?_
    go_wp2_with fail
    refine (K2.out w2 hu2).mono ?_
    rintro e w3 ⟨A3, c3, rfl, hb3, hc3, hq3, hu3⟩
    go_wp2_with fail
    refine ⟨Two.right hu3, ?_⟩
    have hr3 := hr2.turned HQ2.out hu3 hne
    (refine Eg.read (two_pre r q) (by intro c a d v w h; cases d <;> exact h) (by kernel_rfl) (i := 9) (n := 2) (l := [0, 1, 5, 6, 2, 7, 3, 4, 8]) rfl (by kernel_rfl) (by kernel_rfl) rfl ⟨_, fun w' hR => convert_run rfl (str_any (hb3.two hr3 hq3 hR) c3), ?_⟩); (simp only [Act.put, List.setIfInBounds_toArray])
    refine Eg.batchK (two_pre r q) (by intro c a d v w h; cases d <;> exact h) (by kernel_rfl) (n := 0) [10, 11] [0, 1, 5, 6, 2, 7, 3, 4, 8, 9] _ (by kernel_rfl) (fun K hK => ?_); (simp only [pickOps, List.getElem?_toArray, List.getElem?_cons_zero, List.getElem?_cons_succ, Option.toList_some, List.cons_append, List.nil_append]); (repeat (first | go_big_quiet_step (fail) | quiet_step (fail))); refine wpQuiet_nil (hK _ ?_); clear hK K
    refine Eg.finish (by kernel_rfl) ?_
    have hT3 := (hT.trans (Two.left hu2.grown)).trans (Two.right hu3)
    have hsz : w.heap.size < w3.heap.size := by have h1 := hu2.size; have h2 := hu3.size; simp at h1; omega
    clear hu2 hr2 hu3 hb2 hb3
    go_wp2
    go_ret
    exact ⟨rfl, hr3, hq3, hT3, hsz⟩
  rw [if_neg h3]
  have g1 : (kind == 1) = false := by simpa using h1
  have g2 : (kind == 2) = false := by simpa using h2
  have g3 : (kind == 3) = false := by simpa using h3
  go_enter Try.func30, Try.ntmps30
  go_wp2
  go_ret
  exact ⟨rfl, HR.out.ext hx, HQ.out.ext hx, Two.of_ext hx, by omega⟩

end Go.Proofs.Ytojgjmkkcadabaa
