
/-
  Contracts of record.named, May (by rece.py).
-/
import Derived.Test.YtgbfeagoadlhmaaRecD
set_option linter.unusedVariables false
set_option linter.unusedSimpArgs false
namespace Go.Proofs.Ytgbfeagoadlhmaa
open Go.RowKit Pl

attribute [local go_sem] Oper.semAt_some

def pageB (n : Int) : Bool := decide (0 ≤ n) && decide (n < 128)
def xidB (n : Nat) : Bool := decide (1 ≤ n) && decide (n ≤ 4000)
def nextB (n : Nat) : Bool := decide (1 ≤ n) && decide (n ≤ 4001)
/-- may be what a record's kind names? -/
def namedB (r : Rec) : Bool :=
  if r.kind = 1 then decide (r.xid ≤ 4000) && (pageB r.page && (decide (12 ≤ r.off) && (decide (r.off < 1024) && (decide (1 ≤ r.b.length) && decide ((r.b.length : Int) ≤ 1024 - r.off)))))
  else if r.kind = 2 then decide (r.xid ≤ 4000) && (pageB r.page && decide (r.b.length = 1024))
  else if r.kind = 3 then xidB r.xid && (decide (r.subs.length ≤ 64) && risingB r.subs r.xid 4001)
  else if r.kind = 4 then xidB r.xid && (decide (r.subs.length ≤ 64) && risingB r.subs r.xid 4001)
  else if r.kind = 5 then decide (r.xid ≤ 4000)
  else if r.kind = 6 then nextB r.next && (decide (r.subs.length ≤ 256) && risingB r.subs 0 r.next)
  else if r.kind = 7 then decide (r.redo ≤ 4611686018427387904) && nextB r.next
  else if r.kind = 8 then decide (1 ≤ r.tml) && (decide (r.tml ≤ 2147483647) && decide (r.redo ≤ 4611686018427387904))
  else false

set_option maxHeartbeats 6400000 in
set_option maxRecDepth 100000 in
theorem named_any (w : World) (r : Rec) (A S : Option Addr) (ca cs : Nat) (hA : By w A r.b) (hS : Nums w S r.subs) (hl : r.subs.length ≤ 2 ^ 62) (hx : r.xid < 18446744073709551616) (hn : r.next < 18446744073709551616) (hb : r.b.length ≤ 2 ^ 62) :
    Calls Try.prog 88 #[.agg (recC r A ca S cs)] w fun e w' => e = .returned (.bool (namedB r)) ∧ Ext w w' := by
  have hX0 := ext_fresh w (.cells (recC r A ca S cs) 65)
  have HS0 := Lib.hid (hS.ext hX0)
  have HX := Lib.hid hX0
  clear hA hS hX0
  obtain ⟨kd, x, pg, of, bl, u, nx, rd, tl⟩ := r
  simp only at HS0 hl hx hn hb
  have HNB : Hid (∀ b, namedB ⟨kd, x, pg, of, bl, u, nx, rd, tl⟩ = b → b = namedB ⟨kd, x, pg, of, bl, u, nx, rd, tl⟩) := Lib.hid (fun b h => h.symm)
  unfold recC at *
  simp only at *
  by_cases hk1 : kd = 1
  · subst hk1
    have HE : Hid (namedB ⟨1, x, pg, of, bl, u, nx, rd, tl⟩ = (decide (x ≤ 4000) && (pageB pg && (decide (12 ≤ of) && (decide (of < 1024) && (decide (1 ≤ bl.length) && decide ((bl.length : Int) ≤ 1024 - of))))))) := Lib.hid rfl
    rw [HE.out]
    clear HE
    by_cases h0 : x ≤ 4000
    · rw [decide_eq_true h0, Bool.true_and]
      have y0_0 : decide ((x : Int) ≤ 4000) = true := decide_eq_true (by omega)
      have KC1 : Hid (∀ W, Calls Try.prog 102 #[.int .i64 pg] W fun e w' => e = .returned (.bool (pageB pg)) ∧ W = w') := Lib.hid (fun W => isPage_any W pg)
      cases hc1 : pageB pg with
      | false =>
        rw [hc1] at KC1
        rw [Bool.false_and]
        clear hc1
        clear HNB hl hx hn hb
        go_enter Try.func88, Try.ntmps88
        go_wp2_with fail
        refine (KC1.out _).mono ?_
        rintro e w' ⟨rfl, rfl⟩
        go_wp2_with fail
        go_ret
        exact ⟨rfl, HX.out⟩
      | true =>
        rw [hc1] at KC1
        rw [Bool.true_and]
        clear hc1
        by_cases h2 : 12 ≤ of
        · rw [decide_eq_true h2, Bool.true_and]
          have y2_0 : decide (12 ≤ of) = true := decide_eq_true (by omega)
          by_cases h3 : of < 1024
          · rw [decide_eq_true h3, Bool.true_and]
            have y3_0 : decide (of < 1024) = true := decide_eq_true (by omega)
            by_cases h4 : 1 ≤ bl.length
            · rw [decide_eq_true h4, Bool.true_and]
              have y4_0 : decide ((1 : Int) ≤ (bl.length : Int)) = true := decide_eq_true (by omega)
              have y4_1 : decide (0 < bl.length) = true := decide_eq_true (by omega)
              by_cases h5 : (bl.length : Int) ≤ 1024 - of
              · rw [decide_eq_true h5]
                have y5_0 : decide ((bl.length : Int) ≤ 1024 - of) = true := decide_eq_true (by omega)
                clear HNB hl hx hn hb
                go_enter Try.func88, Try.ntmps88
                go_wp2_with fail
                refine (KC1.out _).mono ?_
                rintro e w' ⟨rfl, rfl⟩
                go_wp2_with fail
                go_ret
                exact ⟨rfl, HX.out⟩
              · rw [decide_eq_false h5]
                have y5_0 : decide ((bl.length : Int) ≤ 1024 - of) = false := decide_eq_false (by omega)
                clear h5
                clear HNB hl hx hn hb
                go_enter Try.func88, Try.ntmps88
                go_wp2_with fail
                refine (KC1.out _).mono ?_
                rintro e w' ⟨rfl, rfl⟩
                go_wp2_with fail
                go_ret
                exact ⟨rfl, HX.out⟩
            · rw [decide_eq_false h4, Bool.false_and]
              have y4_0 : decide ((1 : Int) ≤ (bl.length : Int)) = false := decide_eq_false (by omega)
              have y4_1 : decide (0 < bl.length) = false := decide_eq_false (by omega)
              clear h4
              clear HNB hl hx hn hb
              go_enter Try.func88, Try.ntmps88
              go_wp2_with fail
              refine (KC1.out _).mono ?_
              rintro e w' ⟨rfl, rfl⟩
              go_wp2_with fail
              go_ret
              exact ⟨rfl, HX.out⟩
          · rw [decide_eq_false h3, Bool.false_and]
            have y3_0 : decide (of < 1024) = false := decide_eq_false (by omega)
            clear h3
            clear HNB hl hx hn hb
            go_enter Try.func88, Try.ntmps88
            go_wp2_with fail
            refine (KC1.out _).mono ?_
            rintro e w' ⟨rfl, rfl⟩
            go_wp2_with fail
            go_ret
            exact ⟨rfl, HX.out⟩
        · rw [decide_eq_false h2, Bool.false_and]
          have y2_0 : decide (12 ≤ of) = false := decide_eq_false (by omega)
          clear h2
          clear HNB hl hx hn hb
          go_enter Try.func88, Try.ntmps88
          go_wp2_with fail
          refine (KC1.out _).mono ?_
          rintro e w' ⟨rfl, rfl⟩
          go_wp2_with fail
          go_ret
          exact ⟨rfl, HX.out⟩
    · rw [decide_eq_false h0, Bool.false_and]
      have y0_0 : decide ((x : Int) ≤ 4000) = false := decide_eq_false (by omega)
      clear h0
      clear HNB hl hx hn hb
      go_enter Try.func88, Try.ntmps88
      go_wp2_with fail
      go_ret
      exact ⟨rfl, HX.out⟩
  by_cases hk2 : kd = 2
  · subst hk2
    have HE : Hid (namedB ⟨2, x, pg, of, bl, u, nx, rd, tl⟩ = (decide (x ≤ 4000) && (pageB pg && decide (bl.length = 1024)))) := Lib.hid rfl
    rw [HE.out]
    clear HE
    by_cases h0 : x ≤ 4000
    · rw [decide_eq_true h0, Bool.true_and]
      have y0_0 : decide ((x : Int) ≤ 4000) = true := decide_eq_true (by omega)
      have KC1 : Hid (∀ W, Calls Try.prog 102 #[.int .i64 pg] W fun e w' => e = .returned (.bool (pageB pg)) ∧ W = w') := Lib.hid (fun W => isPage_any W pg)
      cases hc1 : pageB pg with
      | false =>
        rw [hc1] at KC1
        rw [Bool.false_and]
        clear hc1
        clear HNB hl hx hn hb
        go_enter Try.func88, Try.ntmps88
        go_wp2_with fail
        refine (KC1.out _).mono ?_
        rintro e w' ⟨rfl, rfl⟩
        go_wp2_with fail
        go_ret
        exact ⟨rfl, HX.out⟩
      | true =>
        rw [hc1] at KC1
        rw [Bool.true_and]
        clear hc1
        by_cases h2 : bl.length = 1024
        · rw [decide_eq_true h2]
          have y2_0 : ((bl.length : Int) == 1024) = true := by rw [beq_iff_eq]; omega
          clear h2
          clear HNB hl hx hn hb
          go_enter Try.func88, Try.ntmps88
          go_wp2_with fail
          refine (KC1.out _).mono ?_
          rintro e w' ⟨rfl, rfl⟩
          go_wp2_with fail
          go_ret
          exact ⟨rfl, HX.out⟩
        · rw [decide_eq_false h2]
          have y2_0 : ((bl.length : Int) == 1024) = false := by rw [beq_eq_false_iff_ne]; omega
          clear h2
          clear HNB hl hx hn hb
          go_enter Try.func88, Try.ntmps88
          go_wp2_with fail
          refine (KC1.out _).mono ?_
          rintro e w' ⟨rfl, rfl⟩
          go_wp2_with fail
          go_ret
          exact ⟨rfl, HX.out⟩
    · rw [decide_eq_false h0, Bool.false_and]
      have y0_0 : decide ((x : Int) ≤ 4000) = false := decide_eq_false (by omega)
      clear h0
      clear HNB hl hx hn hb
      go_enter Try.func88, Try.ntmps88
      go_wp2_with fail
      go_ret
      exact ⟨rfl, HX.out⟩
  by_cases hk3 : kd = 3
  · subst hk3
    have HE : Hid (namedB ⟨3, x, pg, of, bl, u, nx, rd, tl⟩ = (xidB x && (decide (u.length ≤ 64) && risingB u x 4001))) := Lib.hid rfl
    rw [HE.out]
    clear HE
    have KC0 : Hid (∀ W, Calls Try.prog 103 #[.int .u64 (x : Int)] W fun e w' => e = .returned (.bool (xidB x)) ∧ W = w') := Lib.hid (fun W => isXid_any W x)
    cases hc0 : xidB x with
    | false =>
      rw [hc0] at KC0
      rw [Bool.false_and]
      clear hc0
      clear HNB hl hx hn hb
      go_enter Try.func88, Try.ntmps88
      go_wp2_with fail
      refine (KC0.out _).mono ?_
      rintro e w' ⟨rfl, rfl⟩
      go_wp2_with fail
      go_ret
      exact ⟨rfl, HX.out⟩
    | true =>
      rw [hc0] at KC0
      rw [Bool.true_and]
      clear hc0
      by_cases h1 : u.length ≤ 64
      · rw [decide_eq_true h1, Bool.true_and]
        have y1_0 : decide ((u.length : Int) ≤ 64) = true := decide_eq_true (by omega)
        have KC20 := Lib.hid (rising_any _ S u cs x 4001 HS0.out hl hx (by decide))
        have KC2 := Lib.hid (fun (_ : Unit) => KC20.out)
        clear KC20
        rw [show ((4001 : Nat) : Int) = 4001 from rfl] at KC2
        generalize risingB u x 4001 = cb at *
        clear HNB hl hx hn hb
        go_enter Try.func88, Try.ntmps88
        go_wp2_with fail
        refine (KC0.out _).mono ?_
        rintro e w' ⟨rfl, rfl⟩
        go_wp2_with fail
        refine (KC2.out ()).mono ?_
        rintro e w' ⟨rfl, rfl⟩
        go_wp2_with fail
        go_ret
        exact ⟨rfl, HX.out⟩
      · rw [decide_eq_false h1, Bool.false_and]
        have y1_0 : decide ((u.length : Int) ≤ 64) = false := decide_eq_false (by omega)
        clear h1
        clear HNB hl hx hn hb
        go_enter Try.func88, Try.ntmps88
        go_wp2_with fail
        refine (KC0.out _).mono ?_
        rintro e w' ⟨rfl, rfl⟩
        go_wp2_with fail
        go_ret
        exact ⟨rfl, HX.out⟩
  by_cases hk4 : kd = 4
  · subst hk4
    have HE : Hid (namedB ⟨4, x, pg, of, bl, u, nx, rd, tl⟩ = (xidB x && (decide (u.length ≤ 64) && risingB u x 4001))) := Lib.hid rfl
    rw [HE.out]
    clear HE
    have KC0 : Hid (∀ W, Calls Try.prog 103 #[.int .u64 (x : Int)] W fun e w' => e = .returned (.bool (xidB x)) ∧ W = w') := Lib.hid (fun W => isXid_any W x)
    cases hc0 : xidB x with
    | false =>
      rw [hc0] at KC0
      rw [Bool.false_and]
      clear hc0
      clear HNB hl hx hn hb
      go_enter Try.func88, Try.ntmps88
      go_wp2_with fail
      refine (KC0.out _).mono ?_
      rintro e w' ⟨rfl, rfl⟩
      go_wp2_with fail
      go_ret
      exact ⟨rfl, HX.out⟩
    | true =>
      rw [hc0] at KC0
      rw [Bool.true_and]
      clear hc0
      by_cases h1 : u.length ≤ 64
      · rw [decide_eq_true h1, Bool.true_and]
        have y1_0 : decide ((u.length : Int) ≤ 64) = true := decide_eq_true (by omega)
        have KC20 := Lib.hid (rising_any _ S u cs x 4001 HS0.out hl hx (by decide))
        have KC2 := Lib.hid (fun (_ : Unit) => KC20.out)
        clear KC20
        rw [show ((4001 : Nat) : Int) = 4001 from rfl] at KC2
        generalize risingB u x 4001 = cb at *
        clear HNB hl hx hn hb
        go_enter Try.func88, Try.ntmps88
        go_wp2_with fail
        refine (KC0.out _).mono ?_
        rintro e w' ⟨rfl, rfl⟩
        go_wp2_with fail
        refine (KC2.out ()).mono ?_
        rintro e w' ⟨rfl, rfl⟩
        go_wp2_with fail
        go_ret
        exact ⟨rfl, HX.out⟩
      · rw [decide_eq_false h1, Bool.false_and]
        have y1_0 : decide ((u.length : Int) ≤ 64) = false := decide_eq_false (by omega)
        clear h1
        clear HNB hl hx hn hb
        go_enter Try.func88, Try.ntmps88
        go_wp2_with fail
        refine (KC0.out _).mono ?_
        rintro e w' ⟨rfl, rfl⟩
        go_wp2_with fail
        go_ret
        exact ⟨rfl, HX.out⟩
  by_cases hk5 : kd = 5
  · subst hk5
    have HE : Hid (namedB ⟨5, x, pg, of, bl, u, nx, rd, tl⟩ = decide (x ≤ 4000)) := Lib.hid rfl
    rw [HE.out]
    clear HE
    by_cases h0 : x ≤ 4000
    · rw [decide_eq_true h0]
      have y0_0 : decide ((x : Int) ≤ 4000) = true := decide_eq_true (by omega)
      clear HNB hl hx hn hb
      go_enter Try.func88, Try.ntmps88
      go_wp2_with fail
      go_ret
      exact ⟨rfl, HX.out⟩
    · rw [decide_eq_false h0]
      have y0_0 : decide ((x : Int) ≤ 4000) = false := decide_eq_false (by omega)
      clear h0
      clear HNB hl hx hn hb
      go_enter Try.func88, Try.ntmps88
      go_wp2_with fail
      go_ret
      exact ⟨rfl, HX.out⟩
  by_cases hk6 : kd = 6
  · subst hk6
    have HE : Hid (namedB ⟨6, x, pg, of, bl, u, nx, rd, tl⟩ = (nextB nx && (decide (u.length ≤ 256) && risingB u 0 nx))) := Lib.hid rfl
    rw [HE.out]
    clear HE
    have KC0 : Hid (∀ W, Calls Try.prog 105 #[.int .u64 (nx : Int)] W fun e w' => e = .returned (.bool (nextB nx)) ∧ W = w') := Lib.hid (fun W => isNext_any W nx)
    cases hc0 : nextB nx with
    | false =>
      rw [hc0] at KC0
      rw [Bool.false_and]
      clear hc0
      clear HNB hl hx hn hb
      go_enter Try.func88, Try.ntmps88
      go_wp2_with fail
      refine (KC0.out _).mono ?_
      rintro e w' ⟨rfl, rfl⟩
      go_wp2_with fail
      go_ret
      exact ⟨rfl, HX.out⟩
    | true =>
      rw [hc0] at KC0
      rw [Bool.true_and]
      clear hc0
      by_cases h1 : u.length ≤ 256
      · rw [decide_eq_true h1, Bool.true_and]
        have y1_0 : decide ((u.length : Int) ≤ 256) = true := decide_eq_true (by omega)
        have KC20 := Lib.hid (rising_any _ S u cs 0 nx HS0.out hl (by decide) hn)
        have KC2 := Lib.hid (fun (_ : Unit) => KC20.out)
        clear KC20
        rw [show ((0 : Nat) : Int) = 0 from rfl] at KC2
        generalize risingB u 0 nx = cb at *
        clear HNB hl hx hn hb
        go_enter Try.func88, Try.ntmps88
        go_wp2_with fail
        refine (KC0.out _).mono ?_
        rintro e w' ⟨rfl, rfl⟩
        go_wp2_with fail
        refine (KC2.out ()).mono ?_
        rintro e w' ⟨rfl, rfl⟩
        go_wp2_with fail
        go_ret
        exact ⟨rfl, HX.out⟩
      · rw [decide_eq_false h1, Bool.false_and]
        have y1_0 : decide ((u.length : Int) ≤ 256) = false := decide_eq_false (by omega)
        clear h1
        clear HNB hl hx hn hb
        go_enter Try.func88, Try.ntmps88
        go_wp2_with fail
        refine (KC0.out _).mono ?_
        rintro e w' ⟨rfl, rfl⟩
        go_wp2_with fail
        go_ret
        exact ⟨rfl, HX.out⟩
  by_cases hk7 : kd = 7
  · subst hk7
    have HE : Hid (namedB ⟨7, x, pg, of, bl, u, nx, rd, tl⟩ = (decide (rd ≤ 4611686018427387904) && nextB nx)) := Lib.hid rfl
    rw [HE.out]
    clear HE
    by_cases h0 : rd ≤ 4611686018427387904
    · rw [decide_eq_true h0, Bool.true_and]
      have y0_0 : decide ((rd : Int) ≤ 4611686018427387904) = true := decide_eq_true (by omega)
      have KC1 : Hid (∀ W, Calls Try.prog 105 #[.int .u64 (nx : Int)] W fun e w' => e = .returned (.bool (nextB nx)) ∧ W = w') := Lib.hid (fun W => isNext_any W nx)
      generalize nextB nx = cb at *
      clear HNB hl hx hn hb
      go_enter Try.func88, Try.ntmps88
      go_wp2_with fail
      refine (KC1.out _).mono ?_
      rintro e w' ⟨rfl, rfl⟩
      go_wp2_with fail
      go_ret
      exact ⟨rfl, HX.out⟩
    · rw [decide_eq_false h0, Bool.false_and]
      have y0_0 : decide ((rd : Int) ≤ 4611686018427387904) = false := decide_eq_false (by omega)
      clear h0
      clear HNB hl hx hn hb
      go_enter Try.func88, Try.ntmps88
      go_wp2_with fail
      go_ret
      exact ⟨rfl, HX.out⟩
  by_cases hk8 : kd = 8
  · subst hk8
    have HE : Hid (namedB ⟨8, x, pg, of, bl, u, nx, rd, tl⟩ = (decide (1 ≤ tl) && (decide (tl ≤ 2147483647) && decide (rd ≤ 4611686018427387904)))) := Lib.hid rfl
    rw [HE.out]
    clear HE
    by_cases h0 : 1 ≤ tl
    · rw [decide_eq_true h0, Bool.true_and]
      have y0_0 : decide ((1 : Int) ≤ (tl : Int)) = true := decide_eq_true (by omega)
      have y0_1 : decide (0 < tl) = true := decide_eq_true (by omega)
      by_cases h1 : tl ≤ 2147483647
      · rw [decide_eq_true h1, Bool.true_and]
        have y1_0 : decide ((tl : Int) ≤ 2147483647) = true := decide_eq_true (by omega)
        by_cases h2 : rd ≤ 4611686018427387904
        · rw [decide_eq_true h2]
          have y2_0 : decide ((rd : Int) ≤ 4611686018427387904) = true := decide_eq_true (by omega)
          clear HNB hl hx hn hb
          go_enter Try.func88, Try.ntmps88
          go_wp2_with fail
          go_ret
          exact ⟨rfl, HX.out⟩
        · rw [decide_eq_false h2]
          have y2_0 : decide ((rd : Int) ≤ 4611686018427387904) = false := decide_eq_false (by omega)
          clear h2
          clear HNB hl hx hn hb
          go_enter Try.func88, Try.ntmps88
          go_wp2_with fail
          go_ret
          exact ⟨rfl, HX.out⟩
      · rw [decide_eq_false h1, Bool.false_and]
        have y1_0 : decide ((tl : Int) ≤ 2147483647) = false := decide_eq_false (by omega)
        clear h1
        clear HNB hl hx hn hb
        go_enter Try.func88, Try.ntmps88
        go_wp2_with fail
        go_ret
        exact ⟨rfl, HX.out⟩
    · rw [decide_eq_false h0, Bool.false_and]
      have y0_0 : decide ((1 : Int) ≤ (tl : Int)) = false := decide_eq_false (by omega)
      have y0_1 : decide (0 < tl) = false := decide_eq_false (by omega)
      clear h0
      clear HNB hl hx hn hb
      go_enter Try.func88, Try.ntmps88
      go_wp2_with fail
      go_ret
      exact ⟨rfl, HX.out⟩
  have HE : Hid (namedB ⟨kd, x, pg, of, bl, u, nx, rd, tl⟩ = false) := Lib.hid (by unfold namedB; simp only [if_neg hk1, if_neg hk2, if_neg hk3, if_neg hk4, if_neg hk5, if_neg hk6, if_neg hk7, if_neg hk8])
  rw [HE.out]
  have e1 : (kd == 1) = false := by rw [beq_eq_false_iff_ne]; exact hk1
  have e2 : (kd == 2) = false := by rw [beq_eq_false_iff_ne]; exact hk2
  have e3 : (kd == 3) = false := by rw [beq_eq_false_iff_ne]; exact hk3
  have e4 : (kd == 4) = false := by rw [beq_eq_false_iff_ne]; exact hk4
  have e5 : (kd == 5) = false := by rw [beq_eq_false_iff_ne]; exact hk5
  have e6 : (kd == 6) = false := by rw [beq_eq_false_iff_ne]; exact hk6
  have e7 : (kd == 7) = false := by rw [beq_eq_false_iff_ne]; exact hk7
  have e8 : (kd == 8) = false := by rw [beq_eq_false_iff_ne]; exact hk8
  clear HE HNB hl hx hn hb hk1 hk2 hk3 hk4 hk5 hk6 hk7 hk8
  go_enter Try.func88, Try.ntmps88
  go_wp2_with fail
  go_ret
  exact ⟨rfl, HX.out⟩

end Go.Proofs.Ytgbfeagoadlhmaa
