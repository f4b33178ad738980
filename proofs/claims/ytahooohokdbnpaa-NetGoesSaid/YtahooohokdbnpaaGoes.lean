
/-
  The law NetGoes, walked.
-/
import Derived.Test.YtahooohokdbnpaaAsN
set_option linter.unusedVariables false
set_option linter.unusedSimpArgs false
namespace Go.Proofs.Ytahooohokdbnpaa
open Go.RowKit Go.Shelf Go.Maps Pl

attribute [local go_sem] Oper.semAt_some

/-- a net of m ends behind acts -/
def goN (m : Nat) (fs : List Ac) : Nt := fs.foldl doN (newN m)
theorem goN_succ (m : Nat) (fs : List Ac) (k : Nat) (h : k < fs.length) : goN m (fs.take (k + 1)) = doN (goN m (fs.take k)) (fs.getD k ac0) := by
  unfold goN
  rw [List.take_succ_eq_append_getElem h, List.foldl_append]
  simp [List.getD_eq_getElem?_getD, h]

set_option maxHeartbeats 4000000 in
set_option maxRecDepth 100000 in
theorem goes_any (w : World) (z : Int) (hz : I64 z) (A : Option Addr) (fs : List Ac) (n c : Nat) (hn : n = fs.length) (hF : Acs w A fs) (hl : n ≤ 9223372036854775807) (hok : ∀ i, i < fs.length → I64 (fs.getD i ac0).a ∧ I64 (fs.getD i ac0).b) :
    Calls Try.prog 6 #[.int .i64 z, .slice A n c] w fun e w' => e = .returned (.bool true) ∧ Ext w w' := by
  have HF := Lib.hid hF
  have HOK := Lib.hid hok
  have HN := Lib.hid hn
  have KM := Lib.hid (muchN_any w A fs n c hn hF hl)
  clear hF hok hn
  go_enter Try.func6, Try.ntmps6
  go_wp2_with fail
  refine KM.out.mono ?_
  rintro e w1 ⟨mb, rfl, hmb, hE1⟩
  have HE1 := Lib.hid hE1
  have HMB := Lib.hid hmb
  clear hE1 hmb KM
  cases mb with
  | true =>
    clear HMB
    go_wp2_with fail
    refine (known_net w1).mono ?_
    rintro e w2 ⟨rfl, hE2⟩
    have HE2 := Lib.hid (HE1.out.trans hE2)
    clear hE2
    go_wp2_with fail
    go_ret
    exact ⟨rfl, HE2.out⟩
  | false =>
  obtain ⟨hl60, hbl⟩ := HMB.out rfl
  have HBL := Lib.hid hbl
  rw [← HN.out] at hl60
  clear HMB hbl
  by_cases h15 : 1 ≤ z ∧ z ≤ 5
  · obtain ⟨m, rfl⟩ : ∃ m : Nat, z = (m : Int) := ⟨z.toNat, by omega⟩
    have hd1 : decide ((m : Int) < 1) = false := decide_eq_false (by omega)
    have hd2 : decide ((5 : Int) < (m : Int)) = false := decide_eq_false (by omega)
    have HK := Lib.hid (New_net w1 m (by omega) (by omega))
    have hm5 : m ≤ 5 := by omega
    have hm1 : 1 ≤ m := by omega
    clear h15 hz
    go_wp2_with fail
    refine HK.out.mono ?_
    rintro e w2 ⟨S0, g, rfl, hN1, hS1, hE1⟩
    have HN1 := Lib.hid hN1
    have HS1 : Hid (∀ k, S0 k → w.heap.size ≤ k) := Lib.hid (fun k hk => Nat.le_trans HE1.out.size (hS1 k hk))
    have HE2 := Lib.hid (HE1.out.trans hE1)
    have HR1 : Hid (RefAt (w2.alloc (.cells #[Value.slice none 0 0, Value.slice none 0 0, Value.slice none 0 0, Value.slice none 0 0, Value.slice none 0 0, Value.slice none 0 0, Value.slice none 0 0, Value.slice none 0 0, Value.slice none 0 0, Value.slice none 0 0, Value.slice none 0 0, Value.slice none 0 0, Value.slice none 0 0, Value.slice none 0 0, Value.slice none 0 0, Value.slice none 0 0, Value.slice none 0 0, Value.slice none 0 0, Value.slice none 0 0, Value.slice none 0 0, Value.slice none 0 0, Value.slice none 0 0, Value.slice none 0 0, Value.slice none 0 0, Value.slice none 0 0, Value.slice none 0 0, Value.slice none 0 0, Value.slice none 0 0, Value.slice none 0 0, Value.slice none 0 0, Value.slice none 0 0, Value.slice none 0 0, Value.slice none 0 0, Value.slice none 0 0, Value.slice none 0 0, Value.slice none 0 0, Value.int .i64 (m : Int), Value.int .i64 0] 34)) (fun k => k = w2.heap.size) w2.heap.size (newN m)) := Lib.hid (ref_new w2 m hm1 hm5)
    have HX1 := Lib.hid (ext_new w2 (.cells #[Value.slice none 0 0, Value.slice none 0 0, Value.slice none 0 0, Value.slice none 0 0, Value.slice none 0 0, Value.slice none 0 0, Value.slice none 0 0, Value.slice none 0 0, Value.slice none 0 0, Value.slice none 0 0, Value.slice none 0 0, Value.slice none 0 0, Value.slice none 0 0, Value.slice none 0 0, Value.slice none 0 0, Value.slice none 0 0, Value.slice none 0 0, Value.slice none 0 0, Value.slice none 0 0, Value.slice none 0 0, Value.slice none 0 0, Value.slice none 0 0, Value.slice none 0 0, Value.slice none 0 0, Value.slice none 0 0, Value.slice none 0 0, Value.slice none 0 0, Value.slice none 0 0, Value.slice none 0 0, Value.slice none 0 0, Value.slice none 0 0, Value.slice none 0 0, Value.slice none 0 0, Value.slice none 0 0, Value.slice none 0 0, Value.slice none 0 0, Value.int .i64 (m : Int), Value.int .i64 0] 34))
    have HS0 := Lib.hid hN1.lt
    have HGS := Lib.hid HE2.out.size
    clear hN1 hS1 hE1 HK
    go_wp2_with fail
    refine (num4_any _ _).mono ?_
    rintro e w' ⟨rfl, rfl⟩
    generalize w2.alloc (.cells #[Value.slice none 0 0, Value.slice none 0 0, Value.slice none 0 0, Value.slice none 0 0, Value.slice none 0 0, Value.slice none 0 0, Value.slice none 0 0, Value.slice none 0 0, Value.slice none 0 0, Value.slice none 0 0, Value.slice none 0 0, Value.slice none 0 0, Value.slice none 0 0, Value.slice none 0 0, Value.slice none 0 0, Value.slice none 0 0, Value.slice none 0 0, Value.slice none 0 0, Value.slice none 0 0, Value.slice none 0 0, Value.slice none 0 0, Value.slice none 0 0, Value.slice none 0 0, Value.slice none 0 0, Value.slice none 0 0, Value.slice none 0 0, Value.slice none 0 0, Value.slice none 0 0, Value.slice none 0 0, Value.slice none 0 0, Value.slice none 0 0, Value.slice none 0 0, Value.slice none 0 0, Value.slice none 0 0, Value.slice none 0 0, Value.slice none 0 0, Value.int .i64 (m : Int), Value.int .i64 0] 34) = w3 at *
    generalize Value.agg #[Value.slice none 0 0, Value.slice none 0 0, Value.slice none 0 0, Value.slice none 0 0, Value.slice none 0 0, Value.slice none 0 0, Value.slice none 0 0, Value.slice none 0 0, Value.slice none 0 0, Value.slice none 0 0, Value.slice none 0 0, Value.slice none 0 0, Value.slice none 0 0, Value.slice none 0 0, Value.slice none 0 0, Value.slice none 0 0, Value.slice none 0 0, Value.slice none 0 0, Value.slice none 0 0, Value.slice none 0 0, Value.slice none 0 0, Value.slice none 0 0, Value.slice none 0 0, Value.slice none 0 0, Value.slice none 0 0, Value.slice none 0 0, Value.slice none 0 0, Value.slice none 0 0, Value.slice none 0 0, Value.slice none 0 0, Value.slice none 0 0, Value.slice none 0 0, Value.slice none 0 0, Value.slice none 0 0, Value.slice none 0 0, Value.slice none 0 0, Value.int .i64 (m : Int), Value.int .i64 0] = ag
    have HE3 := Lib.hid (HE2.out.trans HX1.out)
    have hP3 : Pr2 w3 S0 (fun k => k = w2.heap.size) g w2.heap.size 0 (newN m) := ⟨HN1.out.ext HX1.out, HR1.out, fun k hk e => by have := HS0.out k hk; omega⟩
    have HP3 := Lib.hid hP3
    have HTL : Hid (∀ k, (fun k => k = w2.heap.size) k → w.heap.size ≤ k) := Lib.hid (fun k e => by have e' : k = w2.heap.size := e; have := HGS.out; omega)
    clear hP3
    generalize (fun k => k = w2.heap.size) = T0 at *
    generalize w2.heap.size = r at *
    clear HN1 HE2 HX1 HR1 HS0 HGS
    have HSU : Hid (∀ k, k < n → goN m (fs.take (k + 1)) = doN (goN m (fs.take k)) (fs.getD k ac0)) := Lib.hid (fun k hk => goN_succ m fs k (by have := HN.out; omega))
    have HG0 : Hid (goN m (fs.take 0) = newN m) := Lib.hid rfl
    go_wp2_with fail
    refine (as_law HP3.out).mono ?_
    rintro e w4 ⟨rfl, hE4⟩
    have HP4 := Lib.hid (HP3.out.ext hE4)
    have HE4 := Lib.hid (HE3.out.trans hE4)
    clear hE4 HP3 HE3
    go_wp2_with fail
    go_loopw [8] (fun i wr => ∃ k : Nat, k ≤ n ∧ i = .int .i64 (k : Int) ∧ ∃ S T, Pr2 wr S T g r (70 * k) (goN m (fs.take k)) ∧ (∀ q, S q → w.heap.size ≤ q) ∧ (∀ q, T q → w.heap.size ≤ q) ∧ Ext w wr) (fun i _ => n - (intOf i).toNat)
    case atStart => exact ⟨0, Nat.zero_le _, rfl, S0, T0, by rw [HG0.out]; exact HP4.out, HS1.out, HTL.out, HE4.out⟩
    case round =>
      obtain ⟨k, hk, rfl, S, T, hP, hS, hT, hE⟩ := hrel
      have HP := Lib.hid hP
      have HS := Lib.hid hS
      have HT := Lib.hid hT
      have HE := Lib.hid hE
      clear hP hS hT hE HP4 HS1 HTL HE4 HG0
      by_cases hkn : k < n
      · have hd : decide ((k : Int) < (n : Int)) = true := decide_eq_true (by omega)
        obtain ⟨b, o, rfl, d0, d1, d2, Ai, ci, d3, hby⟩ := HF.out.at_ (i := k) (by have := HN.out; omega)
        have c0 := HE.out.cell d0
        have c1 := HE.out.cell d1
        have c2 := HE.out.cell d2
        have c3 := HE.out.cell d3
        obtain ⟨ok1, ok2⟩ := HOK.out k (by have := HN.out; omega)
        have ok3 := HBL.out k (by have := HN.out; omega)
        have HSTT : Hid (∀ q, (S q ∨ q = r) → w.heap.size ≤ q) := Lib.hid (fun q hq => hq.elim (HS.out q) (fun e => by rw [e]; exact HT.out r HP.out.2.1.2.2.1))
        have KD := do_law HP.out (fs.getD k ac0) Ai ci (fun W hW => hby.ext (hW.ext HE.out HSTT.out)) ok3 ok1 ok2 (by omega)
        unfold acC at KD
        have KD := Lib.hid KD
        rw [← HSU.out k hkn] at KD
        clear ok1 ok2 ok3 hby d0 d1 d2 d3
        generalize fs.getD k ac0 = s at *
        go_wp2_with fail
        refine KD.out.mono ?_
        rintro e w5 ⟨rfl, S', T', hP, hG1, hG2, hC⟩
        have HP5 := Lib.hid (hP.mono (nb' := 70 * (k + 1)) (by omega))
        have HS5 : Hid (∀ q, S' q → w.heap.size ≤ q) := Lib.hid (fun q hq => (hG1 q hq).elim (HS.out q) (fun h => Nat.le_trans HE.out.size h))
        have HT5 : Hid (∀ q, T' q → w.heap.size ≤ q) := Lib.hid (fun q hq => (hG2 q hq).elim (HT.out q) (fun h => Nat.le_trans HE.out.size h))
        have HE5 := Lib.hid (hC.ext HE.out HSTT.out)
        clear hP hG1 hG2 hC c0 c1 c2 c3
        go_wp2_with fail
        refine (as_law HP5.out).mono ?_
        rintro e w6 ⟨rfl, hE6⟩
        have HE6 := Lib.hid hE6
        clear hE6
        go_wp2_with fail
        exact ⟨⟨k + 1, by omega, by go_num, S', T', HP5.out.ext HE6.out, HS5.out, HT5.out, HE5.out.trans HE6.out⟩, by simp [intOf]; omega⟩
      · obtain rfl : k = n := by omega
        have hd : decide ((k : Int) < (k : Int)) = false := decide_eq_false (by omega)
        go_wp2_with fail
        refine (known_net _).mono ?_
        rintro e w6 ⟨rfl, hE6⟩
        have HE6 := Lib.hid (HE.out.trans hE6)
        clear hE6
        go_wp2_with fail
        go_ret
        exact ⟨rfl, HE6.out⟩
  · have HK := Lib.hid (New_no w1 z h15)
    by_cases h1 : z < 1
    · have hd1 : decide (z < 1) = true := decide_eq_true h1
      clear h1 h15
      go_wp2_with fail
      refine HK.out.mono ?_
      rintro e w' ⟨rfl, rfl⟩
      go_wp2_with fail
      refine (num4_any _ _).mono ?_
      rintro e w' ⟨rfl, rfl⟩
      go_wp2_with fail
      refine (known_net _).mono ?_
      rintro e w6 ⟨rfl, hE6⟩
      have HE6 := Lib.hid (HE1.out.trans hE6)
      clear hE6
      go_wp2_with fail
      go_ret
      exact ⟨rfl, HE6.out⟩
    · have hd1 : decide (z < 1) = false := decide_eq_false h1
      have hd2 : decide ((5 : Int) < z) = true := decide_eq_true (by omega)
      clear h1 h15
      go_wp2_with fail
      refine HK.out.mono ?_
      rintro e w' ⟨rfl, rfl⟩
      go_wp2_with fail
      refine (num4_any _ _).mono ?_
      rintro e w' ⟨rfl, rfl⟩
      go_wp2_with fail
      refine (known_net _).mono ?_
      rintro e w6 ⟨rfl, hE6⟩
      have HE6 := Lib.hid (HE1.out.trans hE6)
      clear hE6
      go_wp2_with fail
      go_ret
      exact ⟨rfl, HE6.out⟩

end Go.Proofs.Ytahooohokdbnpaa
