
/-
  The law NetRoom, walked.
-/
import Derived.Test.YtahooohokdbnpaaRoomP
set_option linter.unusedVariables false
set_option linter.unusedSimpArgs false
namespace Go.Proofs.Ytahooohokdbnpaa
open Go.RowKit Go.Shelf Go.Maps Pl

attribute [local go_sem] Oper.semAt_some

theorem lit1_by (w : World) : By (w.alloc (.cells #[.int .u8 1] 5)) (some ⟨w.heap.size, 0, none⟩) [1] :=
  .inr ⟨w.heap.size, 0, rfl, fun i hi => by
    obtain rfl : i = 0 := by simp at hi; omega
    rw [cell_of_row _ _ _ _ _ (0, 0) (World.alloc_heap_new w _)]
    rfl⟩
theorem lineN_le {N : Nt} (h : OkN N) (a b : Int) : lineN N a b ≤ 32 := by
  unfold lineN
  split
  · exact h.full _
  · omega
/-- At, at a place that is there -/
theorem at_place {w : World} {S : Nat → Prop} {g nb : Nat} {N : Nt} (h : NetAt w S g nb N) {F : List Fl} (hF : flN N = F) {j : Nat} (hj : j < F.length) (hl : F.length ≤ 1000) :
    Calls Try.prog 24 #[.pointer (some ⟨g, 0, none⟩), .int .i64 (j : Int)] w fun e w' => ∃ A c, e = .returned (.tuple #[.agg #[.int .i64 ((F.getD j fl0).from_ : Int), .int .i64 ((F.getD j fl0).to_ : Int), .slice A (F.getD j fl0).b.length c], .int .i64 0]) ∧ Ext w w' := by
  subst hF
  have K := At_net h (j : Int) (by unfold I64; omega)
  rw [atF_of hj, atE_nat hj] at K
  refine K.mono ?_
  rintro e w1 ⟨vb, rfl, hb, hE⟩
  obtain ⟨A, c, rfl, _⟩ := hb
  exact ⟨A, c, rfl, hE⟩

set_option maxHeartbeats 4000000 in
set_option maxRecDepth 100000 in
theorem room_any (w : World) (A : Option Addr) (fs : List Ac) (n c : Nat) (hn : n = fs.length) (hF : Acs w A fs) (hl : n ≤ 9223372036854775807) (hok : ∀ i, i < fs.length → I64 (fs.getD i ac0).a ∧ I64 (fs.getD i ac0).b)
    (a b z : Int) (ha : I64 a) (hb : I64 b) (hz : I64 z) :
    Calls Try.prog 7 #[.slice A n c, .int .i64 a, .int .i64 b, .int .i64 z] w fun e w' => e = .returned (.bool true) ∧ Ext w w' := by
  have HOK := Lib.hid hok
  have HN := Lib.hid hn
  have HF := Lib.hid hF
  have HIA := Lib.hid ha
  have HIB := Lib.hid hb
  have HIZ := Lib.hid hz
  have KM := Lib.hid (muchN_any w A fs n c hn hF hl)
  clear hF hok hn ha hb hz
  go_enter Try.func7, Try.ntmps7
  go_wp2_with fail
  refine KM.out.mono ?_
  rintro e w1 ⟨mb, rfl, hmb, hE1⟩
  have HE1 := Lib.hid hE1
  have HMB := Lib.hid hmb
  have HF1 := Lib.hid (HF.out.ext hE1)
  clear hE1 hmb KM HF
  cases mb with
  | true =>
    clear HMB
    go_wp2_with fail
    refine (known_net w1).mono ?_
    rintro e w2 ⟨rfl, hE2⟩
    have HE2 := Lib.hid (HE1.out.trans hE2)
    clear hE2
    go_wp2_with fail
    go_ret
    exact ⟨rfl, HE2.out⟩
  | false =>
  obtain ⟨hl60, hbl⟩ := HMB.out rfl
  rw [← HN.out] at hl60
  have HP := Lib.hid (pair_law w1 A fs n c HN.out HF1.out hl60 (fun i hi => ⟨(HOK.out i hi).1, (HOK.out i hi).2, hbl i hi⟩))
  clear HMB hbl HOK HF1
  go_wp2_with fail
  refine HP.out.mono ?_
  rintro e w2 ⟨S, T, g, r, rfl, hP, hS, hT, hE2⟩
  have HS := Lib.hid (fun k hk => Nat.le_trans HE1.out.size (hS k hk))
  have HT := Lib.hid (fun k hk => Nat.le_trans HE1.out.size (hT k hk))
  have HE2 := Lib.hid (HE1.out.trans hE2)
  have HP2 := Lib.hid (hP.mono (nb' := 4200) (by omega))
  have HEN := Lib.hid (actsN_ends fs)
  clear hP hS hT hE2 HP
  generalize actsN fs = N at *
  have KL := Lib.hid (Line_net HP2.out.1 HIA.out HIB.out)
  have KO := Lib.hid (Lost_net HP2.out.1)
  have hln := lineN_le HP2.out.1.1 a b
  have hlo : N.lost ≤ 4200 := HP2.out.1.2.1
  obtain ⟨ln, hlne⟩ : ∃ ln, lineN N a b = ln := ⟨_, rfl⟩
  obtain ⟨lo, hloe⟩ : ∃ lo, N.lost = lo := ⟨_, rfl⟩
  rw [hlne] at KL hln
  rw [hloe] at KO hlo
  have HLN := Lib.hid hlne
  have HLO := Lib.hid hloe
  obtain ⟨rm, hrm0⟩ : ∃ rm : Nat, rm = 32 - ln := ⟨_, rfl⟩
  have hrm : (32 : Int) - (ln : Int) = (rm : Int) := by omega
  have hrm32 : rm ≤ 32 := by omega
  have HRM : Hid (ln + rm = 32) := Lib.hid (by omega)
  clear hlne hloe hrm0
  go_wp2_with fail
  refine KL.out.mono ?_
  rintro e w' ⟨rfl, rfl⟩
  go_wp2_with fail
  refine KO.out.mono ?_
  rintro e w' ⟨rfl, rfl⟩
  clear KL KO
  by_cases hg : 1 ≤ a ∧ a ≤ 4 ∧ 1 ≤ b ∧ b ≤ 4 ∧ a ≠ b
  · obtain ⟨p, rfl⟩ : ∃ p : Nat, a = (p : Int) := ⟨a.toNat, by omega⟩
    obtain ⟨q, rfl⟩ : ∃ q : Nat, b = (q : Int) := ⟨b.toNat, by omega⟩
    have d1 : decide ((p : Int) < 1) = false := decide_eq_false (by omega)
    have d2 : decide ((q : Int) < 1) = false := decide_eq_false (by omega)
    have d3 : decide ((4 : Int) < (p : Int)) = false := decide_eq_false (by omega)
    have d4 : decide ((4 : Int) < (q : Int)) = false := decide_eq_false (by omega)
    have d5 : ((p : Int) == (q : Int)) = false := by rw [beq_eq_false_iff_ne]; omega
    have hp : 1 ≤ p ∧ p ≤ 4 := by omega
    have hq : 1 ≤ q ∧ q ≤ 4 := by omega
    have hne : p ≠ q := by omega
    have HPQ := Lib.hid (And.intro hp (And.intro hq hne))
    have HLP : Hid ((N.L (p, q)).length + rm = 32) := Lib.hid (by have h := (twoB_nat (N := N) (by rw [HEN.out]; exact hp) (by rw [HEN.out]; exact hq) hne).2.2.1; rw [HLN.out] at h; have := HRM.out; omega)
    have HSU : Hid (∀ k, k < rm → sendE (fillN N (p, q) k) (p : Int) (q : Int) ([] : List UInt8).length = 0 ∧ sendN (fillN N (p, q) k) (p : Int) (q : Int) [] = fillN N (p, q) (k + 1)) := Lib.hid (fun k hk => by
      have h := send_room (N := fillN N (p, q) k) (p := p) (q := q) (l := []) (by show _ ∧ _ ≤ N.ends; rw [HEN.out]; exact hp) (by show _ ∧ _ ≤ N.ends; rw [HEN.out]; exact hq) hne (Nat.zero_le _) (by rw [fillN_len]; have := HLP.out; omega)
      exact ⟨h.1, by rw [h.2, fillN_push]⟩)
    have HS0 : Hid (fillN N (p, q) 0 = N) := Lib.hid (fillN_zero N (p, q))
    clear hg hp hq hne
    go_wp2_with fail
    go_loopw [13] (fun i wr => ∃ k : Nat, k ≤ rm ∧ i = .int .i64 (k : Int) ∧ ∃ S T, Pr2 wr S T g r (4200 + k) (fillN N (p, q) k) ∧ (∀ q, S q → w.heap.size ≤ q) ∧ (∀ q, T q → w.heap.size ≤ q) ∧ Ext w wr) (fun i _ => rm - (intOf i).toNat)
    case atStart => exact ⟨0, Nat.zero_le _, rfl, S, T, by rw [HS0.out]; exact HP2.out, HS.out, HT.out, HE2.out⟩
    case round =>
      obtain ⟨k, hk, rfl, S, T, hP, hS, hT, hE⟩ := hrel
      have HP := Lib.hid hP
      have HS := Lib.hid hS
      have HT := Lib.hid hT
      have HE := Lib.hid hE
      clear hP hS hT hE HP2 HE2
      by_cases hkr : k < rm
      · have hd : decide ((k : Int) < (rm : Int)) = true := decide_eq_true (by omega)
        obtain ⟨e1, e2⟩ := HSU.out k hkr
        have KS := Send_net (l := []) (A := none) (c := 0) HP.out.1 HIA.out HIB.out (by omega) By.nil (Nat.zero_le _)
        rw [e1, e2, List.length_nil] at KS
        have KS := Lib.hid KS
        have HE12 := Lib.hid (And.intro e1 e2)
        clear e1 e2
        go_wp2_with fail
        refine KS.out.mono ?_
        rintro e w3 ⟨rfl, S3, hN3, hG3, hC3⟩
        obtain ⟨n1, n2, n3⟩ := net_then HP.out.1 HP.out.2.1 HP.out.2.2 hN3 hG3 hC3
        have KR := Send_ref (l := []) (A := none) (c := 0) n1 (p : Int) (q : Int) (by have := HP.out.1.2.1; omega) By.nil (Nat.zero_le _)
        rw [HE12.out.1, HE12.out.2, List.length_nil] at KR
        have KR := Lib.hid KR
        have HN3 := Lib.hid hN3
        have HR3 := Lib.hid n1
        have HD3 := Lib.hid n2
        have HE3 := Lib.hid (hC3.ext HE.out HS.out)
        have HS3 : Hid (∀ k, S3 k → w.heap.size ≤ k) := Lib.hid (fun k hk => (hG3 k hk).elim (HS.out k) (fun h => Nat.le_trans HE.out.size h))
        clear hN3 hG3 hC3 n1 n2 n3 KS
        go_wp2_with fail
        refine (num4_any _ _).mono ?_
        rintro e w' ⟨rfl, rfl⟩
        go_wp2_with fail
        refine KR.out.mono ?_
        rintro e w4 ⟨rfl, T4, hR4, hG4, hC4⟩
        obtain ⟨n1, n2, n3⟩ := ref_then HN3.out HR3.out HD3.out hR4 hG4 hC4
        have HP4 : Hid (Pr2 w4 S3 T4 g r (4200 + (k + 1)) (fillN N (p, q) (k + 1))) := Lib.hid ⟨n1, hR4, n2⟩
        have HT4 : Hid (∀ k, T4 k → w.heap.size ≤ k) := Lib.hid (fun k hk => (hG4 k hk).elim (HT.out k) (fun h => Nat.le_trans HE3.out.size h))
        have HE4 := Lib.hid (hC4.ext HE3.out (fun k e => by rw [e]; exact HT.out r HP.out.2.1.2.2.1))
        clear hR4 hG4 hC4 n1 n2 n3 KR
        go_wp2_with fail
        exact ⟨⟨k + 1, by omega, by go_num, S3, T4, HP4.out, HS3.out, HT4.out, HE4.out⟩, by simp [intOf]; omega⟩
      · obtain rfl : k = rm := by omega
        have hd : decide ((k : Int) < (k : Int)) = false := decide_eq_false (by omega)
        have HP := Lib.hid (HP.out.mono (nb' := 4300) (by omega))
        have HFL : Hid (((fillN N (p, q) k).L (p, q)).length = 32) := Lib.hid (by rw [fillN_len]; exact HLP.out)
        have HEN1 : Hid ((fillN N (p, q) k).ends = 4) := Lib.hid HEN.out
        have HLO1 : Hid ((fillN N (p, q) k).lost = lo) := Lib.hid HLO.out
        clear HSU HS0 HLP HEN HLO HLN HRM hrm
        generalize fillN N (p, q) k = N1 at *
        obtain ⟨e1, e2⟩ := send_full (N := N1) (p := p) (q := q) (l := [1]) (by rw [HEN1.out]; exact HPQ.out.1) (by rw [HEN1.out]; exact HPQ.out.2.1) HPQ.out.2.2 (by simp) (by rw [HFL.out]; omega)
        have HE12 := Lib.hid (And.intro e1 e2)
        have HX1 := Lib.hid (ext_new wr (.cells #[.int .u8 1] 5))
        have KS := Send_net (l := [1]) (c := 1) (HP.out.1.ext HX1.out) HIA.out HIB.out (by omega) (lit1_by wr) (by simp)
        rw [e1, e2, show ([1] : List UInt8).length = 1 from rfl] at KS
        have KS := Lib.hid KS
        clear e1 e2 d1 d2 d3 d4 d5
        go_wp2_with fail
        refine KS.out.mono ?_
        rintro e w3 ⟨rfl, S3, hN3, hG3, hC3⟩
        obtain ⟨n1, n2, n3⟩ := net_then (HP.out.1.ext HX1.out) (HP.out.2.1.ext HX1.out) HP.out.2.2 hN3 hG3 hC3
        have HX3 := Lib.hid (ext_new w3 (.cells #[.int .u8 1] 5))
        have HE3 := Lib.hid ((hC3.ext (HE.out.trans HX1.out) HS.out).trans HX3.out)
        have KR := Send_ref (l := [1]) (c := 1) (n1.ext HX3.out) (p : Int) (q : Int) (by have := HP.out.1.2.1; omega) (lit1_by w3) (by simp)
        rw [HE12.out.1, HE12.out.2, show ([1] : List UInt8).length = 1 from rfl] at KR
        have KR := Lib.hid KR
        have HN3 := Lib.hid (hN3.ext HX3.out)
        have HR3 := Lib.hid (n1.ext HX3.out)
        have HD3 := Lib.hid n2
        have HS3 : Hid (∀ k, S3 k → w.heap.size ≤ k) := Lib.hid (fun k hk => (hG3 k hk).elim (HS.out k) (fun h => Nat.le_trans (HE.out.trans HX1.out).size h))
        clear hN3 hG3 hC3 n1 n2 n3 KS HX1 HX3
        go_wp2_with fail
        refine (num4_any _ _).mono ?_
        rintro e w' ⟨rfl, rfl⟩
        go_wp2_with fail
        refine KR.out.mono ?_
        rintro e w4 ⟨rfl, T4, hR4, hG4, hC4⟩
        obtain ⟨n1, n2, n3⟩ := ref_then HN3.out HR3.out HD3.out hR4 hG4 hC4
        have HP4 : Hid (Pr2 w4 S3 T4 g r (4300 + 1) { N1 with lost := N1.lost + 1 }) := Lib.hid ⟨n1, hR4, n2⟩
        have HT4 : Hid (∀ k, T4 k → w.heap.size ≤ k) := Lib.hid (fun k hk => (hG4 k hk).elim (HT.out k) (fun h => Nat.le_trans HE3.out.size h))
        have HE4 := Lib.hid (hC4.ext HE3.out (fun k e => by rw [e]; exact HT.out r HP.out.2.1.2.2.1))
        have HFL2 : Hid ((({ N1 with lost := N1.lost + 1 } : Nt).L (p, q)).length = 32) := HFL
        have HEN2 : Hid (({ N1 with lost := N1.lost + 1 } : Nt).ends = 4) := HEN1
        have HLO2 : Hid (({ N1 with lost := N1.lost + 1 } : Nt).lost = lo + 1) := Lib.hid (by show N1.lost + 1 = _; rw [HLO1.out])
        clear hR4 hG4 hC4 n1 n2 n3 KR HN3 HR3 HD3 HE12 HP HE3 HFL HEN1 HLO1 HS HT HE
        generalize ({ N1 with lost := N1.lost + 1 } : Nt) = N2 at *
        have KO := Lost_net HP4.out.1
        rw [HLO2.out, show ((lo + 1 : Nat) : Int) = (lo : Int) + 1 by omega] at KO
        have KO := Lib.hid KO
        have hlol : (lo : Int) + 1 ≤ 5000 := by omega
        have hbne : ((lo : Int) + 1 != (lo : Int) + 1) = false := by simp
        go_wp2_with fail
        refine KO.out.mono ?_
        rintro e w' ⟨rfl, rfl⟩
        go_wp2_with fail
        refine (as_law HP4.out).mono ?_
        rintro e w5 ⟨rfl, hE5⟩
        have HP5 := Lib.hid (HP4.out.1.ext hE5)
        have HE5 := Lib.hid (HE4.out.trans hE5)
        have hfl := flN_length HP5.out.1
        obtain ⟨j0, hj0, hjl, hjm⟩ := first_of (N := N2) (p := (p, q)) ((mem_linesOf _ _).2 (by rw [HEN2.out]; exact ⟨HPQ.out.1, HPQ.out.2.1⟩)) (by rw [HFL2.out]; omega)
        have HAT := Lib.hid (atE_nat hj0)
        have HAF := Lib.hid (atF_of hj0)
        obtain ⟨F, hF⟩ : ∃ F, flN N2 = F := ⟨_, rfl⟩
        rw [hF] at hfl hj0 hjl hjm HAF
        have HJL := Lib.hid hjl
        have HJM := Lib.hid hjm
        have KAT := Lib.hid (fun W (hW : Ext w5 W) j (hj : j ≤ j0) => at_place (HP5.out.ext hW) hF (j := j) (by omega) (by omega))
        have KA0 := KAT.out w5 (Ext.refl _) 0 (Nat.zero_le _)
        rw [show ((0 : Nat) : Int) = 0 from rfl] at KA0
        obtain ⟨f0, hf0⟩ : ∃ f0, F.getD 0 fl0 = f0 := ⟨_, rfl⟩
        have HF0 := Lib.hid hf0
        rw [hf0] at KA0
        clear hf0
        have KA0 := Lib.hid KA0
        have HF := Lib.hid hF
        clear hE5 HP4 HE4 hjl hjm KO hF hbne
        go_wp2_with fail
        refine KA0.out.mono ?_
        rintro e w6 ⟨A6, c6, rfl, hE6⟩
        have HX6 := Lib.hid (ext_new w6 (.cells #[.int .i64 (f0.from_ : Int), .int .i64 (f0.to_ : Int), .slice A6 f0.b.length c6] 45))
        have HB6 := Lib.hid (Blk.new w6 45 #[.int .i64 (f0.from_ : Int), .int .i64 (f0.to_ : Int), .slice A6 f0.b.length c6])
        have HE6 := Lib.hid (hE6.trans HX6.out)
        have hs6 := hE6.size
        clear hE6 HX6 KA0
        go_wp2_with fail
        generalize w6.alloc (.cells #[.int .i64 (f0.from_ : Int), .int .i64 (f0.to_ : Int), .slice A6 f0.b.length c6] 45) = w7 at *
        generalize w6.heap.size = b6 at *
        go_loopw [14, 15, 16] (fun pl pf pe wr => ∃ (j bf : Nat) (Ab : Option Addr) (nn cb : Nat), j ≤ j0 ∧ pl = .int .i64 (j : Int) ∧ pf = .pointer (some ⟨bf, 0, none⟩) ∧ pe = .int .i64 0 ∧ Blk wr bf 45 #[.int .i64 ((F.getD j fl0).from_ : Int), .int .i64 ((F.getD j fl0).to_ : Int), .slice Ab nn cb] ∧ w5.heap.size ≤ bf ∧ Ext w5 wr) (fun pl _ _ _ => j0 - (intOf pl).toNat)
        case atStart => exact ⟨0, b6, A6, _, c6, Nat.zero_le _, rfl, rfl, rfl, by rw [HF0.out]; exact HB6.out, hs6, HE6.out⟩
        case round =>
          obtain ⟨j, bf, Ab, nn, cb, hj, rfl, rfl, rfl, hBf, hbf, hE⟩ := hrel
          have HBf := Lib.hid hBf
          have HE := Lib.hid hE
          obtain ⟨x0, x1, x2⟩ := cell3 hBf
          have HJ0 : Hid ((F.getD j fl0).line = (p, q) → j = j0) := Lib.hid (fun h => by
            rcases Nat.lt_or_ge j j0 with h1 | h1
            · exact absurd h (HJM.out j h1)
            · omega)
          have HJ1 : Hid (j = j0 → (F.getD j fl0).line = (p, q)) := Lib.hid (fun h => by rw [h]; exact HJL.out)
          have HLI : Hid ((F.getD j fl0).line = ((F.getD j fl0).from_, (F.getD j fl0).to_)) := Lib.hid rfl
          rw [HLI.out] at HJ0 HJ1
          clear hBf hE HB6 HE6 HLI
          generalize (F.getD j fl0).from_ = fa at *
          generalize (F.getD j fl0).to_ = ft at *
          by_cases hjj : j < j0
          · have KA := KAT.out wr HE.out (j + 1) (by omega)
            have KAW := Lib.hid (fun W (hW : Ext w5 W) => KAT.out W hW (j + 1) (by omega))
            rw [show ((j + 1 : Nat) : Int) = (j : Int) + 1 by omega] at KAW
            obtain ⟨fj, hfj⟩ : ∃ fj, F.getD (j + 1) fl0 = fj := ⟨_, rfl⟩
            have HFJ := Lib.hid hfj
            rw [hfj] at KAW
            have HX8 := Lib.hid (ext_new wr (.cells #[.int .i64 (fa : Int), .int .i64 (ft : Int), .slice Ab nn cb] 45))
            have HB8 := Lib.hid (Blk.new wr 45 #[.int .i64 (fa : Int), .int .i64 (ft : Int), .slice Ab nn cb])
            have HS8 : Hid (w5.heap.size ≤ wr.heap.size) := Lib.hid HE.out.size
            have hcs : (((fa : Int) != (p : Int)) = true) ∨ (((fa : Int) != (p : Int)) = false ∧ ((ft : Int) != (q : Int)) = true) := by
              have := HJ0.out
              by_cases h1 : fa = p
              · by_cases h2 : ft = q
                · have := this (by rw [h1, h2]); omega
                · right
                  exact ⟨by simp [h1], by rw [bne_iff_ne]; omega⟩
              · left; rw [bne_iff_ne]; omega
            clear KA hfj HJ0 HJ1
            rcases hcs with g1 | ⟨g1, g2⟩
            all_goals
              go_wp2_with fail
              refine (num4_any _ _).mono ?_
              rintro e w' ⟨rfl, rfl⟩
              go_wp2_with fail
              refine (KAW.out _ (HE.out.trans HX8.out)).mono ?_
              rintro e w9 ⟨A9, c9, rfl, hE9⟩
              have HB9 := Lib.hid (HB8.out.ext hE9)
              have HE9 := Lib.hid ((HE.out.trans HX8.out).trans hE9)
              clear hE9 HB8 HX8 KAW
              go_wp2_with (refine wpList_store_row rfl 45 _ _ rfl _ _ rfl rfl _ _ HB9.out (Try.flSize _ _ _) rfl (fl_one _ _ _ _ _) ?_)
              exact ⟨⟨j + 1, wr.heap.size, A9, _, c9, by omega, by go_num, rfl, rfl, by rw [HFJ.out]; exact Blk.row HB9.out _, HS8.out, HE9.out.setRow HS8.out _⟩, by simp [intOf]; omega⟩
          · obtain rfl : j = j0 := by omega
            obtain ⟨rfl, rfl⟩ : fa = p ∧ ft = q := by
              have := HJ1.out rfl
              exact ⟨congrArg Prod.fst this, congrArg Prod.snd this⟩
            have g1 : ((fa : Int) != (fa : Int)) = false := by simp
            have g2 : ((ft : Int) != (ft : Int)) = false := by simp
            go_wp2_with fail
            refine (num4_any _ _).mono ?_
            rintro e w' ⟨rfl, rfl⟩
            have HAL : Hid ((atF N2 (j : Int)).line = (fa, ft)) := Lib.hid (by rw [HAF.out]; exact HJL.out)
            have hde : doubleE N2 (j : Int) = 5 := by unfold doubleE; rw [if_pos HAT.out, HAL.out, if_pos (by rw [HFL2.out]; omega)]
            have hdn : doubleN N2 (j : Int) = N2 := by unfold doubleN; rw [hde, if_neg (by decide)]
            have hji : I64 (j : Int) := by unfold I64; omega
            have HJI := Lib.hid hji
            have htk : takeN N2 (j : Int) = delN N2 (fa, ft) (atK N2 (j : Int)) := by unfold takeN; rw [if_pos HAT.out, HAL.out]
            have HL3 : Hid (((takeN N2 (j : Int)).L (fa, ft)).length = 31) := Lib.hid (by
              have hok := (at_ok HP5.out.1 HAT.out).2.2.2
              rw [HAL.out] at hok
              rw [htk]
              show (setL _ _ _ _).length = 31
              rw [setL_same, List.length_eraseIdx_of_lt hok, HFL2.out])
            have HEN3 : Hid ((takeN N2 (j : Int)).ends = 4) := Lib.hid (by rw [htk]; exact HEN2.out)
            have KD := Double_net (HP5.out.ext HE.out) (j : Int) hji (by omega)
            rw [hde, hdn] at KD
            have KD := Lib.hid KD
            have HE := Lib.hid (HE5.out.trans HE.out)
            clear hde hdn htk hji KAT HJM HJL HJ0 HJ1 HAF HAL HF HBf hbf HF0 hfl
            go_wp2_with fail
            refine KD.out.mono ?_
            rintro e w8 ⟨rfl, S8, hN8, hG8, hC8⟩
            clear x0 x1 x2 g1 g2
            have KT := Drop_net hN8 (j : Int) HJI.out (by omega)
            rw [HAT.out] at KT
            have KT := Lib.hid KT
            have HS8 : Hid (∀ k, S8 k → w.heap.size ≤ k) := Lib.hid (fun k hk => (hG8 k hk).elim (HS3.out k) (fun h => Nat.le_trans HE.out.size h))
            have HE8 := Lib.hid (hC8.ext HE.out HS3.out)
            clear hN8 hG8 hC8 KD
            go_wp2_with fail
            refine (num4_any _ _).mono ?_
            rintro e w' ⟨rfl, rfl⟩
            go_wp2_with fail
            refine KT.out.mono ?_
            rintro e w9 ⟨rfl, S9, hN9, hG9, hC9⟩
            generalize takeN N2 (j : Int) = N3 at *
            have HX9 := Lib.hid (ext_new w9 (.cells #[.int .u8 1] 5))
            obtain ⟨e1, e2⟩ := send_room (N := N3) (p := fa) (q := ft) (l := [1]) (by rw [HEN3.out]; exact HPQ.out.1) (by rw [HEN3.out]; exact HPQ.out.2.1) HPQ.out.2.2 (by simp) (by rw [HL3.out]; omega)
            have HN9 := Lib.hid (hN9.ext HX9.out)
            have HL4 : Hid (((pushN N3 (fa, ft) [1]).L (fa, ft)).length = 32) := Lib.hid (by show (setL _ _ _ _).length = _; rw [setL_same, List.length_append, HL3.out]; rfl)
            have HEN4 : Hid ((pushN N3 (fa, ft) [1]).ends = 4) := HEN3
            have KS := Send_net (l := [1]) (c := 1) HN9.out HIA.out HIB.out (by omega) (lit1_by w9) (by simp)
            rw [e1, e2, show ([1] : List UInt8).length = 1 from rfl] at KS
            have KS := Lib.hid KS
            have HS9 : Hid (∀ k, S9 k → w.heap.size ≤ k) := Lib.hid (fun k hk => (hG9 k hk).elim (HS8.out k) (fun h => Nat.le_trans HE8.out.size h))
            have HE9 := Lib.hid ((hC9.ext HE8.out HS8.out).trans HX9.out)
            clear hN9 hG9 hC9 KT e1 e2 HX9
            go_wp2_with fail
            refine (num4_any _ _).mono ?_
            rintro e w' ⟨rfl, rfl⟩
            go_wp2_with fail
            refine KS.out.mono ?_
            rintro e wA ⟨rfl, SA, hNA, hGA, hCA⟩
            generalize pushN N3 (fa, ft) [1] = N4 at *
            have HNA := Lib.hid (hNA.mono (nb' := 4400) (by omega))
            have KL := Line_net hNA HIA.out HIB.out
            rw [(twoB_nat (N := N4) (p := fa) (q := ft) (by rw [HEN4.out]; exact HPQ.out.1) (by rw [HEN4.out]; exact HPQ.out.2.1) HPQ.out.2.2).2.2.1, HL4.out] at KL
            have KL := Lib.hid KL
            have HSA : Hid (∀ k, SA k → w.heap.size ≤ k) := Lib.hid (fun k hk => (hGA k hk).elim (HS9.out k) (fun h => Nat.le_trans HE9.out.size h))
            have HEA := Lib.hid (hCA.ext HE9.out HS9.out)
            clear hNA hGA hCA KS
            go_wp2_with fail
            refine (num4_any _ _).mono ?_
            rintro e w' ⟨rfl, rfl⟩
            go_wp2_with fail
            refine KL.out.mono ?_
            rintro e w' ⟨rfl, rfl⟩
            -- what a clear leaves
            have hfl4 := flN_length HNA.out.1
            have HCK := Lib.hid (clear_kept (N := N4) z)
            have HCG := Lib.hid (clear_gone N4 z)
            obtain ⟨F4, hF4⟩ : ∃ F4, flN N4 = F4 := ⟨_, rfl⟩
            rw [hF4] at hfl4 HCK HCG
            obtain ⟨len4, hlen4⟩ : ∃ len4, F4.length = len4 := ⟨_, rfl⟩
            rw [hlen4] at hfl4 HCG
            obtain ⟨kl, hkl⟩ : ∃ kl, (keptN F4 z).length = kl := ⟨_, rfl⟩
            rw [hkl] at HCG
            obtain ⟨gc, hgc⟩ : ∃ gc, clearC N4 z = gc := ⟨_, rfl⟩
            rw [hgc] at HCG
            have KC := Lib.hid (fun W (hW : Ext wA W) => Clear_net (HNA.out.ext hW) z HIZ.out)
            rw [hgc] at KC
            have KF := Lib.hid (flights_keep HNA.out hF4 hlen4)
            have HL4N := Lib.hid hlen4
            have HKL := Lib.hid hkl
            clear KL hF4 hlen4 hkl hgc
            go_wp2_with fail
            refine KF.out.mono ?_
            rintro e wB ⟨A4, c4, rfl, hx4, hEB⟩
            have HX4 := Lib.hid hx4
            have HEB := Lib.hid (HEA.out.trans hEB)
            have KC := Lib.hid (KC.out wB hEB)
            have HNB := Lib.hid (HNA.out.ext hEB)
            clear hx4 hEB KF
            go_wp2_with fail
            refine KC.out.mono ?_
            rintro e wC ⟨rfl, hNC, hCC⟩
            have HX4 : Hid (FlX wC A4 F4) := Lib.hid (HX4.out SA wC hCC (fun k hk => .inl (HNA.out.lt k hk)))
            have HEC := Lib.hid (hCC.ext HEB.out HSA.out)
            have KF := Lib.hid (flights_keep hNC HCK.out HKL.out)
            clear hNC hCC KC
            go_wp2_with fail
            refine KF.out.mono ?_
            rintro e wD ⟨A5, c5, rfl, hx5, hED⟩
            have HX5 := Lib.hid (hx5.x (Ext.refl wD))
            have HX4 := Lib.hid (HX4.out.ext hED)
            have HED := Lib.hid (HEC.out.trans hED)
            have HK0 : Hid (keptN (F4.take 0) z = []) := Lib.hid rfl
            have HKS : Hid (∀ k, k < len4 → keptN (F4.take (k + 1)) z = if ((F4.getD k fl0).to_ : Int) = z then keptN (F4.take k) z else keptN (F4.take k) z ++ [F4.getD k fl0]) := Lib.hid (fun k hk => keptN_snoc F4 z (by have := HL4N.out; omega))
            have HKE : Hid (keptN (F4.take len4) z = keptN F4 z) := Lib.hid (by rw [← HL4N.out, List.take_length])
            have HKB : Hid (∀ k, (keptN (F4.take k) z).length ≤ k) := Lib.hid (fun k => by
              refine Nat.le_trans (List.length_filter_le _ _) ?_
              rw [List.length_take]
              exact Nat.min_le_left _ _)
            obtain ⟨on, hon⟩ : ∃ on : Nat → List Fl, on = fun k => keptN (F4.take k) z := ⟨_, rfl⟩
            have HON : Hid (∀ k, keptN (F4.take k) z = on k) := Lib.hid (fun k => by rw [hon])
            simp only [HON.out] at HK0 HKS HKE HKB
            obtain ⟨i0, hi, hz0, hz1, hz2⟩ := info_parts Try.infoFl
            clear hx5 hED KF hon HON
            go_wp2_with fail
            go_loopw [22, 23] (fun v i wr => ∃ k : Nat, k ≤ len4 ∧ i = .int .i64 (k : Int) ∧ FlRow wD wr wD.heap.size v (on k) ∧ Ext wD wr) (fun _ i _ => len4 - (intOf i).toNat)
            case atStart => exact ⟨0, Nat.zero_le _, rfl, by rw [HK0.out]; exact ⟨[], World.ownsRow_nil _ _ _ _, FlCells.nil wD⟩, Ext.refl wD⟩
            case round =>
              obtain ⟨k, hk, rfl, hV, hE⟩ := hrel
              have HV := Lib.hid hV
              have HE := Lib.hid hE
              clear hV hE
              by_cases hkn : k < len4
              · have hd : decide ((k : Int) < (len4 : Int)) = true := decide_eq_true (by omega)
                obtain ⟨gr, o1, Ab, cb, rfl, y0, y1, y2, hbs⟩ := HX4.out.at_ (i := k) (by have := HL4N.out; omega)
                have x0 := HE.out.cell y0
                have x1 := HE.out.cell y1
                have x2 := HE.out.cell y2
                have HSK := HKS.out k hkn
                have hxl := HKB.out k
                obtain ⟨cs, hrow, hcells⟩ := HV.out
                have HSN := Lib.hid (hcells.snoc (F4.getD k fl0) hbs)
                obtain ⟨xl, hxe⟩ : ∃ xl, (on k).length = xl := ⟨_, rfl⟩
                have HXE := Lib.hid hxe
                rw [hxe] at hrow hxl
                generalize hfk : F4.getD k fl0 = fk at *
                clear y0 y1 y2 hbs hcells hxe hfk
                obtain ⟨fx, fy, fb⟩ := fk
                simp only at *
                generalize fb.length = bl at *
                have HLT := Lib.hid (World.ownsRow.lt hrow)
                have hE3 := ext_new wr (.cells #[.int .i64 (fx : Int), .int .i64 (fy : Int), .slice Ab bl cb] 45)
                have HE3 := Lib.hid (HE.out.trans hE3)
                have HOW := Lib.hid (World.ownsRow.alloc hrow (.cells #[.int .i64 (fx : Int), .int .i64 (fy : Int), .slice Ab bl cb] 45))
                have HNW := Lib.hid (blk_news3 (Blk.new wr 45 #[.int .i64 (fx : Int), .int .i64 (fy : Int), .slice Ab bl cb]))
                clear hrow hE3
                by_cases q1 : (fy : Int) = z
                · have g1 : ((fy : Int) != z) = false := by simp [q1]
                  rw [if_pos q1] at HSK
                  have HSK := Lib.hid HSK
                  clear q1 HSN HE3 HOW HNW HLT HXE
                  go_wp2_with fail
                  exact ⟨⟨k + 1, by omega, by go_num, by rw [HSK.out]; exact HV.out, HE.out⟩, by simp [intOf]; omega⟩
                · have g1 : ((fy : Int) != z) = true := by rw [bne_iff_ne]; exact q1
                  rw [if_neg q1] at HSK
                  have HSK := Lib.hid HSK
                  clear q1
                  go_wp2_with (at_builtin; refine wpList_append_own_at _ rfl _ _ _ rfl wD.heap.size 45 i0 (.agg #[.int .i64 0, .int .i64 0, .slice none 0 0]) 3 40 Try.underlying41 hi hz0 hz1 hz2 rfl (by omega) _ xl cs rfl HOW.out ⟨wr.heap.size, 0, none⟩ 1 1 [.int .i64 (fx : Int), .int .i64 (fy : Int), .slice Ab bl cb] rfl rfl HNW.out (by intro u hu; simp at hu; rcases hu with rfl | rfl | rfl <;> rfl) (by unfold maxLen; omega) (by omega) (by have := HE3.out.size; omega) ?_; intro v4 w4 hown4 hG4 hnil4 hat4; have HOW4 := Lib.hid hown4; have HG4 := Lib.hid hG4; clear hown4 hG4 hnil4 hat4)
                  exact ⟨⟨k + 1, by omega, by go_num, by rw [HSK.out]; exact ⟨_, by rw [List.length_append, HXE.out]; exact HOW4.out, HSN.out⟩, HE3.out.grown HG4.out (fun k e => (HLT.out k e).1)⟩, by simp [intOf]; omega⟩
              · obtain rfl : k = len4 := by omega
                have hd : decide ((k : Int) < (k : Int)) = false := decide_eq_false (by omega)
                rw [HKE.out] at HV
                obtain ⟨A6, c6, rfl, hx6⟩ := HV.out.x HE.out
                rw [HKL.out]
                have KSA := Lib.hid (SameAll_same wr A5 A6 (keptN F4 z) kl kl c5 c6 HKL.out.symm HKL.out.symm (HX5.out.ext HE.out) hx6 (by have := HKL.out; have := HCG.out; omega))
                have hgk : ((gc : Int) == (k : Int) - (kl : Int)) = true := by rw [beq_iff_eq]; have := HCG.out; omega
                have hkl2 : kl ≤ k := by have := HCG.out; omega
                clear hx6 HV HKS HKB HK0 HX5 HX4
                go_wp2_with fail
                refine KSA.out.mono ?_
                rintro e wE ⟨rfl, hEE⟩
                have HEE := Lib.hid ((HED.out.trans HE.out).trans hEE)
                clear hEE
                go_wp2_with fail
                refine (known_net _).mono ?_
                rintro e wF ⟨rfl, hEF⟩
                have HEF := Lib.hid (HEE.out.trans hEF)
                clear hEF
                go_wp2_with fail
                go_ret
                exact ⟨rfl, HEF.out⟩
  · have htwo : twoB N a b = false := by
      rw [← Bool.not_eq_true]
      intro h
      simp only [twoB, endB, HEN.out, Bool.and_eq_true, decide_eq_true_eq] at h
      exact hg ⟨h.1.1.1, h.1.1.2, h.1.2.1, h.1.2.2, h.2⟩
    have KS := Send_net (l := []) (A := none) (c := 0) HP2.out.1 HIA.out HIB.out (by omega) By.nil (Nat.zero_le _)
    rw [(send_bad htwo []).1, (send_bad htwo []).2, List.length_nil] at KS
    have KS := Lib.hid KS
    have hcs : (decide (a < 1) = true) ∨ (decide (a < 1) = false ∧ decide (b < 1) = true) ∨ (decide (a < 1) = false ∧ decide (b < 1) = false ∧ decide (4 < a) = true) ∨ (decide (a < 1) = false ∧ decide (b < 1) = false ∧ decide (4 < a) = false ∧ decide (4 < b) = true) ∨
        (decide (a < 1) = false ∧ decide (b < 1) = false ∧ decide (4 < a) = false ∧ decide (4 < b) = false ∧ (a == b) = true) := by
      simp only [decide_eq_true_eq, decide_eq_false_iff_not, beq_iff_eq]
      omega
    clear hg htwo
    rcases hcs with d1 | ⟨d1, d2⟩ | ⟨d1, d2, d3⟩ | ⟨d1, d2, d3, d4⟩ | ⟨d1, d2, d3, d4, d5⟩
    all_goals
      go_wp2_with fail
      refine KS.out.mono ?_
      rintro e w3 ⟨rfl, S3, hN3, hG3, hC3⟩
      obtain ⟨n1, n2, n3⟩ := net_then HP2.out.1 HP2.out.2.1 HP2.out.2.2 hN3 hG3 hC3
      have HP3 : Hid (Pr2 w3 S3 T g r (4200 + 1) N) := Lib.hid ⟨hN3, n1, n2⟩
      have HE3 := Lib.hid (hC3.ext HE2.out HS.out)
      have KO := Lib.hid (Lost_net hN3)
      rw [HLO.out] at KO
      clear hN3 hG3 hC3 n1 n2 n3 KS
      go_wp2_with fail
      refine (num4_any _ _).mono ?_
      rintro e w' ⟨rfl, rfl⟩
      go_wp2_with fail
      refine KO.out.mono ?_
      rintro e w' ⟨rfl, rfl⟩
      go_wp2_with fail
      refine (as_law HP3.out).mono ?_
      rintro e w4 ⟨rfl, hE4⟩
      have HE4 := Lib.hid (HE3.out.trans hE4)
      clear hE4
      go_wp2_with fail
      refine (known_net w4).mono ?_
      rintro e w5 ⟨rfl, hE5⟩
      have HE5 := Lib.hid (HE4.out.trans hE5)
      clear hE5
      go_wp2_with fail
      go_ret
      exact ⟨rfl, HE5.out⟩

end Go.Proofs.Ytahooohokdbnpaa
