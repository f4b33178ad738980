
/-
  The law NetComes, walked.
-/
import Derived.Test.YtahooohokdbnpaaAsN
set_option linter.unusedVariables false
set_option linter.unusedSimpArgs false
namespace Go.Proofs.Ytahooohokdbnpaa
open Go.RowKit Go.Shelf Go.Maps Pl

attribute [local go_sem] Oper.semAt_some

/-! ## the first flight of a line -/
theorem at_nat {N : Nt} {j : Nat} (hj : j < (flN N).length) : atE N (j : Int) = 0 := by
  unfold atE
  rw [if_neg (by omega), Int.toNat_natCast, if_pos hj]
theorem atF_nat {N : Nt} {j : Nat} (hj : j < (flN N).length) : atF N (j : Int) = (flN N).getD j fl0 := by
  unfold atF
  rw [if_pos (at_nat hj), Int.toNat_natCast]
theorem first_at {N : Nt} {j : Nat} (hj : j < (flN N).length) (hleast : ∀ i, i < j → ((flN N).getD i fl0).line ≠ ((flN N).getD j fl0).line) :
    atK N (j : Int) = 0 ∧ (flN N).getD j fl0 = ⟨((flN N).getD j fl0).from_, ((flN N).getD j fl0).to_, (N.L ((flN N).getD j fl0).line).getD 0 []⟩ ∧ ((flN N).getD j fl0).line ∈ linesOf N.ends ∧ 0 < (N.L ((flN N).getD j fl0).line).length := by
  obtain ⟨O1, p, O2, k, hO, hz, hk, hf, hK⟩ := at_split (at_nat hj)
  rw [atF_nat hj] at hf
  rw [Int.toNat_natCast] at hz
  have hk0 : k = 0 := by
    rcases Nat.eq_zero_or_pos k with h | h
    · exact h
    · exfalso
      have hx : (flN N).getD (j - 1) fl0 = ⟨p.1, p.2, (N.L p).getD (k - 1) []⟩ := by
        unfold flN flightsN
        rw [hO, List.getD_eq_getElem?_getD, show j - 1 = (flightsO O1 N.L).length + (k - 1) by omega, flights_at N.L (by omega)]
        rfl
      refine hleast (j - 1) (by omega) ?_
      rw [hx, hf]
      rfl
  subst hk0
  have hl : ((flN N).getD j fl0).line = p := by rw [hf]; rfl
  rw [hl]
  refine ⟨hK, ?_, by rw [hO]; simp, hk⟩
  conv => lhs; rw [hf]
  rw [hf]

/-! ## how much the document's net has -/
def lenC : Option Value → Nat
  | some (.slice _ n _) => n
  | _ => 0
def mes (w : World) (r : Nat) : Nat := ((List.range 36).map fun i => lenC (w.cell? ⟨r, i, none⟩)).sum
def sizeN (L : Lns) : Nat := ((List.range 36).map fun i => (L (i / 6, i % 6)).length).sum
theorem mes_ref {w : World} {T : Nat → Prop} {r : Nat} {N : Nt} (h : RefAt w T r N) : mes w r = sizeN N.L := by
  unfold mes sizeN
  congr 1
  apply List.map_congr_left
  intro i hi
  have hi' : i < 36 := by simpa using hi
  obtain ⟨A, c, hc, _⟩ := h.line (m := i / 6) (n := i % 6) (by omega) (by omega)
  rw [show i / 6 * 6 + i % 6 = i by omega] at hc
  rw [hc]
  rfl
theorem sum_less (f g : Nat → Nat) (n k : Nat) (hk : k < n) (h : ∀ i, i < n → i ≠ k → f i = g i) (hlt : f k < g k) : ((List.range n).map f).sum < ((List.range n).map g).sum := by
  induction n with
  | zero => omega
  | succ n ih =>
    rw [List.range_succ, List.map_append, List.sum_append, List.map_append, List.sum_append]
    simp only [List.map_cons, List.map_nil, List.sum_cons, List.sum_nil, Nat.add_zero]
    by_cases e : k = n
    · subst e
      have : (List.range k).map f = (List.range k).map g := List.map_congr_left (fun i hi => by
        have hik : i < k := by simpa using hi
        exact h i (by omega) (by omega))
      rw [this]
      omega
    · have h1 := ih (by omega) (fun i hi hne => h i (by omega) hne)
      have h2 := h n (by omega) (fun e' => e e'.symm)
      omega
theorem size_del {N : Nt} (h : OkN N) {p : Nat × Nat} (hp : p ∈ linesOf N.ends) (h0 : 0 < (N.L p).length) : sizeN (delN N p 0).L < sizeN N.L := by
  have hm := (mem_linesOf _ _).1 hp
  have h5 := h.e5
  refine sum_less _ _ 36 (p.1 * 6 + p.2) (by omega) (fun i hi hne => ?_) ?_
  · show (setL N.L p _ (i / 6, i % 6)).length = _
    rw [setL_other _ _ (fun e => hne (by rw [← e]; show i = i / 6 * 6 + i % 6; omega))]
  · rw [show ((p.1 * 6 + p.2) / 6, (p.1 * 6 + p.2) % 6) = p from Prod.ext (by show (p.1 * 6 + p.2) / 6 = p.1; omega) (by show (p.1 * 6 + p.2) % 6 = p.2; omega)]
    show (setL N.L p _ p).length < _
    rw [setL_same, List.length_eraseIdx_of_lt h0]
    omega
theorem sum_le32 (f : Nat → Nat) (n : Nat) (h : ∀ i, f i ≤ 32) : ((List.range n).map f).sum ≤ 32 * n := by
  induction n with
  | zero => simp
  | succ n ih =>
    rw [List.range_succ, List.map_append, List.sum_append]
    simp only [List.map_cons, List.map_nil, List.sum_cons, List.sum_nil, Nat.add_zero]
    have := h n
    omega
theorem size_le {N : Nt} (h : OkN N) : sizeN N.L ≤ 1152 := by
  have := sum_le32 (fun i => (N.L (i / 6, i % 6)).length) 36 (fun i => h.full _)
  unfold sizeN
  omega
theorem LinR.tail {T : Nat → Prop} {w : World} {gr o n c : Nat} {l : List (List UInt8)} (h : LinR T w (.slice (some ⟨gr, o, none⟩) n c) l) (h0 : 0 < l.length) : LinR T w (.slice (if c = 1 then some ⟨gr, o, none⟩ else some ⟨gr, o + 1, none⟩) (n - 1) (c - 1)) (l.eraseIdx 0) := by
  obtain ⟨A, c', e, h1, h2, h3⟩ := h
  cases e
  match l, h0, h1, h3 with
  | x :: t, _, h1, h3 =>
    simp only [List.length_cons] at h1
    refine ⟨if c = 1 then some ⟨gr, o, none⟩ else some ⟨gr, o + 1, none⟩, c - 1, by simp only [List.eraseIdx_zero, List.tail_cons, List.length_cons, Nat.add_sub_cancel], by simp; omega, by omega, ?_⟩
    simp only [List.eraseIdx_zero, List.tail_cons]
    by_cases ht : t = []
    · exact .inl ht
    · have hl : 0 < t.length := List.length_pos_iff.2 ht
      rcases h3 with h3 | ⟨gr', o', cur, e, hb, hT, hi⟩
      · cases h3
      · cases e
        refine .inr ⟨gr, o + 1, cur, by rw [if_neg (by omega)], hb, hT, fun i hi' => ?_⟩
        obtain ⟨vb, q1, q2⟩ := hi (i + 1) (by simp; omega)
        exact ⟨vb, by rw [← q1]; congr 1; omega, by simpa [List.getD_eq_getElem?_getD] using q2⟩
theorem fl_len0 {N : Nt} (h : (flN N).length = 0) : flN N = [] := List.eq_nil_of_length_eq_zero h

def comN (fs : List Ac) : Nt := fs.foldl (fun N s => if s.kind = 1 then sendsN N s.a s.b s.bytes 1 else N) (newN 4)
theorem comN_succ (fs : List Ac) (k : Nat) (h : k < fs.length) : comN (fs.take (k + 1)) = if (fs.getD k ac0).kind = 1 then sendsN (comN (fs.take k)) (fs.getD k ac0).a (fs.getD k ac0).b (fs.getD k ac0).bytes 1 else comN (fs.take k) := by
  unfold comN
  rw [List.take_succ_eq_append_getElem h, List.foldl_append]
  simp [List.getD_eq_getElem?_getD, h]

set_option maxHeartbeats 4000000 in
set_option maxRecDepth 100000 in
theorem comes_any (w : World) (z : Int) (hz : I64 z) (A : Option Addr) (fs : List Ac) (n c : Nat) (hn : n = fs.length) (hF : Acs w A fs) (hl : n ≤ 9223372036854775807) (hok : ∀ i, i < fs.length → I64 (fs.getD i ac0).a ∧ I64 (fs.getD i ac0).b) :
    Calls Try.prog 3 #[.slice A n c, .int .i64 z] w fun e w' => e = .returned (.bool true) ∧ Ext w w' := by
  have HF := Lib.hid hF
  have HOK := Lib.hid hok
  have HN := Lib.hid hn
  have KM := Lib.hid (muchN_any w A fs n c hn hF hl)
  clear hF hok hn
  go_enter Try.func3, Try.ntmps3
  go_wp2_with fail
  refine KM.out.mono ?_
  rintro e w1 ⟨mb, rfl, hmb, hE1⟩
  have HE1 := Lib.hid hE1
  have HMB := Lib.hid hmb
  clear hE1 hmb KM
  cases mb with
  | true =>
    clear HMB
    go_wp2_with fail
    refine (known_net w1).mono ?_
    rintro e w2 ⟨rfl, hE2⟩
    have HE2 := Lib.hid (HE1.out.trans hE2)
    clear hE2
    go_wp2_with fail
    go_ret
    exact ⟨rfl, HE2.out⟩
  | false =>
  obtain ⟨hl60, hbl⟩ := HMB.out rfl
  have HBL := Lib.hid hbl
  rw [← HN.out] at hl60
  clear HMB hbl
  by_cases hz0 : z < 0
  · have hd1 : decide (z < 0) = true := decide_eq_true hz0
    clear hz0
    go_wp2_with fail
    refine (known_net w1).mono ?_
    rintro e w2 ⟨rfl, hE2⟩
    have HE2 := Lib.hid (HE1.out.trans hE2)
    clear hE2
    go_wp2_with fail
    go_ret
    exact ⟨rfl, HE2.out⟩
  · obtain ⟨q, rfl⟩ : ∃ q : Nat, z = (q : Int) := ⟨z.toNat, by omega⟩
    have hd1 : decide ((q : Int) < 0) = false := decide_eq_false hz0
    have HNEW := New_net w1 4 (by omega) (by omega)
    rw [show ((4 : Nat) : Int) = 4 from rfl] at HNEW
    have HK := Lib.hid HNEW
    clear hz0 HNEW
    go_wp2_with fail
    refine HK.out.mono ?_
    rintro e w2 ⟨S0, g, rfl, hN1, hS1, hE1⟩
    have HN1 := Lib.hid hN1
    have HS1 : Hid (∀ k, S0 k → w.heap.size ≤ k) := Lib.hid (fun k hk => Nat.le_trans HE1.out.size (hS1 k hk))
    have HE2 := Lib.hid (HE1.out.trans hE1)
    have HR1 : Hid (RefAt (w2.alloc (.cells #[Value.slice none 0 0, Value.slice none 0 0, Value.slice none 0 0, Value.slice none 0 0, Value.slice none 0 0, Value.slice none 0 0, Value.slice none 0 0, Value.slice none 0 0, Value.slice none 0 0, Value.slice none 0 0, Value.slice none 0 0, Value.slice none 0 0, Value.slice none 0 0, Value.slice none 0 0, Value.slice none 0 0, Value.slice none 0 0, Value.slice none 0 0, Value.slice none 0 0, Value.slice none 0 0, Value.slice none 0 0, Value.slice none 0 0, Value.slice none 0 0, Value.slice none 0 0, Value.slice none 0 0, Value.slice none 0 0, Value.slice none 0 0, Value.slice none 0 0, Value.slice none 0 0, Value.slice none 0 0, Value.slice none 0 0, Value.slice none 0 0, Value.slice none 0 0, Value.slice none 0 0, Value.slice none 0 0, Value.slice none 0 0, Value.slice none 0 0, Value.int .i64 4, Value.int .i64 0] 34)) (fun k => k = w2.heap.size) w2.heap.size (newN 4)) := Lib.hid (ref_new w2 4 (by omega) (by omega))
    have HX1 := Lib.hid (ext_new w2 (.cells #[Value.slice none 0 0, Value.slice none 0 0, Value.slice none 0 0, Value.slice none 0 0, Value.slice none 0 0, Value.slice none 0 0, Value.slice none 0 0, Value.slice none 0 0, Value.slice none 0 0, Value.slice none 0 0, Value.slice none 0 0, Value.slice none 0 0, Value.slice none 0 0, Value.slice none 0 0, Value.slice none 0 0, Value.slice none 0 0, Value.slice none 0 0, Value.slice none 0 0, Value.slice none 0 0, Value.slice none 0 0, Value.slice none 0 0, Value.slice none 0 0, Value.slice none 0 0, Value.slice none 0 0, Value.slice none 0 0, Value.slice none 0 0, Value.slice none 0 0, Value.slice none 0 0, Value.slice none 0 0, Value.slice none 0 0, Value.slice none 0 0, Value.slice none 0 0, Value.slice none 0 0, Value.slice none 0 0, Value.slice none 0 0, Value.slice none 0 0, Value.int .i64 4, Value.int .i64 0] 34))
    have HS0 := Lib.hid hN1.lt
    have HGS := Lib.hid HE2.out.size
    clear hN1 hS1 hE1 HK
    go_wp2_with fail
    refine (num4_any _ _).mono ?_
    rintro e w' ⟨rfl, rfl⟩
    generalize w2.alloc (.cells #[Value.slice none 0 0, Value.slice none 0 0, Value.slice none 0 0, Value.slice none 0 0, Value.slice none 0 0, Value.slice none 0 0, Value.slice none 0 0, Value.slice none 0 0, Value.slice none 0 0, Value.slice none 0 0, Value.slice none 0 0, Value.slice none 0 0, Value.slice none 0 0, Value.slice none 0 0, Value.slice none 0 0, Value.slice none 0 0, Value.slice none 0 0, Value.slice none 0 0, Value.slice none 0 0, Value.slice none 0 0, Value.slice none 0 0, Value.slice none 0 0, Value.slice none 0 0, Value.slice none 0 0, Value.slice none 0 0, Value.slice none 0 0, Value.slice none 0 0, Value.slice none 0 0, Value.slice none 0 0, Value.slice none 0 0, Value.slice none 0 0, Value.slice none 0 0, Value.slice none 0 0, Value.slice none 0 0, Value.slice none 0 0, Value.slice none 0 0, Value.int .i64 4, Value.int .i64 0] 34) = w3 at *
    generalize Value.agg #[Value.slice none 0 0, Value.slice none 0 0, Value.slice none 0 0, Value.slice none 0 0, Value.slice none 0 0, Value.slice none 0 0, Value.slice none 0 0, Value.slice none 0 0, Value.slice none 0 0, Value.slice none 0 0, Value.slice none 0 0, Value.slice none 0 0, Value.slice none 0 0, Value.slice none 0 0, Value.slice none 0 0, Value.slice none 0 0, Value.slice none 0 0, Value.slice none 0 0, Value.slice none 0 0, Value.slice none 0 0, Value.slice none 0 0, Value.slice none 0 0, Value.slice none 0 0, Value.slice none 0 0, Value.slice none 0 0, Value.slice none 0 0, Value.slice none 0 0, Value.slice none 0 0, Value.slice none 0 0, Value.slice none 0 0, Value.slice none 0 0, Value.slice none 0 0, Value.slice none 0 0, Value.slice none 0 0, Value.slice none 0 0, Value.slice none 0 0, Value.int .i64 4, Value.int .i64 0] = ag
    have HE3 := Lib.hid (HE2.out.trans HX1.out)
    have hP3 : Pr2 w3 S0 (fun k => k = w2.heap.size) g w2.heap.size 0 (newN 4) := ⟨HN1.out.ext HX1.out, HR1.out, fun k hk e => by have := HS0.out k hk; omega⟩
    have HP3 := Lib.hid hP3
    have HTL : Hid (∀ k, (fun k => k = w2.heap.size) k → w.heap.size ≤ k) := Lib.hid (fun k e => by have e' : k = w2.heap.size := e; have := HGS.out; omega)
    clear hP3
    generalize (fun k => k = w2.heap.size) = T0 at *
    generalize w2.heap.size = r at *
    clear HN1 HE2 HX1 HR1 HS0 HGS
    have HSU : Hid (∀ k, k < n → comN (fs.take (k + 1)) = if (fs.getD k ac0).kind = 1 then sendsN (comN (fs.take k)) (fs.getD k ac0).a (fs.getD k ac0).b (fs.getD k ac0).bytes 1 else comN (fs.take k)) := Lib.hid (fun k hk => comN_succ fs k (by have := HN.out; omega))
    have HG0 : Hid (comN (fs.take 0) = newN 4) := Lib.hid rfl
    go_wp2_with fail
    go_loopw [8] (fun i wr => ∃ k : Nat, k ≤ n ∧ i = .int .i64 (k : Int) ∧ ∃ S T, Pr2 wr S T g r (70 * k) (comN (fs.take k)) ∧ (∀ q, S q → w.heap.size ≤ q) ∧ (∀ q, T q → w.heap.size ≤ q) ∧ Ext w wr) (fun i _ => n - (intOf i).toNat)
    case atStart => exact ⟨0, Nat.zero_le _, rfl, S0, T0, by rw [HG0.out]; exact HP3.out, HS1.out, HTL.out, HE3.out⟩
    case round =>
      obtain ⟨k, hk, rfl, S, T, hP, hS, hT, hE⟩ := hrel
      have HP := Lib.hid hP
      have HS := Lib.hid hS
      have HT := Lib.hid hT
      have HE := Lib.hid hE
      clear hP hS hT hE HP3 HS1 HTL HE3 HG0
      by_cases hkn : k < n
      ·
        -- DONE
        have hd : decide ((k : Int) < (n : Int)) = true := decide_eq_true (by omega)
        obtain ⟨b, o, rfl, d0, d1, d2, Ai, ci, d3, hby⟩ := HF.out.at_ (i := k) (by have := HN.out; omega)
        have c0 := HE.out.cell d0
        have c1 := HE.out.cell d1
        have c2 := HE.out.cell d2
        have c3 := HE.out.cell d3
        obtain ⟨ok1, ok2⟩ := HOK.out k (by have := HN.out; omega)
        have ok3 := HBL.out k (by have := HN.out; omega)
        have HSTT : Hid (∀ q, (S q ∨ q = r) → w.heap.size ≤ q) := Lib.hid (fun q hq => hq.elim (HS.out q) (fun e => by rw [e]; exact HT.out r HP.out.2.1.2.2.1))
        have KD := send_law HP.out (fs.getD k ac0) Ai ci (fun W hW => hby.ext (hW.ext HE.out HSTT.out)) ok3 ok1 ok2 1 (by omega) (by omega)
        unfold acC at KD
        rw [show ((1 : Nat) : Int) = 1 from rfl] at KD
        have KD := Lib.hid KD
        have HSK := Lib.hid (HSU.out k hkn)
        clear ok1 ok2 ok3 hby d0 d1 d2 d3
        generalize fs.getD k ac0 = s at *
        by_cases h1 : s.kind = 1
        · have e1 : (s.kind == 1) = true := by rw [beq_iff_eq]; exact h1
          rw [if_pos h1] at HSK
          rw [← HSK.out] at KD
          clear h1
          generalize s.kind = kd at *
          go_wp2_with fail
          refine KD.out.mono ?_
          rintro e w5 ⟨rfl, S', T', hP, hG1, hG2, hC⟩
          have HP5 := Lib.hid (hP.mono (nb' := 70 * (k + 1)) (by omega))
          have HS5 : Hid (∀ q, S' q → w.heap.size ≤ q) := Lib.hid (fun q hq => (hG1 q hq).elim (HS.out q) (fun h => Nat.le_trans HE.out.size h))
          have HT5 : Hid (∀ q, T' q → w.heap.size ≤ q) := Lib.hid (fun q hq => (hG2 q hq).elim (HT.out q) (fun h => Nat.le_trans HE.out.size h))
          have HE5 := Lib.hid (hC.ext HE.out HSTT.out)
          clear hP hG1 hG2 hC c0 c1 c2 c3
          go_wp2_with fail
          exact ⟨⟨k + 1, by omega, by go_num, S', T', HP5.out, HS5.out, HT5.out, HE5.out⟩, by simp [intOf]; omega⟩
        · have e1 : (s.kind == 1) = false := by rw [beq_eq_false_iff_ne]; exact h1
          rw [if_neg h1] at HSK
          clear h1 KD
          go_wp2_with fail
          exact ⟨⟨k + 1, by omega, by go_num, S, T, by rw [HSK.out]; exact HP.out.mono (by omega), HS.out, HT.out, HE.out⟩, by simp [intOf]; omega⟩
        -- ENDDONE
      · obtain rfl : k = n := by omega
        have hd : decide ((k : Int) < (k : Int)) = false := decide_eq_false (by omega)
        have HNB : Hid (70 * k ≤ 4200) := Lib.hid (by omega)
        have HP := Lib.hid (HP.out.mono HNB.out)
        generalize hNN : comN (fs.take k) = N0 at *
        clear HSU hNN HNB HBL HOK
        go_wp2_with fail
        clear hd
        go_loopw [] (fun wr => ∃ N S T nb, nb + sizeN N.L ≤ 10000 ∧ Pr2 wr S T g r nb N ∧ (∀ q, S q → w.heap.size ≤ q) ∧ (∀ q, T q → w.heap.size ≤ q) ∧ Ext w wr) (fun wr => mes wr r)
        case atStart => exact ⟨N0, S, T, 4200, by have := size_le HP.out.1.1; omega, HP.out, HS.out, HT.out, HE.out⟩
        case round =>
          obtain ⟨N, S, T, nb, hnb, hP, hS, hT, hE⟩ := hrel
          obtain ⟨wo, rfl⟩ : ∃ wo, wo = wr := ⟨_, rfl⟩
          have hfl := flN_length hP.1.1
          have KL := Lib.hid (Len_net hP.1)
          have HP := Lib.hid hP
          have HS := Lib.hid hS
          have HT := Lib.hid hT
          have HE := Lib.hid hE
          have HMES := Lib.hid (mes_ref hP.2.1)
          clear hP hS hT hE
          obtain ⟨F, hF⟩ : ∃ F, flN N = F := ⟨_, rfl⟩
          rw [hF] at hfl KL
          have HF := Lib.hid hF
          obtain ⟨len, hlen⟩ : ∃ len, F.length = len := ⟨_, rfl⟩
          rw [hlen] at hfl KL
          have HLN := Lib.hid hlen
          clear hF hlen
          by_cases hl0 : len = 0
          · have hd0 : decide (0 < len) = false := decide_eq_false (by omega)
            have hb0 : ((len : Int) == 0) = true := by rw [beq_iff_eq]; omega
            go_wp2_with fail
            refine KL.out.mono ?_
            rintro e w4 ⟨rfl, hE4⟩
            have KFR := Lib.hid (Flights_ref (HP.out.2.1.ext hE4))
            have HE4 := Lib.hid (HE.out.trans hE4)
            rw [HF.out] at KFR
            clear hE4 KL
            go_wp2_with fail
            refine KFR.out.mono ?_
            rintro e w5 ⟨v, rfl, hF5, hE5⟩
            obtain ⟨A5, c5, rfl⟩ := hF5.form
            rw [HLN.out]
            have HE5 := Lib.hid (HE4.out.trans hE5)
            clear hE5 hF5 KFR
            go_wp2_with fail
            refine (known_net w5).mono ?_
            rintro e w6 ⟨rfl, hE6⟩
            have HE6 := Lib.hid (HE5.out.trans hE6)
            clear hE6
            go_wp2_with fail
            go_ret
            exact ⟨rfl, HE6.out⟩
          · have hd0 : decide (0 < len) = true := decide_eq_true (by omega)
            have hb0 : ((len : Int) == 0) = false := by rw [beq_eq_false_iff_ne]; omega
            go_wp2_with fail
            refine KL.out.mono ?_
            rintro e w4 ⟨rfl, hE4⟩
            have KFA := Lib.hid (flights_all (HP.out.1.ext hE4))
            have HE4 := Lib.hid hE4
            rw [HF.out, HLN.out] at KFA
            clear hE4 KL
            go_wp2_with fail
            refine KFA.out.mono ?_
            rintro e w5 ⟨A1, c1, rfl, hx5, hE5⟩
            have HX5 := Lib.hid hx5
            have HE5 := Lib.hid (HE4.out.trans hE5)
            clear hx5 hE5 KFA HE4
            obtain ⟨i0, hi0⟩ : ∃ i0, i0 = q % len := ⟨_, rfl⟩
            have hil : i0 < len := by rw [hi0]; exact Nat.mod_lt _ (by omega)
            have hrem : Int.tmod (q : Int) (len : Int) = (i0 : Int) := by rw [hi0]; exact Int.ofNat_tmod q len
            clear hi0
            obtain ⟨gr, o, A0, cb0, rfl, d0, d1, d2, _⟩ := HX5.out.at_ (i := i0) (by rw [HLN.out]; exact hil)
            generalize hf0 : F.getD i0 fl0 = f0 at *
            have HF0 := Lib.hid hf0
            clear hf0
            have HXf := Lib.hid (ext_new w5 (.cells #[.int .i64 (f0.from_ : Int), .int .i64 (f0.to_ : Int), .slice A0 f0.b.length cb0] 45))
            have HBf := Lib.hid (Blk.new w5 45 #[.int .i64 (f0.from_ : Int), .int .i64 (f0.to_ : Int), .slice A0 f0.b.length cb0])
            go_wp2_with fail
            generalize w5.alloc (.cells #[.int .i64 (f0.from_ : Int), .int .i64 (f0.to_ : Int), .slice A0 f0.b.length cb0] 45) = w6 at *
            generalize w5.heap.size = bf at *
            have HX6 := Lib.hid (HX5.out.ext HXf.out)
            have HE6 := Lib.hid (HE5.out.trans HXf.out)
            have HF0L : Hid (∀ j, j = i0 → (F.getD j fl0).from_ = f0.from_ ∧ (F.getD j fl0).to_ = f0.to_) := Lib.hid (fun j e => by subst e; rw [HF0.out]; exact ⟨rfl, rfl⟩)
            clear d0 d1 d2 HX5 HE5 HXf hrem HF0
            generalize hffa : f0.from_ = ffa at *
            generalize hfft : f0.to_ = fft at *
            generalize f0.b.length = f0l at *
            clear hffa hfft
            go_loopw [12] (fun p wx => ∃ j : Nat, j ≤ i0 ∧ p = .int .i64 (j : Int) ∧ (∀ i, i < j → (F.getD i fl0).line ≠ (ffa, fft)) ∧ Ext w6 wx) (fun p _ => i0 - (intOf p).toNat)
            case atStart => exact ⟨0, Nat.zero_le _, rfl, fun i hi => by omega, Ext.refl w6⟩
            case round =>
              obtain ⟨j, hj, rfl, hne, hE⟩ := hrel
              have HNE := Lib.hid hne
              obtain ⟨gr', o', A1', b1', e, e0, e1, e2, _⟩ := (HX6.out.ext hE).at_ (i := j) (by rw [HLN.out]; omega)
              cases e
              obtain ⟨x0, x1, x2⟩ := cell3 (HBf.out.ext hE)
              have HE7 := Lib.hid hE
              have HLJ : Hid ((F.getD j fl0).line = ((F.getD j fl0).from_, (F.getD j fl0).to_)) := Lib.hid rfl
              have HFJ : Hid (∃ fj, F.getD j fl0 = fj) := Lib.hid ⟨_, rfl⟩
              obtain ⟨fj, hfj⟩ := HFJ.out
              have HFJ2 := Lib.hid hfj
              have HF0J := Lib.hid (HF0L.out j)
              rw [hfj] at e0 e1 e2 HLJ HF0J
              clear hfj HFJ hne hE
              have HFT : Hid (∃ fa ft, fj.from_ = fa ∧ fj.to_ = ft) := Lib.hid ⟨_, _, rfl, rfl⟩
              obtain ⟨fa, ft, hfa, hft⟩ := HFT.out
              rw [hfa, hft] at HLJ HF0J
              rw [hfa] at e0
              rw [hft] at e1
              have HFA := Lib.hid hfa
              have HFTT := Lib.hid hft
              clear hfa hft HFT
              generalize fj.b.length = fjl at *
              by_cases q1 : fa = ffa
              · have hda : ((fa : Int) != (ffa : Int)) = false := by simp; omega
                have HQ1 := Lib.hid q1
                by_cases q2 : ft = fft
                · have hdt : ((ft : Int) != (fft : Int)) = false := by simp; omega
                  have HQ2 := Lib.hid q2
                  clear q1 q2
                  go_upto_region 18 with fail
                  refine wp_eager Ext.pre (n := 18) (by kernel_rfl) (by kernel_rfl) ?_
                  refine Eg.batchK Ext.pre (by intro c a d v w h; cases d <;> exact h) (by kernel_rfl) (n := 13) [0, 1, 2, 3, 5] [] _ (by kernel_rfl) (fun K hK => ?_); (simp only [pickOps, List.getElem?_toArray, List.getElem?_cons_zero, List.getElem?_cons_succ, Option.toList_some, List.cons_append, List.nil_append]); (repeat (first | go_big_quiet_step (fail) | quiet_step (fail))); refine wpQuiet_nil (hK _ ?_); clear hK K
                  (refine Eg.read Ext.pre (by intro c a d v w h; cases d <;> exact h) (by kernel_rfl) (i := 4) (n := 12) (l := [0, 1, 2, 3, 5]) rfl (by kernel_rfl) (by kernel_rfl) rfl ⟨_, fun w' hR => load_run rfl (load_int (hR.cell (a := wr.drew) e0)), ?_⟩); (simp only [Act.put, List.setIfInBounds_toArray, List.getElem_toArray, List.getElem_cons_succ, List.getElem_cons_zero, List.set_cons_succ, List.set_cons_zero])
                  (refine Eg.read Ext.pre (by intro c a d v w h; cases d <;> exact h) (by kernel_rfl) (i := 6) (n := 11) (l := [0, 1, 2, 3, 5, 4]) rfl (by kernel_rfl) (by kernel_rfl) rfl ⟨_, fun w' hR => load_run rfl (load_int (hR.cell (a := wr.drew) x0)), ?_⟩); (simp only [Act.put, List.setIfInBounds_toArray, List.getElem_toArray, List.getElem_cons_succ, List.getElem_cons_zero, List.set_cons_succ, List.set_cons_zero])
                  refine Eg.batchK Ext.pre (by intro c a d v w h; cases d <;> exact h) (by kernel_rfl) (n := 4) [7, 8, 9, 10, 11, 12, 14] [0, 1, 2, 3, 5, 4, 6] _ (by kernel_rfl) (fun K hK => ?_); (simp only [pickOps, List.getElem?_toArray, List.getElem?_cons_zero, List.getElem?_cons_succ, Option.toList_some, List.cons_append, List.nil_append]); (repeat (first | go_big_quiet_step (fail) | quiet_step (fail))); refine wpQuiet_nil (hK _ ?_); clear hK K
                  (refine Eg.read Ext.pre (by intro c a d v w h; cases d <;> exact h) (by kernel_rfl) (i := 13) (n := 3) (l := [0, 1, 2, 3, 5, 4, 6, 7, 8, 9, 10, 11, 12, 14]) rfl (by kernel_rfl) (by kernel_rfl) rfl ⟨_, fun w' hR => load_run rfl (load_int (hR.cell (a := wr.drew) e1)), ?_⟩); (simp only [Act.put, List.setIfInBounds_toArray, List.getElem_toArray, List.getElem_cons_succ, List.getElem_cons_zero, List.set_cons_succ, List.set_cons_zero])
                  (refine Eg.read Ext.pre (by intro c a d v w h; cases d <;> exact h) (by kernel_rfl) (i := 15) (n := 2) (l := [0, 1, 2, 3, 5, 4, 6, 7, 8, 9, 10, 11, 12, 14, 13]) rfl (by kernel_rfl) (by kernel_rfl) rfl ⟨_, fun w' hR => load_run rfl (load_int (hR.cell (a := wr.drew) x1)), ?_⟩); (simp only [Act.put, List.setIfInBounds_toArray, List.getElem_toArray, List.getElem_cons_succ, List.getElem_cons_zero, List.set_cons_succ, List.set_cons_zero])
                  refine Eg.batchK Ext.pre (by intro c a d v w h; cases d <;> exact h) (by kernel_rfl) (n := 0) [16, 17] [0, 1, 2, 3, 5, 4, 6, 7, 8, 9, 10, 11, 12, 14, 13, 15] _ (by kernel_rfl) (fun K hK => ?_); (simp only [pickOps, List.getElem?_toArray, List.getElem?_cons_zero, List.getElem?_cons_succ, Option.toList_some, List.cons_append, List.nil_append]); (repeat (first | go_big_quiet_step (fail) | quiet_step (fail))); refine wpQuiet_nil (hK _ ?_); clear hK K
                  refine Eg.finish (by kernel_rfl) ?_
                  have hjl : j < (flN N).length := by rw [HF.out, HLN.out]; omega
                  have hline : ((flN N).getD j fl0).line = (ffa, fft) := by rw [HF.out, HFJ2.out, HLJ.out, HQ1.out, HQ2.out]
                  obtain ⟨k0, hfl1, hmem, hpos⟩ := first_at hjl (fun i hi => by rw [hline, HF.out]; exact HNE.out i hi)
                  rw [hline] at hmem hpos
                  have hfrom : ((flN N).getD j fl0).from_ = ffa := congrArg Prod.fst hline
                  have hto : ((flN N).getD j fl0).to_ = fft := congrArg Prod.snd hline
                  have haF : atF N (j : Int) = ⟨ffa, fft, (N.L (ffa, fft)).getD 0 []⟩ := by rw [atF_nat hjl, hfl1, hline, hfrom, hto]
                  have hTK : takeN N (j : Int) = delN N (ffa, fft) 0 := by unfold takeN; rw [if_pos (at_nat hjl), k0, haF]; rfl
                  have HE8 := Lib.hid ((HE6.out.trans HE7.out).drew)
                  have hP8 := HP.out.ext HE8.out
                  have KT := Take_net hP8.1 (j : Int) (by unfold I64; omega) (by omega)
                  rw [haF, hTK, at_nat hjl] at KT
                  have KT := Lib.hid KT
                  have HP8 := Lib.hid hP8
                  have HBf8 := Lib.hid ((HBf.out.ext HE7.out).ext (Ext.refl wr).drew)
                  have HMEM := Lib.hid hmem
                  have HSZ := Lib.hid (size_del HP.out.1.1 hmem hpos)
                  have HDK := Lib.hid (okN_del HP.out.1.1 (ffa, fft) 0)
                  have HDL : Hid (delN N (ffa, fft) 0 = { N with L := setL N.L (ffa, fft) ((N.L (ffa, fft)).eraseIdx 0) }) := Lib.hid rfl
                  have hmb := (mem_linesOf _ _).1 hmem
                  have h5 := HP.out.1.1.e5
                  have hm1 : ffa < 6 := by omega
                  have hm2 : fft < 6 := by omega
                  clear hline k0 hfl1 hmem hfrom hto haF hTK hP8 e0 e1 e2 x0 x1 x2 hmb h5 HFA HFTT HQ1 HQ2 HLJ HFJ2 HF0J HNE HF0L hjl HBf HX6
                  generalize hLp : N.L (ffa, fft) = L0 at *
                  have HLP := Lib.hid hLp
                  clear hLp
                  go_wp2_with fail
                  refine KT.out.mono ?_
                  rintro e w9 ⟨vb, rfl, hbs, S9, hN9, hG9, hC9⟩
                  obtain ⟨A9, c9, rfl, _⟩ := id hbs
                  obtain ⟨n1, n2, n3⟩ := net_then HP8.out.1 HP8.out.2.1 HP8.out.2.2 hN9 hG9 hC9
                  have HX9 := Lib.hid (ext_new w9 (.cells #[.int .i64 (ffa : Int), .int .i64 (fft : Int), .slice A9 (L0.getD 0 []).length c9] 45))
                  have HB9 := Lib.hid (Blk.new w9 45 #[.int .i64 (ffa : Int), .int .i64 (fft : Int), .slice A9 (L0.getD 0 []).length c9])
                  have HS9 := Lib.hid (hbs.ext HX9.out)
                  have HN9 := Lib.hid (hN9.ext HX9.out)
                  have HR9 := Lib.hid (n1.ext HX9.out)
                  have HD9 := Lib.hid n2
                  have HG9 := Lib.hid hG9
                  have HC9 := Lib.hid (n3.trans (Chg.of_ext (S := fun k => S k ∨ k = r) HX9.out) (fun k h => .inl h))
                  have HBf9 := Lib.hid ((hC9.blk HBf8.out (fun h => HP8.out.1.typ (by decide) (by decide) _ _ h HBf8.out)).ext HX9.out)
                  obtain ⟨Al, cl, hlc, hlr⟩ := HR9.out.line (m := ffa) (n := fft) hm1 hm2
                  rw [HLP.out] at hlc hlr
                  obtain ⟨grl, ol, Ab, cb, rfl, hel, hbel⟩ := hlr.elem (q := 0) hpos
                  have HBE := Lib.hid hbel
                  have HLT := Lib.hid (hlr.tail hpos)
                  obtain ⟨csR, hblkR, _⟩ := HR9.out.cellAt
                  have HBR := Lib.hid hblkR
                  have hcll : L0.length ≤ cl := by
                    obtain ⟨_, _, e, q, _⟩ := hlr
                    cases e; exact q
                  have hbr := HBf9.out.lt
                  have HNR : Hid (¬ bf = r) := Lib.hid (fun e => by
                    have hbx := HBR.out
                    rw [← e] at hbx
                    exact absurd (HBf9.out.type hbx).1 (by decide))
                  generalize hel0 : L0.getD 0 [] = el at *
                  clear hbs hN9 hG9 hC9 n1 n2 n3 hbel hlr hblkR KT HBf8
                  obtain ⟨x0, x1, x2⟩ := cell3 HBf9.out
                  obtain ⟨y0, y1, y2⟩ := cell3 HB9.out
                  go_upto_region 21 with fail
                  generalize w9.alloc (.cells #[.int .i64 (ffa : Int), .int .i64 (fft : Int), .slice A9 el.length c9] 45) = w10 at *
                  generalize w9.heap.size = b9 at *
                  refine wp_eager Ext.pre (n := 11) (by kernel_rfl) (by kernel_rfl) ?_
                  refine Eg.batchK Ext.pre (by intro c a d v w h; cases d <;> exact h) (by kernel_rfl) (n := 6) [0, 1, 3, 5, 6] [] _ (by kernel_rfl) (fun K hK => ?_); (simp only [pickOps, List.getElem?_toArray, List.getElem?_cons_zero, List.getElem?_cons_succ, Option.toList_some, List.cons_append, List.nil_append]); (repeat (first | go_big_quiet_step (fail) | quiet_step (fail))); refine wpQuiet_nil (hK _ ?_); clear hK K
                  (refine Eg.read Ext.pre (by intro c a d v w h; cases d <;> exact h) (by kernel_rfl) (i := 2) (n := 5) (l := [0, 1, 3, 5, 6]) rfl (by kernel_rfl) (by kernel_rfl) rfl ⟨_, fun w' hR => load_run rfl (load_int (hR.cell (a := w10.drew) x0)), ?_⟩); (simp only [Act.put, List.setIfInBounds_toArray, List.getElem_toArray, List.getElem_cons_succ, List.getElem_cons_zero, List.set_cons_succ, List.set_cons_zero])
                  refine Eg.batchK Ext.pre (by intro c a d v w h; cases d <;> exact h) (by kernel_rfl) (n := 4) [7] [0, 1, 3, 5, 6, 2] _ (by kernel_rfl) (fun K hK => ?_); (simp only [pickOps, List.getElem?_toArray, List.getElem?_cons_zero, List.getElem?_cons_succ, Option.toList_some, List.cons_append, List.nil_append]); (repeat (first | go_big_quiet_step (fail) | quiet_step (fail))); refine wpQuiet_nil (hK _ ?_); clear hK K
                  (refine Eg.read Ext.pre (by intro c a d v w h; cases d <;> exact h) (by kernel_rfl) (i := 4) (n := 3) (l := [0, 1, 3, 5, 6, 2, 7]) rfl (by kernel_rfl) (by kernel_rfl) rfl ⟨_, fun w' hR => load_run rfl (load_int (hR.cell (a := w10.drew) x1)), ?_⟩); (simp only [Act.put, List.setIfInBounds_toArray, List.getElem_toArray, List.getElem_cons_succ, List.getElem_cons_zero, List.set_cons_succ, List.set_cons_zero])
                  refine Eg.batchK Ext.pre (by intro c a d v w h; cases d <;> exact h) (by kernel_rfl) (n := 2) [8] [0, 1, 3, 5, 6, 2, 7, 4] _ (by kernel_rfl) (fun K hK => ?_); (simp only [pickOps, List.getElem?_toArray, List.getElem?_cons_zero, List.getElem?_cons_succ, Option.toList_some, List.cons_append, List.nil_append]); (repeat (first | go_big_quiet_step (fail) | quiet_step (fail))); refine wpQuiet_nil (hK _ ?_); clear hK K
                  (refine Eg.read Ext.pre (by intro c a d v w h; cases d <;> exact h) (by kernel_rfl) (i := 9) (n := 1) (l := [0, 1, 3, 5, 6, 2, 7, 4, 8]) rfl (by kernel_rfl) (by kernel_rfl) rfl ⟨_, fun w' hR => load_run rfl (load_lines (hR.cell (a := w10.drew) hlc)), ?_⟩); (simp only [Act.put, List.setIfInBounds_toArray, List.getElem_toArray, List.getElem_cons_succ, List.getElem_cons_zero, List.set_cons_succ, List.set_cons_zero])
                  refine Eg.batchK Ext.pre (by intro c a d v w h; cases d <;> exact h) (by kernel_rfl) (n := 0) [10] [0, 1, 3, 5, 6, 2, 7, 4, 8, 9] _ (by kernel_rfl) (fun K hK => ?_); (simp only [pickOps, List.getElem?_toArray, List.getElem?_cons_zero, List.getElem?_cons_succ, Option.toList_some, List.cons_append, List.nil_append]); (repeat (first | go_big_quiet_step (fail) | quiet_step (fail))); refine wpQuiet_nil (hK _ ?_); clear hK K
                  refine Eg.finish (by kernel_rfl) ?_
                  have hb1 : ((L0.length : Int) == 0) = false := by rw [beq_eq_false_iff_ne]; omega
                  have KSM := Lib.hid (fun W (hW : Ext w10 W) => Same_any W (ffa : Int) (fft : Int) (ffa : Int) (fft : Int) _ _ el el (HS9.out.ext hW) (HBE.out.ext hW))
                  rw [show sameZ (ffa : Int) (fft : Int) el (ffa : Int) (fft : Int) el = true from sameZ_self ⟨ffa, fft, el⟩] at KSM
                  go_upto_region 22 with fail
                  have HX : Ext w10 w10.drew.drew := (Ext.refl w10).drew.drew
                  refine wp_eager Ext.pre (n := 21) (by kernel_rfl) (by kernel_rfl) ?_
                  refine Eg.batchK Ext.pre (by intro c a d v w h; cases d <;> exact h) (by kernel_rfl) (n := 20) [0] [] _ (by kernel_rfl) (fun K hK => ?_); (simp only [pickOps, List.getElem?_toArray, List.getElem?_cons_zero, List.getElem?_cons_succ, Option.toList_some, List.cons_append, List.nil_append]); (repeat (first | go_big_quiet_step (fail) | quiet_step (fail))); refine wpQuiet_nil (hK _ ?_); clear hK K
                  refine Eg.act Ext.pre (i := 1) (n := 19) (l := [0]) rfl (by kernel_rfl) ?_
                  go_wp2_with fail
                  refine (num4_any _ _).mono ?_
                  rintro e w' ⟨rfl, rfl⟩
                  go_wp2_with fail
                  refine ⟨Ext.refl _, ?_⟩
                  refine Eg.batchK Ext.pre (by intro c a d v w h; cases d <;> exact h) (by kernel_rfl) (n := 8) [2, 3, 4, 5, 6, 7, 8, 10, 12, 14, 15] [0, 1] _ (by kernel_rfl) (fun K hK => ?_); (simp only [pickOps, List.getElem?_toArray, List.getElem?_cons_zero, List.getElem?_cons_succ, Option.toList_some, List.cons_append, List.nil_append]); (repeat (first | go_big_quiet_step (fail) | quiet_step (fail))); refine wpQuiet_nil (hK _ ?_); clear hK K
                  (refine Eg.read Ext.pre (by intro c a d v w h; cases d <;> exact h) (by kernel_rfl) (i := 9) (n := 7) (l := [0, 1, 2, 3, 4, 5, 6, 7, 8, 10, 12, 14, 15]) rfl (by kernel_rfl) (by kernel_rfl) rfl ⟨_, fun w' hR => load_run rfl (load_fl (hR.cell (a := w10.drew.drew) y0) (hR.cell (a := w10.drew.drew) y1) (hR.cell (a := w10.drew.drew) y2)), ?_⟩); (simp only [Act.put, List.setIfInBounds_toArray, List.getElem_toArray, List.getElem_cons_succ, List.getElem_cons_zero, List.set_cons_succ, List.set_cons_zero])
                  (refine Eg.read Ext.pre (by intro c a d v w h; cases d <;> exact h) (by kernel_rfl) (i := 11) (n := 6) (l := [0, 1, 2, 3, 4, 5, 6, 7, 8, 10, 12, 14, 15, 9]) rfl (by kernel_rfl) (by kernel_rfl) rfl ⟨_, fun w' hR => load_run rfl (load_int (hR.cell (a := w10.drew.drew) x0)), ?_⟩); (simp only [Act.put, List.setIfInBounds_toArray, List.getElem_toArray, List.getElem_cons_succ, List.getElem_cons_zero, List.set_cons_succ, List.set_cons_zero])
                  (refine Eg.read Ext.pre (by intro c a d v w h; cases d <;> exact h) (by kernel_rfl) (i := 13) (n := 5) (l := [0, 1, 2, 3, 4, 5, 6, 7, 8, 10, 12, 14, 15, 9, 11]) rfl (by kernel_rfl) (by kernel_rfl) rfl ⟨_, fun w' hR => load_run rfl (load_int (hR.cell (a := w10.drew.drew) x1)), ?_⟩); (simp only [Act.put, List.setIfInBounds_toArray, List.getElem_toArray, List.getElem_cons_succ, List.getElem_cons_zero, List.set_cons_succ, List.set_cons_zero])
                  (refine Eg.read Ext.pre (by intro c a d v w h; cases d <;> exact h) (by kernel_rfl) (i := 16) (n := 4) (l := [0, 1, 2, 3, 4, 5, 6, 7, 8, 10, 12, 14, 15, 9, 11, 13]) rfl (by kernel_rfl) (by kernel_rfl) rfl ⟨_, fun w' hR => load_run rfl (load_bs (hR.cell (a := w10.drew.drew) hel)), ?_⟩); (simp only [Act.put, List.setIfInBounds_toArray, List.getElem_toArray, List.getElem_cons_succ, List.getElem_cons_zero, List.set_cons_succ, List.set_cons_zero])
                  refine Eg.batchK Ext.pre (by intro c a d v w h; cases d <;> exact h) (by kernel_rfl) (n := 3) [17] [0, 1, 2, 3, 4, 5, 6, 7, 8, 10, 12, 14, 15, 9, 11, 13, 16] _ (by kernel_rfl) (fun K hK => ?_); (simp only [pickOps, List.getElem?_toArray, List.getElem?_cons_zero, List.getElem?_cons_succ, Option.toList_some, List.cons_append, List.nil_append]); (repeat (first | go_big_quiet_step (fail) | quiet_step (fail))); refine wpQuiet_nil (hK _ ?_); clear hK K
                  refine Eg.act Ext.pre (i := 18) (n := 2) (l := [0, 1, 2, 3, 4, 5, 6, 7, 8, 10, 12, 14, 15, 9, 11, 13, 16, 17]) rfl (by kernel_rfl) ?_
                  go_wp2_with fail
                  refine (KSM.out _ HX).mono ?_
                  rintro e w11 ⟨rfl, hE11⟩
                  go_wp2_with fail
                  refine ⟨hE11, ?_⟩
                  refine Eg.batchK Ext.pre (by intro c a d v w h; cases d <;> exact h) (by kernel_rfl) (n := 0) [19, 20] [0, 1, 2, 3, 4, 5, 6, 7, 8, 10, 12, 14, 15, 9, 11, 13, 16, 17, 18] _ (by kernel_rfl) (fun K hK => ?_); (simp only [pickOps, List.getElem?_toArray, List.getElem?_cons_zero, List.getElem?_cons_succ, Option.toList_some, List.cons_append, List.nil_append]); (repeat (first | go_big_quiet_step (fail) | quiet_step (fail))); refine wpQuiet_nil (hK _ ?_); clear hK K
                  refine Eg.finish (by kernel_rfl) ?_
                  have HE11 := Lib.hid (HX.trans hE11)
                  have a0 := HE11.out.cell x0
                  have a1 := HE11.out.cell x1
                  have hc11 := HE11.out.cell hlc
                  have HR11 := Lib.hid (HR9.out.ext HE11.out)
                  have HN11 := Lib.hid (HN9.out.ext HE11.out)
                  have HLT11 := Lib.hid (HLT.out.chg (S := fun _ => False) (Chg.of_ext HE11.out) (fun _ h => h.elim) (fun _ _ h => h.elim))
                  have HC11 := Lib.hid (HC9.out.ext (HE.out.trans HE8.out) (fun q hq => hq.elim (HS.out q) (fun e => by rw [e]; exact HT.out r HP.out.2.1.2.2.1)))
                  have hfr := ((HBR.out.ext HE11.out.drew)).frozen (ffa * 6 + fft)
                  have hsl1 : 1 ≤ L0.length := hpos
                  clear x0 x1 x2 y0 y1 y2 hel hlc hE11 HX KSM HS9 HB9 HBf9 HBE
                  go_upto_region 24 with fail
                  have hc11' : w11.drew.cell? ⟨r, ffa * 6 + fft, none⟩ = some (.slice (some ⟨grl, ol, none⟩) L0.length cl) := (Ext.refl w11).drew.cell hc11
                  refine wp_eager (chg_pre (fun k => k = r)) (n := 12) (by kernel_rfl) (by kernel_rfl) ?_
                  refine Eg.batchK (chg_pre (fun k => k = r)) (by intro c a d v w h; cases d <;> exact h) (by kernel_rfl) (n := 5) [0, 1, 3, 5, 6, 7, 8] [] _ (by kernel_rfl) (fun K hK => ?_); (simp only [pickOps, List.getElem?_toArray, List.getElem?_cons_zero, List.getElem?_cons_succ, Option.toList_some, List.cons_append, List.nil_append]); (repeat (first | go_big_quiet_step (fail) | quiet_step (fail))); refine wpQuiet_nil (hK _ ?_); clear hK K
                  (refine Eg.read (chg_pre (fun k => k = r)) (by intro c a d v w h; cases d <;> exact h) (by kernel_rfl) (i := 2) (n := 4) (l := [0, 1, 3, 5, 6, 7, 8]) rfl (by kernel_rfl) (by kernel_rfl) rfl ⟨_, fun w' hR => load_run rfl (load_int (hR.cell (w := w11.drew) a0 HNR.out)), ?_⟩); (simp only [Act.put, List.setIfInBounds_toArray, List.getElem_toArray, List.getElem_cons_succ, List.getElem_cons_zero, List.set_cons_succ, List.set_cons_zero])
                  refine Eg.batchK (chg_pre (fun k => k = r)) (by intro c a d v w h; cases d <;> exact h) (by kernel_rfl) (n := 3) [9] [0, 1, 3, 5, 6, 7, 8, 2] _ (by kernel_rfl) (fun K hK => ?_); (simp only [pickOps, List.getElem?_toArray, List.getElem?_cons_zero, List.getElem?_cons_succ, Option.toList_some, List.cons_append, List.nil_append]); (repeat (first | go_big_quiet_step (fail) | quiet_step (fail))); refine wpQuiet_nil (hK _ ?_); clear hK K
                  (refine Eg.read (chg_pre (fun k => k = r)) (by intro c a d v w h; cases d <;> exact h) (by kernel_rfl) (i := 4) (n := 2) (l := [0, 1, 3, 5, 6, 7, 8, 2, 9]) rfl (by kernel_rfl) (by kernel_rfl) rfl ⟨_, fun w' hR => load_run rfl (load_int (hR.cell (w := w11.drew) a1 HNR.out)), ?_⟩); (simp only [Act.put, List.setIfInBounds_toArray, List.getElem_toArray, List.getElem_cons_succ, List.getElem_cons_zero, List.set_cons_succ, List.set_cons_zero])
                  refine Eg.batchK (chg_pre (fun k => k = r)) (by intro c a d v w h; cases d <;> exact h) (by kernel_rfl) (n := 1) [10] [0, 1, 3, 5, 6, 7, 8, 2, 9, 4] _ (by kernel_rfl) (fun K hK => ?_); (simp only [pickOps, List.getElem?_toArray, List.getElem?_cons_zero, List.getElem?_cons_succ, Option.toList_some, List.cons_append, List.nil_append]); (repeat (first | go_big_quiet_step (fail) | quiet_step (fail))); refine wpQuiet_nil (hK _ ?_); clear hK K
                  generalize (if cl = 1 then some (⟨grl, ol, none⟩ : Addr) else some ⟨grl, ol + 1, none⟩) = A2 at *
                  refine Eg.act (chg_pre (fun k => k = r)) (i := 11) (n := 0) (l := [0, 1, 3, 5, 6, 7, 8, 2, 9, 4, 10]) rfl (by kernel_rfl) ?_
                  go_wp2_with fail
                  refine ⟨Chg.of_grown (grown_set _ _ _) (fun k e => by cases e; rfl), ?_⟩
                  refine Eg.finish (by kernel_rfl) ?_
                  have hE12 := (HC11.out.trans HE11.out).setCell (p := ⟨r, ffa * 6 + fft, none⟩) (HT.out r HP.out.2.1.2.2.1) (.slice A2 (L0.length - 1) (cl - 1))
                  have hRs := HR11.out.stored (Ext.refl w11) hm1 hm2 HLT11.out (fun k h => h) (fun k h => .inl h) (by rw [← HDL.out]; exact HDK.out)
                  rw [← HDL.out] at hRs
                  have hCs : Chg (fun k => k = r) w11 (w11.setCell ⟨r, ffa * 6 + fft, none⟩ (.slice A2 (L0.length - 1) (cl - 1))) := Chg.of_grown (grown_set _ _ _) (fun k e => by cases e; rfl)
                  obtain ⟨n1, n2, n3⟩ := ref_then HN11.out HR11.out HD9.out hRs (Gr.refl _ _) hCs
                  have hP12 : Pr2 (w11.setCell ⟨r, ffa * 6 + fft, none⟩ (.slice A2 (L0.length - 1) (cl - 1))).drew S9 T g r (nb + 1) (delN N (ffa, fft) 0) := Pr2.ext ⟨n1, hRs, n2⟩ (Ext.refl _).drew
                  have HP12 := Lib.hid hP12
                  have HE12 := Lib.hid hE12.drew
                  have HS12 : Hid (∀ q, S9 q → w.heap.size ≤ q) := Lib.hid (fun q hq => (HG9.out q hq).elim (HS.out q) (fun h => Nat.le_trans (HE.out.trans HE8.out).size h))
                  have HM12 : Hid (mes (w11.setCell ⟨r, ffa * 6 + fft, none⟩ (.slice A2 (L0.length - 1) (cl - 1))).drew r < mes wo r) := Lib.hid (by rw [mes_ref hP12.2.1, HMES.out]; exact HSZ.out)
                  have HNB2 : Hid (nb + 1 + sizeN (delN N (ffa, fft) 0).L ≤ 10000) := Lib.hid (by have := HSZ.out; omega)
                  clear n1 n2 n3 hRs hCs hP12 hE12 a0 a1 hc11 hc11' hfr
                  go_wp2_with fail
                  exact ⟨⟨_, S9, T, nb + 1, HNB2.out, HP12.out, HS12.out, HT.out, HE12.out⟩, HM12.out⟩
                ·
                  -- DONE
                  have hdt : ((ft : Int) != (fft : Int)) = true := by simp; omega
                  have HQ2 := Lib.hid q2
                  clear q1 q2
                  go_upto_region 18 with fail
                  refine wp_eager Ext.pre (n := 18) (by kernel_rfl) (by kernel_rfl) ?_
                  refine Eg.batchK Ext.pre (by intro c a d v w h; cases d <;> exact h) (by kernel_rfl) (n := 13) [0, 1, 2, 3, 5] [] _ (by kernel_rfl) (fun K hK => ?_); (simp only [pickOps, List.getElem?_toArray, List.getElem?_cons_zero, List.getElem?_cons_succ, Option.toList_some, List.cons_append, List.nil_append]); (repeat (first | go_big_quiet_step (fail) | quiet_step (fail))); refine wpQuiet_nil (hK _ ?_); clear hK K
                  (refine Eg.read Ext.pre (by intro c a d v w h; cases d <;> exact h) (by kernel_rfl) (i := 4) (n := 12) (l := [0, 1, 2, 3, 5]) rfl (by kernel_rfl) (by kernel_rfl) rfl ⟨_, fun w' hR => load_run rfl (load_int (hR.cell (a := wr.drew) e0)), ?_⟩); (simp only [Act.put, List.setIfInBounds_toArray, List.getElem_toArray, List.getElem_cons_succ, List.getElem_cons_zero, List.set_cons_succ, List.set_cons_zero])
                  (refine Eg.read Ext.pre (by intro c a d v w h; cases d <;> exact h) (by kernel_rfl) (i := 6) (n := 11) (l := [0, 1, 2, 3, 5, 4]) rfl (by kernel_rfl) (by kernel_rfl) rfl ⟨_, fun w' hR => load_run rfl (load_int (hR.cell (a := wr.drew) x0)), ?_⟩); (simp only [Act.put, List.setIfInBounds_toArray, List.getElem_toArray, List.getElem_cons_succ, List.getElem_cons_zero, List.set_cons_succ, List.set_cons_zero])
                  refine Eg.batchK Ext.pre (by intro c a d v w h; cases d <;> exact h) (by kernel_rfl) (n := 4) [7, 8, 9, 10, 11, 12, 14] [0, 1, 2, 3, 5, 4, 6] _ (by kernel_rfl) (fun K hK => ?_); (simp only [pickOps, List.getElem?_toArray, List.getElem?_cons_zero, List.getElem?_cons_succ, Option.toList_some, List.cons_append, List.nil_append]); (repeat (first | go_big_quiet_step (fail) | quiet_step (fail))); refine wpQuiet_nil (hK _ ?_); clear hK K
                  (refine Eg.read Ext.pre (by intro c a d v w h; cases d <;> exact h) (by kernel_rfl) (i := 13) (n := 3) (l := [0, 1, 2, 3, 5, 4, 6, 7, 8, 9, 10, 11, 12, 14]) rfl (by kernel_rfl) (by kernel_rfl) rfl ⟨_, fun w' hR => load_run rfl (load_int (hR.cell (a := wr.drew) e1)), ?_⟩); (simp only [Act.put, List.setIfInBounds_toArray, List.getElem_toArray, List.getElem_cons_succ, List.getElem_cons_zero, List.set_cons_succ, List.set_cons_zero])
                  (refine Eg.read Ext.pre (by intro c a d v w h; cases d <;> exact h) (by kernel_rfl) (i := 15) (n := 2) (l := [0, 1, 2, 3, 5, 4, 6, 7, 8, 9, 10, 11, 12, 14, 13]) rfl (by kernel_rfl) (by kernel_rfl) rfl ⟨_, fun w' hR => load_run rfl (load_int (hR.cell (a := wr.drew) x1)), ?_⟩); (simp only [Act.put, List.setIfInBounds_toArray, List.getElem_toArray, List.getElem_cons_succ, List.getElem_cons_zero, List.set_cons_succ, List.set_cons_zero])
                  refine Eg.batchK Ext.pre (by intro c a d v w h; cases d <;> exact h) (by kernel_rfl) (n := 0) [16, 17] [0, 1, 2, 3, 5, 4, 6, 7, 8, 9, 10, 11, 12, 14, 13, 15] _ (by kernel_rfl) (fun K hK => ?_); (simp only [pickOps, List.getElem?_toArray, List.getElem?_cons_zero, List.getElem?_cons_succ, Option.toList_some, List.cons_append, List.nil_append]); (repeat (first | go_big_quiet_step (fail) | quiet_step (fail))); refine wpQuiet_nil (hK _ ?_); clear hK K
                  refine Eg.finish (by kernel_rfl) ?_
                  have HJ : Hid (j < i0) := Lib.hid (by
                    rcases Nat.lt_or_ge j i0 with h | h
                    · exact h
                    · exact absurd (HF0J.out (by omega)).2 HQ2.out)
                  have HNX : Hid (∀ i, i < j + 1 → (F.getD i fl0).line ≠ (ffa, fft)) := Lib.hid (fun i hi => by
                    by_cases e : i = j
                    · subst e; rw [HFJ2.out, HLJ.out]; intro h; cases h; exact HQ2.out rfl
                    · exact HNE.out i (by omega))
                  have hji := HJ.out
                  clear e0 e1 e2 x0 x1 x2
                  go_wp2_with fail
                  exact ⟨⟨j + 1, by omega, by go_num, HNX.out, HE7.out.drew⟩, by simp [intOf]; omega⟩
                  -- ENDDONE
              ·
                -- DONE
                have hda : ((fa : Int) != (ffa : Int)) = true := by simp; omega
                have HQ1 := Lib.hid q1
                clear q1
                go_upto_region 18 with fail
                refine wp_eager Ext.pre (n := 18) (by kernel_rfl) (by kernel_rfl) ?_
                refine Eg.batchK Ext.pre (by intro c a d v w h; cases d <;> exact h) (by kernel_rfl) (n := 13) [0, 1, 2, 3, 5] [] _ (by kernel_rfl) (fun K hK => ?_); (simp only [pickOps, List.getElem?_toArray, List.getElem?_cons_zero, List.getElem?_cons_succ, Option.toList_some, List.cons_append, List.nil_append]); (repeat (first | go_big_quiet_step (fail) | quiet_step (fail))); refine wpQuiet_nil (hK _ ?_); clear hK K
                (refine Eg.read Ext.pre (by intro c a d v w h; cases d <;> exact h) (by kernel_rfl) (i := 4) (n := 12) (l := [0, 1, 2, 3, 5]) rfl (by kernel_rfl) (by kernel_rfl) rfl ⟨_, fun w' hR => load_run rfl (load_int (hR.cell (a := wr.drew) e0)), ?_⟩); (simp only [Act.put, List.setIfInBounds_toArray, List.getElem_toArray, List.getElem_cons_succ, List.getElem_cons_zero, List.set_cons_succ, List.set_cons_zero])
                (refine Eg.read Ext.pre (by intro c a d v w h; cases d <;> exact h) (by kernel_rfl) (i := 6) (n := 11) (l := [0, 1, 2, 3, 5, 4]) rfl (by kernel_rfl) (by kernel_rfl) rfl ⟨_, fun w' hR => load_run rfl (load_int (hR.cell (a := wr.drew) x0)), ?_⟩); (simp only [Act.put, List.setIfInBounds_toArray, List.getElem_toArray, List.getElem_cons_succ, List.getElem_cons_zero, List.set_cons_succ, List.set_cons_zero])
                refine Eg.batchK Ext.pre (by intro c a d v w h; cases d <;> exact h) (by kernel_rfl) (n := 4) [7, 8, 9, 10, 11, 12, 14] [0, 1, 2, 3, 5, 4, 6] _ (by kernel_rfl) (fun K hK => ?_); (simp only [pickOps, List.getElem?_toArray, List.getElem?_cons_zero, List.getElem?_cons_succ, Option.toList_some, List.cons_append, List.nil_append]); (repeat (first | go_big_quiet_step (fail) | quiet_step (fail))); refine wpQuiet_nil (hK _ ?_); clear hK K
                (refine Eg.skip Ext.pre (by intro c a d v w h; cases d <;> exact h) (by kernel_rfl) (i := 13) (n := 3) (l := [0, 1, 2, 3, 5, 4, 6, 7, 8, 9, 10, 11, 12, 14]) rfl (by kernel_rfl) (by kernel_rfl) rfl ?_); (simp only [Act.put, List.setIfInBounds_toArray, List.getElem_toArray, List.getElem_cons_succ, List.getElem_cons_zero, List.set_cons_succ, List.set_cons_zero])
                (refine Eg.skip Ext.pre (by intro c a d v w h; cases d <;> exact h) (by kernel_rfl) (i := 15) (n := 2) (l := [0, 1, 2, 3, 5, 4, 6, 7, 8, 9, 10, 11, 12, 14, 13]) rfl (by kernel_rfl) (by kernel_rfl) rfl ?_); (simp only [Act.put, List.setIfInBounds_toArray, List.getElem_toArray, List.getElem_cons_succ, List.getElem_cons_zero, List.set_cons_succ, List.set_cons_zero])
                refine Eg.batchK Ext.pre (by intro c a d v w h; cases d <;> exact h) (by kernel_rfl) (n := 0) [16, 17] [0, 1, 2, 3, 5, 4, 6, 7, 8, 9, 10, 11, 12, 14, 13, 15] _ (by kernel_rfl) (fun K hK => ?_); (simp only [pickOps, List.getElem?_toArray, List.getElem?_cons_zero, List.getElem?_cons_succ, Option.toList_some, List.cons_append, List.nil_append]); (repeat (first | go_big_quiet_step (fail) | quiet_step (fail))); refine wpQuiet_nil (hK _ ?_); clear hK K
                refine Eg.finish (by kernel_rfl) ?_
                have HJ : Hid (j < i0) := Lib.hid (by
                  rcases Nat.lt_or_ge j i0 with h | h
                  · exact h
                  · exact absurd (HF0J.out (by omega)).1 HQ1.out)
                have HNX : Hid (∀ i, i < j + 1 → (F.getD i fl0).line ≠ (ffa, fft)) := Lib.hid (fun i hi => by
                  by_cases e : i = j
                  · subst e; rw [HFJ2.out, HLJ.out]; intro h; cases h; exact HQ1.out rfl
                  · exact HNE.out i (by omega))
                have hji := HJ.out
                clear e0 e1 e2 x0 x1 x2
                go_wp2_with fail
                exact ⟨⟨j + 1, by omega, by go_num, HNX.out, HE7.out.drew⟩, by simp [intOf]; omega⟩
                -- ENDDONE

end Go.Proofs.Ytahooohokdbnpaa
