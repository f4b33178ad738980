
/-
  Acts in memory; contracts of law04.much, pair.
-/
import Derived.Test.YtahooohokdbnpaaDoM
set_option linter.unusedVariables false
set_option linter.unusedSimpArgs false
namespace Go.Proofs.Ytahooohokdbnpaa
open Go.RowKit Go.Shelf Go.Maps Pl

attribute [local go_sem] Oper.semAt_some

/-- the slice at A reads as acts -/
def Acs (w : World) (A : Option Addr) (fs : List Ac) : Prop :=
  fs = [] ∨ ∃ b o, A = some ⟨b, o, none⟩ ∧ ∀ i, i < fs.length → w.cell? ⟨b, o + i * 4, none⟩ = some (.int .i64 (fs.getD i ac0).kind) ∧ w.cell? ⟨b, o + i * 4 + 1, none⟩ = some (.int .i64 (fs.getD i ac0).a) ∧ w.cell? ⟨b, o + i * 4 + 2, none⟩ = some (.int .i64 (fs.getD i ac0).b) ∧
    ∃ Ai ci, w.cell? ⟨b, o + i * 4 + 3, none⟩ = some (.slice Ai (fs.getD i ac0).bytes.length ci) ∧ By w Ai (fs.getD i ac0).bytes
theorem Acs.at_ {w : World} {A : Option Addr} {fs : List Ac} (h : Acs w A fs) {i : Nat} (hi : i < fs.length) : ∃ b o, A = some ⟨b, o, none⟩ ∧ w.cell? ⟨b, o + i * 4, none⟩ = some (.int .i64 (fs.getD i ac0).kind) ∧ w.cell? ⟨b, o + i * 4 + 1, none⟩ = some (.int .i64 (fs.getD i ac0).a) ∧ w.cell? ⟨b, o + i * 4 + 2, none⟩ = some (.int .i64 (fs.getD i ac0).b) ∧
    ∃ Ai ci, w.cell? ⟨b, o + i * 4 + 3, none⟩ = some (.slice Ai (fs.getD i ac0).bytes.length ci) ∧ By w Ai (fs.getD i ac0).bytes := by
  rcases h with rfl | ⟨b, o, rfl, hc⟩
  · simp at hi
  · exact ⟨b, o, rfl, hc i hi⟩
theorem Acs.ext {w w' : World} {A : Option Addr} {fs : List Ac} (h : Acs w A fs) (hb : Ext w w') : Acs w' A fs := by
  rcases h with rfl | ⟨b, o, rfl, hc⟩
  · exact .inl rfl
  · refine .inr ⟨b, o, rfl, fun i hi => ?_⟩
    obtain ⟨h1, h2, h3, Ai, ci, h4, h5⟩ := hc i hi
    exact ⟨hb.cell h1, hb.cell h2, hb.cell h3, Ai, ci, hb.cell h4, h5.ext hb⟩

set_option maxHeartbeats 1600000 in
set_option maxRecDepth 100000 in
theorem muchN_any (w : World) (A : Option Addr) (fs : List Ac) (n c : Nat) (hn : n = fs.length) (hF : Acs w A fs) (hl : n ≤ 9223372036854775807) :
    Calls Try.prog 10 #[.slice A n c] w fun e w' => ∃ mb, e = .returned (.bool mb) ∧ (mb = false → fs.length ≤ 60 ∧ ∀ i, i < fs.length → (fs.getD i ac0).bytes.length ≤ 20000) ∧ Ext w w' := by
  have HF := Lib.hid hF
  have HN := Lib.hid hn
  clear hF hn
  go_enter Try.func10, Try.ntmps10
  go_wp2_with fail
  go_loopw [3, 4, 5] (fun s q i wr => ∃ k nn mm : Nat, k ≤ n ∧ k ≤ 61 ∧ i = .int .i64 (k : Int) ∧ s = .int .i64 (nn : Int) ∧ q = .int .i64 (mm : Int) ∧ nn ≤ 20001 * k ∧ mm ≤ k ∧ (nn ≤ 20000 → ∀ j, j < k → (fs.getD j ac0).bytes.length ≤ 20000) ∧ Ext w wr) (fun _ _ i _ => n - (intOf i).toNat)
  case atStart => exact ⟨0, 0, 0, by omega, by omega, rfl, rfl, rfl, by omega, by omega, fun _ j hj => by omega, Ext.refl _⟩
  case round =>
    obtain ⟨k, nn, mm, hk, hkm, rfl, rfl, rfl, h1, h2, h3, hE⟩ := hrel
    have HE := Lib.hid hE
    have H3 := Lib.hid h3
    clear hE h3
    by_cases hkn : k < n
    · have d1 : decide ((k : Int) < (n : Int)) = true := decide_eq_true (by omega)
      by_cases hk6 : k ≤ 60
      · have d2 : decide ((k : Int) ≤ 60) = true := decide_eq_true (by omega)
        obtain ⟨g, o, rfl, c0, _, _, Ai, ci, c3, _⟩ := (HF.out.ext HE.out).at_ (i := k) (by have := HN.out; omega)
        have H3' : Hid (∀ t : Nat, (fs.getD k ac0).bytes.length ≤ 20000 ∨ t = 20001 → nn + t ≤ 20000 → ∀ j, j < k + 1 → (fs.getD j ac0).bytes.length ≤ 20000) := Lib.hid (fun t ht hle j hj => by
          by_cases e : j = k
          · subst e; rcases ht with h | h
            · exact h
            · omega
          · exact H3.out (by omega) j (by omega))
        clear H3
        generalize (fs.getD k ac0).bytes.length = bl at *
        generalize (fs.getD k ac0).kind = kd at *
        obtain ⟨t, ht⟩ : ∃ t : Nat, min bl 20001 = t := ⟨_, rfl⟩
        have hif : (if (20001 : Int) < (bl : Int) then (20001 : Int) else (bl : Int)) = (t : Int) := by split <;> omega
        have HT : Hid (bl ≤ 20000 ∨ t = 20001) := Lib.hid (by omega)
        have ht2 : t ≤ 20001 := by omega
        clear ht
        by_cases h6 : kd = 6
        · have e6 : (kd == 6) = true := by rw [beq_iff_eq]; exact h6
          clear h6
          by_cases h100 : 100 < bl
          · have d3 : decide ((100 : Int) < (bl : Int)) = true := decide_eq_true (by omega)
            clear h100
            go_wp2_with fail
            go_ret
            exact ⟨_, rfl, fun h => by simp at h, HE.out⟩
          · have d3 : decide ((100 : Int) < (bl : Int)) = false := decide_eq_false (by omega)
            clear h100
            go_wp2_with fail
            exact ⟨⟨k + 1, nn + t, mm + 1, by omega, by omega, by go_num, by go_num, by go_num, by omega, by omega, H3'.out t HT.out, HE.out⟩, by simp [intOf]; omega⟩
        · have e6 : (kd == 6) = false := by rw [beq_eq_false_iff_ne]; exact h6
          clear h6
          go_wp2_with fail
          exact ⟨⟨k + 1, nn + t, mm, by omega, by omega, by go_num, by go_num, by go_num, by omega, by omega, H3'.out t HT.out, HE.out⟩, by simp [intOf]; omega⟩
      · have d2 : decide ((k : Int) ≤ 60) = false := decide_eq_false (by omega)
        have d3 : decide ((60 : Int) < (n : Int)) = true := decide_eq_true (by omega)
        by_cases h4 : 20000 < nn
        · have d4 : decide ((20000 : Int) < (nn : Int)) = true := decide_eq_true (by omega)
          go_wp2_with fail
          go_ret
          exact ⟨_, rfl, fun h => by simp at h, HE.out⟩
        · have d4 : decide ((20000 : Int) < (nn : Int)) = false := decide_eq_false (by omega)
          by_cases h5 : 3 < mm
          · have d5 : decide ((3 : Int) < (mm : Int)) = true := decide_eq_true (by omega)
            go_wp2_with fail
            go_ret
            exact ⟨_, rfl, fun h => by simp at h, HE.out⟩
          · have d5 : decide ((3 : Int) < (mm : Int)) = false := decide_eq_false (by omega)
            go_wp2_with fail
            go_ret
            exact ⟨_, rfl, fun h => by simp at h, HE.out⟩
    · obtain rfl : k = n := by omega
      have d1 : decide ((k : Int) < (k : Int)) = false := decide_eq_false (by omega)
      have HFIN : Hid (nn ≤ 20000 → k ≤ 60 → fs.length ≤ 60 ∧ ∀ i, i < fs.length → (fs.getD i ac0).bytes.length ≤ 20000) := Lib.hid (fun ha hb => ⟨by have := HN.out; omega, fun i hi => H3.out ha i (by have := HN.out; omega)⟩)
      by_cases h4 : 20000 < nn
      · have d4 : decide ((20000 : Int) < (nn : Int)) = true := decide_eq_true (by omega)
        go_wp2_with fail
        go_ret
        exact ⟨_, rfl, fun h => by simp at h, HE.out⟩
      · have d4 : decide ((20000 : Int) < (nn : Int)) = false := decide_eq_false (by omega)
        by_cases h5 : 3 < mm
        · have d5 : decide ((3 : Int) < (mm : Int)) = true := decide_eq_true (by omega)
          go_wp2_with fail
          go_ret
          exact ⟨_, rfl, fun h => by simp at h, HE.out⟩
        · have d5 : decide ((3 : Int) < (mm : Int)) = false := decide_eq_false (by omega)
          by_cases h6 : 60 < k
          · have d6 : decide ((60 : Int) < (k : Int)) = true := decide_eq_true (by omega)
            go_wp2_with fail
            go_ret
            exact ⟨_, rfl, fun h => by simp at h, HE.out⟩
          · have d6 : decide ((60 : Int) < (k : Int)) = false := decide_eq_false (by omega)
            go_wp2_with fail
            go_ret
            exact ⟨_, rfl, fun _ => HFIN.out (by omega) (by omega), HE.out⟩

/-- a net behind acts -/
def actsN (fs : List Ac) : Nt := fs.foldl doN (newN 4)
theorem actsN_succ (fs : List Ac) (k : Nat) (h : k < fs.length) : actsN (fs.take (k + 1)) = doN (actsN (fs.take k)) (fs.getD k ac0) := by
  unfold actsN
  rw [List.take_succ_eq_append_getElem h, List.foldl_append]
  simp [List.getD_eq_getElem?_getD, h]
/-- the document's new net -/
def refCells (n : Nat) : Array Value := (List.replicate 36 (Value.slice none 0 0) ++ [Value.int .i64 (n : Int), Value.int .i64 0]).toArray
theorem ref_new (w : World) (n : Nat) (h1 : 1 ≤ n) (h5 : n ≤ 5) : RefAt (w.alloc (.cells (refCells n) 34)) (fun k => k = w.heap.size) w.heap.size (newN n) := by
  refine ⟨okN_new h1 h5, Nat.zero_le _, rfl, fun k hk => .inl hk, refCells n, Blk.new w _ _, by simp [refCells], rfl, rfl, fun a b ha hb => ⟨.slice none 0 0, ?_, ⟨none, 0, rfl, Nat.le_refl _, Nat.zero_le _, .inl rfl⟩⟩⟩
  unfold refCells
  rw [List.getElem?_toArray, List.getElem?_append_left (by simp; omega), List.getElem?_replicate, if_pos (by omega)]

set_option maxHeartbeats 4000000 in
set_option maxRecDepth 100000 in
theorem pair_law (w : World) (A : Option Addr) (fs : List Ac) (n c : Nat) (hn : n = fs.length) (hF : Acs w A fs) (hl : n ≤ 60) (hok : ∀ i, i < fs.length → I64 (fs.getD i ac0).a ∧ I64 (fs.getD i ac0).b ∧ (fs.getD i ac0).bytes.length ≤ 20000) :
    Calls Try.prog 20 #[.slice A n c] w fun e w' => ∃ S T g r, e = .returned (.tuple #[.pointer (some ⟨g, 0, none⟩), .pointer (some ⟨r, 0, none⟩)]) ∧ Pr2 w' S T g r (70 * n) (actsN fs) ∧ (∀ k, S k → w.heap.size ≤ k) ∧ (∀ k, T k → w.heap.size ≤ k) ∧ Ext w w' := by
  have HF := Lib.hid hF
  have HOK := Lib.hid hok
  have HN := Lib.hid hn
  have HNEW := New_net w 4 (by omega) (by omega)
  rw [show ((4 : Nat) : Int) = 4 from rfl] at HNEW
  have HK := Lib.hid HNEW
  clear hF hok hn HNEW
  go_enter Try.func20, Try.ntmps20
  go_wp2_with fail
  refine HK.out.mono ?_
  rintro e w1 ⟨S0, g, rfl, hN1, hS1, hE1⟩
  have HN1 := Lib.hid hN1
  have HS1 := Lib.hid hS1
  have HE1 := Lib.hid hE1
  have HR1 : Hid (RefAt (w1.alloc (.cells #[Value.slice none 0 0, Value.slice none 0 0, Value.slice none 0 0, Value.slice none 0 0, Value.slice none 0 0, Value.slice none 0 0, Value.slice none 0 0, Value.slice none 0 0, Value.slice none 0 0, Value.slice none 0 0, Value.slice none 0 0, Value.slice none 0 0, Value.slice none 0 0, Value.slice none 0 0, Value.slice none 0 0, Value.slice none 0 0, Value.slice none 0 0, Value.slice none 0 0, Value.slice none 0 0, Value.slice none 0 0, Value.slice none 0 0, Value.slice none 0 0, Value.slice none 0 0, Value.slice none 0 0, Value.slice none 0 0, Value.slice none 0 0, Value.slice none 0 0, Value.slice none 0 0, Value.slice none 0 0, Value.slice none 0 0, Value.slice none 0 0, Value.slice none 0 0, Value.slice none 0 0, Value.slice none 0 0, Value.slice none 0 0, Value.slice none 0 0, Value.int .i64 4, Value.int .i64 0] 34)) (fun k => k = w1.heap.size) w1.heap.size (newN 4)) := Lib.hid (ref_new w1 4 (by omega) (by omega))
  have HX1 := Lib.hid (ext_new w1 (.cells #[Value.slice none 0 0, Value.slice none 0 0, Value.slice none 0 0, Value.slice none 0 0, Value.slice none 0 0, Value.slice none 0 0, Value.slice none 0 0, Value.slice none 0 0, Value.slice none 0 0, Value.slice none 0 0, Value.slice none 0 0, Value.slice none 0 0, Value.slice none 0 0, Value.slice none 0 0, Value.slice none 0 0, Value.slice none 0 0, Value.slice none 0 0, Value.slice none 0 0, Value.slice none 0 0, Value.slice none 0 0, Value.slice none 0 0, Value.slice none 0 0, Value.slice none 0 0, Value.slice none 0 0, Value.slice none 0 0, Value.slice none 0 0, Value.slice none 0 0, Value.slice none 0 0, Value.slice none 0 0, Value.slice none 0 0, Value.slice none 0 0, Value.slice none 0 0, Value.slice none 0 0, Value.slice none 0 0, Value.slice none 0 0, Value.slice none 0 0, Value.int .i64 4, Value.int .i64 0] 34))
  have HS0 := Lib.hid hN1.lt
  have HGS := Lib.hid hE1.size
  clear hN1 hS1 hE1 HK
  go_wp2_with fail
  refine (num4_any _ _).mono ?_
  rintro e w' ⟨rfl, rfl⟩
  generalize w1.alloc (.cells #[Value.slice none 0 0, Value.slice none 0 0, Value.slice none 0 0, Value.slice none 0 0, Value.slice none 0 0, Value.slice none 0 0, Value.slice none 0 0, Value.slice none 0 0, Value.slice none 0 0, Value.slice none 0 0, Value.slice none 0 0, Value.slice none 0 0, Value.slice none 0 0, Value.slice none 0 0, Value.slice none 0 0, Value.slice none 0 0, Value.slice none 0 0, Value.slice none 0 0, Value.slice none 0 0, Value.slice none 0 0, Value.slice none 0 0, Value.slice none 0 0, Value.slice none 0 0, Value.slice none 0 0, Value.slice none 0 0, Value.slice none 0 0, Value.slice none 0 0, Value.slice none 0 0, Value.slice none 0 0, Value.slice none 0 0, Value.slice none 0 0, Value.slice none 0 0, Value.slice none 0 0, Value.slice none 0 0, Value.slice none 0 0, Value.slice none 0 0, Value.int .i64 4, Value.int .i64 0] 34) = w2 at *
  generalize Value.agg #[Value.slice none 0 0, Value.slice none 0 0, Value.slice none 0 0, Value.slice none 0 0, Value.slice none 0 0, Value.slice none 0 0, Value.slice none 0 0, Value.slice none 0 0, Value.slice none 0 0, Value.slice none 0 0, Value.slice none 0 0, Value.slice none 0 0, Value.slice none 0 0, Value.slice none 0 0, Value.slice none 0 0, Value.slice none 0 0, Value.slice none 0 0, Value.slice none 0 0, Value.slice none 0 0, Value.slice none 0 0, Value.slice none 0 0, Value.slice none 0 0, Value.slice none 0 0, Value.slice none 0 0, Value.slice none 0 0, Value.slice none 0 0, Value.slice none 0 0, Value.slice none 0 0, Value.slice none 0 0, Value.slice none 0 0, Value.slice none 0 0, Value.slice none 0 0, Value.slice none 0 0, Value.slice none 0 0, Value.slice none 0 0, Value.slice none 0 0, Value.int .i64 4, Value.int .i64 0] = ag
  have HE2 := Lib.hid (HE1.out.trans HX1.out)
  have HP2 : Hid (Pr2 w2 S0 (fun k => k = w1.heap.size) g w1.heap.size (70 * 0) (actsN (fs.take 0))) := Lib.hid ⟨(HN1.out.ext HX1.out).mono (by omega), HR1.out, fun k hk e => by have := HS0.out k hk; omega⟩
  have HTL : Hid (∀ k, (fun k => k = w1.heap.size) k → w.heap.size ≤ k) := Lib.hid (fun k e => by have e' : k = w1.heap.size := e; have := HGS.out; omega)
  generalize (fun k => k = w1.heap.size) = T0 at *
  generalize w1.heap.size = r at *
  clear HN1 HE1 HX1 HR1 HS0 HGS
  have HSU : Hid (∀ k, k < n → actsN (fs.take (k + 1)) = doN (actsN (fs.take k)) (fs.getD k ac0)) := Lib.hid (fun k hk => actsN_succ fs k (by have := HN.out; omega))
  have HSE : Hid (actsN (fs.take n) = actsN fs) := Lib.hid (by rw [HN.out, List.take_length])
  go_wp2_with fail
  go_loopw [7] (fun i wr => ∃ k : Nat, k ≤ n ∧ i = .int .i64 (k : Int) ∧ ∃ S T, Pr2 wr S T g r (70 * k) (actsN (fs.take k)) ∧ (∀ q, S q → w.heap.size ≤ q) ∧ (∀ q, T q → w.heap.size ≤ q) ∧ Ext w wr) (fun i _ => n - (intOf i).toNat)
  case atStart => exact ⟨0, Nat.zero_le _, rfl, S0, T0, HP2.out, HS1.out, HTL.out, HE2.out⟩
  case round =>
    obtain ⟨k, hk, rfl, S, T, hP, hS, hT, hE⟩ := hrel
    have HP := Lib.hid hP
    have HS := Lib.hid hS
    have HT := Lib.hid hT
    have HE := Lib.hid hE
    clear hP hS hT hE HP2 HS1 HTL HE2
    by_cases hkn : k < n
    · have hd : decide ((k : Int) < (n : Int)) = true := decide_eq_true (by omega)
      obtain ⟨b, o, rfl, d0, d1, d2, Ai, ci, d3, hby⟩ := HF.out.at_ (i := k) (by have := HN.out; omega)
      have c0 := HE.out.cell d0
      have c1 := HE.out.cell d1
      have c2 := HE.out.cell d2
      have c3 := HE.out.cell d3
      obtain ⟨ok1, ok2, ok3⟩ := HOK.out k (by have := HN.out; omega)
      have HSTT : Hid (∀ q, (S q ∨ q = r) → w.heap.size ≤ q) := Lib.hid (fun q hq => hq.elim (HS.out q) (fun e => by rw [e]; exact HT.out r HP.out.2.1.2.2.1))
      have KD := do_law HP.out (fs.getD k ac0) Ai ci (fun W hW => hby.ext (hW.ext HE.out HSTT.out)) ok3 ok1 ok2 (by omega)
      unfold acC at KD
      have KD := Lib.hid KD
      rw [← HSU.out k hkn] at KD
      clear ok1 ok2 ok3 hby d0 d1 d2 d3
      generalize fs.getD k ac0 = s at *
      go_wp2_with fail
      refine KD.out.mono ?_
      rintro e w3 ⟨rfl, S', T', hP, hG1, hG2, hC⟩
      have HRES : Hid (∃ S T, Pr2 w3 S T g r (70 * (k + 1)) (actsN (fs.take (k + 1))) ∧ (∀ q, S q → w.heap.size ≤ q) ∧ (∀ q, T q → w.heap.size ≤ q) ∧ Ext w w3) := Lib.hid ⟨S', T', hP.mono (by omega), fun q hq => (hG1 q hq).elim (HS.out q) (fun h => Nat.le_trans HE.out.size h), fun q hq => (hG2 q hq).elim (HT.out q) (fun h => Nat.le_trans HE.out.size h), hC.ext HE.out HSTT.out⟩
      clear hP hG1 hG2 hC c0 c1 c2 c3
      go_wp2_with fail
      exact ⟨⟨k + 1, by omega, by go_num, HRES.out⟩, by simp [intOf]; omega⟩
    · obtain rfl : k = n := by omega
      have hd : decide ((k : Int) < (k : Int)) = false := decide_eq_false (by omega)
      rw [HSE.out] at HP
      go_wp2_with fail
      go_ret2
      exact ⟨S, T, g, r, rfl, HP.out, HS.out, HT.out, HE.out⟩

end Go.Proofs.Ytahooohokdbnpaa
