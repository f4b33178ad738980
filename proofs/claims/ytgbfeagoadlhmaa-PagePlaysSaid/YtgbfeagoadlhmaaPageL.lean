
/-
  Two pages, compared; plain facts on bytes laid over bytes.
-/
import Derived.Test.YtgbfeagoadlhmaaKnownF
import Derived.ChangeKeysEq
set_option linter.unusedVariables false
set_option linter.unusedSimpArgs false
namespace Go.Proofs.Ytgbfeagoadlhmaa
open Go.RowKit Pl

theorem at8_inj {P Q : List UInt8} {i j : Nat} : at8 P i = at8 Q j ↔ P.getD i 0 = Q.getD j 0 := by
  unfold at8
  constructor
  · intro h
    apply UInt8.toNat.inj
    omega
  · intro h; rw [h]
theorem ext_getD {P Q : List UInt8} (hl : P.length = Q.length) (h : ∀ k, k < P.length → P.getD k 0 = Q.getD k 0) : P = Q := by
  apply List.ext_getElem hl
  intro i h1 h2
  have := h i h1
  rw [List.getD_eq_getElem?_getD, List.getD_eq_getElem?_getD, List.getElem?_eq_getElem h1, List.getElem?_eq_getElem h2] at this
  simpa using this
theorem eq_pages {P Q : List UInt8} (hP : P.length = 1024) (hQ : Q.length = 1024) : ((List.range 1024).all fun i => P.getD i 0 == Q.getD i 0) = decide (P = Q) := by
  by_cases h : P = Q
  · subst h; simp
  · rw [decide_eq_false h, List.all_eq_false]
    refine Classical.byContradiction fun hc => h (ext_getD (by omega) fun k hk => ?_)
    refine Classical.byContradiction fun hne => hc ⟨k, by simp; omega, by simpa using hne⟩

theorem run_eqItems8 (w : World) (d : Nat) (P Q : List UInt8) : ∀ is : List Nat, (∀ i ∈ is, i < P.length ∧ i < Q.length) → (Op.eqItems (d + 1) 5 1 (cells8 P) (cells8 Q) is).run Try.prog w = .ok (is.all fun i => P.getD i 0 == Q.getD i 0) w
  | [], _ => by simp [Op.eqItems]
  | i :: is, h => by
    obtain ⟨h1, h2⟩ := h i (by simp)
    have ih := run_eqItems8 w d P Q is (fun j hj => h j (by simp [hj]))
    have p1 := run_part_plain (P := Try.prog) w (e := 5) (by kernel_rfl) (cells8_get P i h1)
    have p2 := run_part_plain (P := Try.prog) w (e := 5) (by kernel_rfl) (cells8_get Q i h2)
    simp only [Op.eqItems, Sem.run_bind, Nat.mul_one, p1, p2, Result.andThen_ok, run_equalIn_int w d 5 .u8 .u8 (at8 P i) (at8 Q i) Try.underlying5, List.all_cons]
    by_cases hq : P.getD i 0 = Q.getD i 0
    · rw [show (at8 P i == at8 Q i) = true by rw [beq_iff_eq]; exact at8_inj.2 hq, show (P.getD i 0 == Q.getD i 0) = true by rw [beq_iff_eq]; exact hq]
      simpa using ih
    · rw [show (at8 P i == at8 Q i) = false by rw [beq_eq_false_iff_ne]; exact fun e => hq (at8_inj.1 e), show (P.getD i 0 == Q.getD i 0) = false by rw [beq_eq_false_iff_ne]; exact hq]
      simp

/-- two pages, compared -/
theorem eql_pg {P Q : List UInt8} (hP : P.length = 1024) (hQ : Q.length = 1024) (w : World) : (Op.equalIn 10000 23 (.agg (cells8 P)) (.agg (cells8 Q))).run Try.prog w = .ok (decide (P = Q)) w := by
  obtain ⟨i0, hi, _⟩ := info_parts Try.info8
  rw [show (10000 : Nat) = 9999 + 1 from rfl, run_equalIn_array w 9999 (cells8 P) (cells8 Q) Try.pgUnd (show Try.prog.info? (Try.prog.elem 23) = some i0 by rw [show Try.prog.elem 23 = 5 by kernel_rfl]; exact hi)]
  rw [show Try.prog.elem 23 = 5 by kernel_rfl, show Try.prog.cellsOf 5 = 1 by kernel_rfl, Try.pgLen, show (9999 : Nat) = 9998 + 1 from rfl, run_eqItems8 w 9998 P Q (List.range 1024) (fun i hi => by simp at hi; omega), eq_pages hP hQ]

/-- p[a:], up to the page's end -/
theorem slice_any (g a : Nat) (h : a ≤ 1024) : ∃ Ad, (∀ w, (Instr.sliceAt 23 (.pointer (some ⟨g, 0, none⟩)) (some (.int .i64 (a : Int))) none none).run Try.prog w = .ok (.slice Ad (1024 - a) (1024 - a)) w) ∧ (a < 1024 → Ad = some ⟨g, a, none⟩) := by
  by_cases ha : a < 1024
  · exact ⟨_, fun w => slice_pgl g a ha w, fun _ => rfl⟩
  · obtain rfl : a = 1024 := by omega
    refine ⟨some ⟨g, 0, none⟩, fun w => ?_, fun h => by omega⟩
    rw [run_sliceAt_array_l w 23 ⟨g, 0, none⟩ Try.pgUnd .i64 ((1024 : Nat) : Int) (by omega) (by rw [Try.pgLen]; omega), Try.pgElem, Try.pgLen]
    simp [slicedAt]

/-- the first k bytes of Q, and behind them C's -/
def mix (k : Nat) (C Q : List UInt8) : List UInt8 := Q.take k ++ C.drop k
theorem mix_length {k : Nat} {C Q : List UInt8} (hC : C.length = 1024) (hQ : Q.length = 1024) (hk : k ≤ 1024) : (mix k C Q).length = 1024 := by
  simp [mix, hC, hQ]; omega
theorem mix_get {k : Nat} {C Q : List UInt8} (hC : C.length = 1024) (hQ : Q.length = 1024) (hk : k ≤ 1024) (i : Nat) : (mix k C Q).getD i 0 = if i < k then Q.getD i 0 else C.getD i 0 := by
  unfold mix
  simp only [List.getD_eq_getElem?_getD, List.getElem?_append, List.length_take, hQ]
  rw [Nat.min_eq_left hk]
  split
  · rw [List.getElem?_take_of_lt (by assumption)]
  · rw [List.getElem?_drop]; congr 2; omega
theorem mix_set {k : Nat} {C Q : List UInt8} (hC : C.length = 1024) (hQ : Q.length = 1024) (hk : k < 1024) : (mix k C Q).set k (Q.getD k 0) = mix (k + 1) C Q := by
  apply ext_getD
  · rw [List.length_set, mix_length hC hQ (by omega), mix_length hC hQ (by omega)]
  · intro i hi
    rw [List.length_set, mix_length hC hQ (by omega)] at hi
    rw [mix_get hC hQ (by omega), List.getD_eq_getElem?_getD, List.getElem?_set]
    by_cases hik : k = i
    · subst hik
      rw [if_pos rfl, if_pos (by rw [mix_length hC hQ (by omega)]; omega), if_pos (by omega)]
      rfl
    · rw [if_neg hik, ← List.getD_eq_getElem?_getD, mix_get hC hQ (by omega)]
      by_cases h2 : i < k
      · rw [if_pos h2, if_pos (by omega)]
      · rw [if_neg h2, if_neg (by omega)]
theorem mix_all {P Q : List UInt8} {f t : Nat} (hP : P.length = 1024) (hQ : Q.length = 1024) (h : Df P Q 12 f t) : mix 12 (over P f ((Q.drop f).take (t - f))) Q = Q := by
  have hft : f ≤ t ∧ t ≤ 1024 := by rcases h.1 with h1 | h1 <;> omega
  have hl : ((Q.drop f).take (t - f)).length = t - f := by simp [hQ]; omega
  have ho : (over P f ((Q.drop f).take (t - f))).length = 1024 := by rw [over_length _ _ _ (by rw [hl, hP]; omega), hP]
  apply ext_getD
  · rw [mix_length ho hQ (by omega), hQ]
  · intro i hi
    rw [mix_length ho hQ (by omega)] at hi
    rw [mix_get ho hQ (by omega)]
    split
    · rfl
    · rw [over_get _ _ _ (by rw [hl, hP]; omega), hl]
      split
      · rename_i h1
        rw [List.getD_eq_getElem?_getD, List.getElem?_take_of_lt (by omega), List.getElem?_drop, ← List.getD_eq_getElem?_getD]
        congr 1; omega
      · rename_i h1 h2
        exact at8_inj.1 (h.2 i (by omega) hi (by omega))

end Go.Proofs.Ytgbfeagoadlhmaa
