
/-
  Contracts of page.set, point, finder and its closure.
-/
import Derived.Test.YtgbfeagoadlhmaaPageA
set_option linter.unusedVariables false
set_option linter.unusedSimpArgs false
namespace Go.Proofs.Ytgbfeagoadlhmaa
open Go.RowKit Pl

/-- a page with a number in two bytes at a place -/
def set2 (P : List UInt8) (a n : Nat) : List UInt8 := over P a (put n 2)
theorem set2_length (P : List UInt8) (a n : Nat) (h : P.length = 1024) (ha : a + 2 ≤ 1024) : (set2 P a n).length = 1024 := by
  unfold set2; rw [over_length _ _ _ (by rw [put_length]; omega), h]

theorem ext_grown {w w' : World} (h : Ext w w') (r : Option Nat) : w.grownBy w' r := ⟨Below.os h, Below.tape h, Below.output h, h.size, fun k hk _ => h.block hk⟩

set_option maxHeartbeats 1600000 in
set_option maxRecDepth 100000 in
theorem set_pg (w : World) (g : Nat) (P : List UInt8) (a n : Nat) (ha : a + 2 ≤ 1024) (hn : n < 65536) (h : Pg w g P) :
    Calls Try.prog 44 #[.pointer (some ⟨g, 0, none⟩), .int .i64 (a : Int), .int .i64 (n : Int)] w fun e w' => (∃ v, e = .returned v) ∧ Pg w' g (set2 P a n) ∧ w.grownBy w' (some g) := by
  have K := Lib.hid (put_yes n 2 (by show n < 65536; exact hn) (by omega) (by omega) w)
  have hsl := fun w => slice_pg g a (a + 2) (by omega) ha (by omega) w
  rw [show ((a + 2 : Nat) : Int) = (a : Int) + 2 by omega, show a + 2 - a = 2 by omega] at hsl
  have HP := Lib.hid h
  clear h
  go_enter Try.func44, Try.ntmps44
  go_wp2_with fail
  refine K.out.mono ?_
  rintro e w1 ⟨g1, rfl, hB1, hg1, hE1⟩
  have HP1 := Lib.hid (HP.out.ext hE1)
  have HBY := Lib.hid (By.of_blk hB1)
  have HML : Hid ((put n 2).length = min 2 2) := Lib.hid (by rw [put_length]; rfl)
  clear hB1
  go_wp2_with (with_reducible refine wpList_copy8g Try.byt rfl _ _ rfl HP1.out.blk HBY.out a 2 (1024 - a) 2 2 HML.out _ rfl rfl ?c5 ?c6 ?_)
  case c5 => rw [put_length, HP1.out.len]; exact ha
  intro w2 hB2 hU2
  have HPo := Lib.hid (HP1.out.over hB2 (by rw [put_length]; exact ha))
  have hG : w.grownBy w2 (some g) := (ext_grown hE1 _).trans hU2.grown
  go_wp2_with fail
  go_end0
  exact ⟨⟨_, rfl⟩, HPo.out, hG⟩

/-- a page with a slot that points to so many bytes at a place -/
def point2 (P : List UInt8) (n a s : Nat) : List UInt8 := set2 (set2 P (18 + 4 * n) a) (18 + 4 * n + 2) s

set_option maxHeartbeats 1600000 in
set_option maxRecDepth 100000 in
theorem point_pg (w : World) (g : Nat) (P : List UInt8) (n a s : Nat) (hn : 18 + 4 * n + 4 ≤ 1024) (ha : a < 65536) (hs : s < 65536) (h : Pg w g P) :
    Calls Try.prog 43 #[.pointer (some ⟨g, 0, none⟩), .int .i64 (n : Int), .int .i64 (a : Int), .int .i64 (s : Int)] w fun e w' => (∃ v, e = .returned v) ∧ Pg w' g (point2 P n a s) ∧ w.grownBy w' (some g) := by
  have K := Lib.hid (set_pg w g P (18 + 4 * n) a (by omega) ha h)
  clear h
  rw [show ((18 + 4 * n : Nat) : Int) = 18 + 4 * (n : Int) by omega] at K
  go_enter Try.func43, Try.ntmps43
  go_wp2_with fail
  refine K.out.mono ?_
  rintro e w1 ⟨⟨v1, rfl⟩, hP1, hG1⟩
  have K2 := Lib.hid (set_pg w1 g _ (18 + 4 * n + 2) s (by omega) hs hP1)
  rw [show ((18 + 4 * n + 2 : Nat) : Int) = 18 + 4 * (n : Int) + 2 by omega] at K2
  clear hP1 K
  go_wp2_with fail
  refine K2.out.mono ?_
  rintro e w2 ⟨⟨v2, rfl⟩, hP2, hG2⟩
  go_wp2_with fail
  go_end0
  exact ⟨⟨_, rfl⟩, hP2, hG1.trans hG2⟩

/-- the value of a closure of page.finder: its cell c points to the page's block g -/
abbrev findV (c : Nat) : Value := .func (.func 77) #[] #[.pointer (some ⟨c, 0, none⟩)]

set_option maxHeartbeats 1600000 in
theorem finder_pg (w : World) (g : Nat) : Calls Try.prog 47 #[.pointer (some ⟨g, 0, none⟩)] w fun e w' => ∃ c, e = .returned (findV c) ∧ Blk w' c 77 #[.pointer (some ⟨g, 0, none⟩)] ∧ w.heap.size ≤ c ∧ Ext w w' := by
  go_enter Try.func47, Try.ntmps47
  go_wp2_with fail
  go_ret
  exact ⟨w.heap.size, rfl, Blk.new _ _ _, Nat.le_refl _, (Ext.refl w).alloc _⟩

theorem load_pp {w : World} {p : Addr} {a : Option Addr} (h : w.cell? p = some (.pointer a)) : (Instr.loadAt 77 (.pointer (some p))).run Try.prog w = .ok (.pointer a) w := by
  simp [go_sem, h]
/-- a slot: where its item begins, how many bytes it has -/
def slotA (P : List UInt8) (n : Nat) : Nat := num2 P (18 + 4 * n)
def slotS (P : List UInt8) (n : Nat) : Nat := num2 P (18 + 4 * n + 2)
theorem slotA_lt (P : List UInt8) (n : Nat) : slotA P n < 65536 := num2_lt _ _
theorem slotS_lt (P : List UInt8) (n : Nat) : slotS P n < 65536 := num2_lt _ _

set_option maxHeartbeats 1600000 in
set_option maxRecDepth 100000 in
theorem where_pg (w : World) (g c : Nat) (P : List UInt8) (n : Nat) (hn : 18 + 4 * n + 4 ≤ 1024) (h : Pg w g P) (hB : Blk w c 77 #[.pointer (some ⟨g, 0, none⟩)]) :
    Calls Try.prog 77 #[.int .i64 (n : Int), .pointer (some ⟨c, 0, none⟩)] w fun e w' => e = .returned (.tuple #[.int .i64 (slotA P n : Int), .int .i64 (slotS P n : Int)]) ∧ w.drew = w' := by
  have K1 := Lib.hid (number_pg w.drew g P (18 + 4 * n) (by omega) ⟨h.blk.drew, h.len⟩)
  have K2 := Lib.hid (number_pg w.drew g P (18 + 4 * n + 2) (by omega) ⟨h.blk.drew, h.len⟩)
  rw [show num2 P (18 + 4 * n) = slotA P n from rfl, show ((18 + 4 * n : Nat) : Int) = 18 + 4 * (n : Int) by omega] at K1
  rw [show num2 P (18 + 4 * n + 2) = slotS P n from rfl, show ((18 + 4 * n + 2 : Nat) : Int) = 18 + 4 * (n : Int) + 2 by omega] at K2
  have hc : w.drew.cell? ⟨c, 0, none⟩ = some (.pointer (some ⟨g, 0, none⟩)) := by show w.cell? _ = _; rw [hB.cell]; rfl
  clear h hB
  go_enter Try.func77, Try.ntmps77
  go_wp2_with fail
  refine wp_eager Ext.pre (n := 9) (by kernel_rfl) (by kernel_rfl) ?_
  refine Eg.batchK Ext.pre (by intro c a d v w h; cases d <;> exact h) (by kernel_rfl) (n := 6) [1, 4, 5] [] _ (by kernel_rfl) (fun K hK => ?_); (simp only [pickOps, List.getElem?_toArray, List.getElem?_cons_zero, List.getElem?_cons_succ, Option.toList_some, List.cons_append, List.nil_append]); (repeat (first | go_big_quiet_step (fail) | quiet_step (fail))); refine wpQuiet_nil (hK _ ?_); clear hK K
  (refine Eg.read Ext.pre (by intro c a d v w h; cases d <;> exact h) (by kernel_rfl) (i := 0) (n := 5) (l := [1, 4, 5]) rfl (by kernel_rfl) (by kernel_rfl) rfl ⟨_, fun w' hR => load_run rfl (load_pp (hR.cell hc)), ?_⟩); (simp only [Act.put, List.setIfInBounds_toArray, List.getElem_toArray, List.getElem_cons_succ, List.getElem_cons_zero, List.set_cons_succ, List.set_cons_zero])
  (refine Eg.read Ext.pre (by intro c a d v w h; cases d <;> exact h) (by kernel_rfl) (i := 3) (n := 4) (l := [1, 4, 5, 0]) rfl (by kernel_rfl) (by kernel_rfl) rfl ⟨_, fun w' hR => load_run rfl (load_pp (hR.cell hc)), ?_⟩); (simp only [Act.put, List.setIfInBounds_toArray, List.getElem_toArray, List.getElem_cons_succ, List.getElem_cons_zero, List.set_cons_succ, List.set_cons_zero])
  refine Eg.act Ext.pre (i := 2) (n := 3) (l := [1, 4, 5, 0, 3]) rfl (by kernel_rfl) ?_
  go_wp2_with fail
  refine K1.out.mono ?_
  rintro e w' ⟨rfl, rfl⟩
  go_wp2_with fail
  refine ⟨Ext.refl _, ?_⟩
  refine Eg.act Ext.pre (i := 6) (n := 2) (l := [1, 4, 5, 0, 3, 2]) rfl (by kernel_rfl) ?_
  go_wp2_with fail
  refine K2.out.mono ?_
  rintro e w' ⟨rfl, rfl⟩
  go_wp2_with fail
  refine ⟨Ext.refl _, ?_⟩
  refine Eg.batchK Ext.pre (by intro c a d v w h; cases d <;> exact h) (by kernel_rfl) (n := 0) [7, 8] [1, 4, 5, 0, 3, 2, 6] _ (by kernel_rfl) (fun K hK => ?_); (simp only [pickOps, List.getElem?_toArray, List.getElem?_cons_zero, List.getElem?_cons_succ, Option.toList_some, List.cons_append, List.nil_append]); (repeat (first | go_big_quiet_step (fail) | quiet_step (fail))); refine wpQuiet_nil (hK _ ?_); clear hK K
  refine Eg.finish (by kernel_rfl) ?_
  go_wp2_with fail
  go_ret2
  exact ⟨rfl, rfl⟩

/-- the first empty slot of the first n, from j on; n: there is none -/
def emptyFrom (P : List UInt8) (n : Nat) : Nat → Nat → Nat
  | 0, j => n
  | f + 1, j => if j < n then (if slotS P j = 0 then j else emptyFrom P n f (j + 1)) else n
def emptyN (P : List UInt8) (n : Nat) : Nat := emptyFrom P n n 0
theorem emptyFrom_found (P : List UInt8) (n : Nat) : ∀ (f j k : Nat), (∀ i, j ≤ i → i < k → slotS P i ≠ 0) → j ≤ k → k < n → k < j + f → slotS P k = 0 → emptyFrom P n f j = k
  | 0, j, k, _, _, _, h3, _ => by omega
  | f + 1, j, k, h, h1, h2, h3, h4 => by
    unfold emptyFrom
    rw [if_pos (by omega)]
    by_cases hjk : j = k
    · subst hjk; rw [if_pos h4]
    · rw [if_neg (h j (Nat.le_refl _) (by omega))]
      exact emptyFrom_found P n f (j + 1) k (fun i hi => h i (by omega)) (by omega) h2 (by omega) h4
theorem emptyFrom_none (P : List UInt8) (n : Nat) : ∀ (f j : Nat), (∀ i, j ≤ i → i < n → slotS P i ≠ 0) → emptyFrom P n f j = n
  | 0, j, _ => rfl
  | f + 1, j, h => by
    unfold emptyFrom
    split
    · rw [if_neg (h j (Nat.le_refl _) (by assumption))]
      exact emptyFrom_none P n f (j + 1) (fun i hi => h i (by omega))
    · rfl
theorem emptyN_le (P : List UInt8) (n : Nat) : emptyN P n ≤ n := by
  have : ∀ f j, emptyFrom P n f j ≤ n := by
    intro f
    induction f with
    | zero => intro j; exact Nat.le_refl _
    | succ f ih => intro j; unfold emptyFrom; split; (split; omega; exact ih _); exact Nat.le_refl _
  exact this n 0

set_option maxHeartbeats 1600000 in
set_option maxRecDepth 100000 in
theorem empty_pg (w : World) (g : Nat) (P : List UInt8) (h : Pg w g P) (hs : 18 + 4 * num2 P 14 ≤ 1024) :
    Calls Try.prog 53 #[.pointer (some ⟨g, 0, none⟩)] w fun e w' => e = .returned (.int .i64 (emptyN P (num2 P 14) : Int)) ∧ Ext w w' := by
  have HP := Lib.hid h
  have KS := Lib.hid (fun W (h : Pg W g P) => slots_pg W g P h)
  clear h
  generalize num2 P 14 = n at *
  go_enter Try.func53, Try.ntmps53
  go_wp2_with fail
  refine (finder_pg w g).mono ?_
  rintro e w1 ⟨c, rfl, hB1, hc1, hE1⟩
  have hP1 := HP.out.ext hE1
  have K := Lib.hid (KS.out w1 hP1)
  go_wp2_with fail
  refine K.out.mono ?_
  rintro e w' ⟨rfl, rfl⟩
  go_wp2_with fail
  have HB1 := Lib.hid hB1
  have HP1 := Lib.hid hP1
  have HE1 := Lib.hid hE1
  clear hB1 hP1 hE1 K
  go_loopw [11] (fun i wr => ∃ j : Nat, j ≤ n ∧ i = .int .i64 j ∧ (∀ i, i < j → slotS P i ≠ 0) ∧ Blk wr c 77 #[.pointer (some ⟨g, 0, none⟩)] ∧ Pg wr g P ∧ Ext w wr) (fun i _ => n - (intOf i).toNat)
  case atStart => exact ⟨0, Nat.zero_le _, rfl, fun i hi => by omega, HB1.out, HP1.out, HE1.out⟩
  case round =>
    obtain ⟨j, hj, rfl, hno, hB, hP, hE⟩ := hrel
    have HNO := Lib.hid hno
    have HE := Lib.hid hE
    have HPr := Lib.hid hP
    have HBr := Lib.hid hB
    clear hno hE
    by_cases hlt : j < n
    · have hjd : decide ((j : Int) < (n : Int)) = true := by simp; omega
      have KW := Lib.hid (where_pg wr g c P j (by omega) hP hB)
      clear hP hB
      by_cases hz : slotS P j = 0
      · have HF : Hid (emptyN P n = j) := Lib.hid (emptyFrom_found P n n 0 j (fun i _ hi => HNO.out i hi) (by omega) hlt (by omega) hz)
        rw [hz] at KW
        clear hz
        go_wp2_with fail
        refine KW.out.mono ?_
        rintro e w' ⟨rfl, rfl⟩
        go_wp2_with fail
        go_ret
        exact ⟨by rw [HF.out]; rfl, HE.out.drew⟩
      · have HZ := Lib.hid hz
        have hzb : ((slotS P j : Int) == 0) = false := by rw [beq_eq_false_iff_ne]; omega
        have HNX : Hid (∀ i, i < j + 1 → slotS P i ≠ 0) := Lib.hid (fun i hi => by
          by_cases hij : i < j
          · exact HNO.out i hij
          · obtain rfl : i = j := by omega
            exact hz)
        generalize slotS P j = sj at *
        clear hz
        go_wp2_with fail
        refine KW.out.mono ?_
        rintro e w' ⟨rfl, rfl⟩
        go_wp2_with fail
        refine ⟨⟨j + 1, by omega, by go_num, HNX.out, HBr.out.drew, ⟨HPr.out.blk.drew, HPr.out.len⟩, HE.out.drew⟩, by simp [intOf]; omega⟩
    · obtain rfl : j = n := by omega
      have HF : Hid (emptyN P j = j) := Lib.hid (emptyFrom_none P j j 0 (fun i _ hi => HNO.out i hi))
      have K2 := Lib.hid (KS.out wr hP)
      clear hP hB
      go_wp2_with fail
      refine K2.out.mono ?_
      rintro e w' ⟨rfl, rfl⟩
      go_wp2_with fail
      go_ret
      exact ⟨by rw [HF.out]; rfl, HE.out⟩

end Go.Proofs.Ytgbfeagoadlhmaa
