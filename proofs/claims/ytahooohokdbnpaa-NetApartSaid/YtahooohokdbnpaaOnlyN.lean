
/-
  Contract of law04.only.
-/
import Derived.Test.YtahooohokdbnpaaFlx
import Derived.Test.YtahooohokdbnpaaApartP
set_option linter.unusedVariables false
set_option linter.unusedSimpArgs false
namespace Go.Proofs.Ytahooohokdbnpaa
open Go.RowKit Go.Shelf Go.Maps Pl

attribute [local go_sem] Oper.semAt_some

set_option maxHeartbeats 4000000 in
set_option maxRecDepth 100000 in
theorem only_any (w : World) (A : Option Addr) (fs : List Fl) (n c : Nat) (x y : Int) (o : Bool) (hn : n = fs.length) (hF : FlX w A fs) (hl : n ≤ 100000) :
    Calls Try.prog 23 #[.slice A n c, .int .i64 x, .int .i64 y, .bool o] w fun e w' => ∃ A' c', e = .returned (.slice A' (onlyN fs x y o).length c') ∧ FlX w' A' (onlyN fs x y o) ∧ Ext w w' := by
  have HF := Lib.hid hF
  have HN := Lib.hid hn
  have HSU : Hid (∀ k, k < n → onlyN (fs.take (k + 1)) x y o = if onlyB x y o (fs.getD k fl0) then onlyN (fs.take k) x y o ++ [fs.getD k fl0] else onlyN (fs.take k) x y o) := Lib.hid (fun k hk => onlyN_snoc fs x y o (by rw [← hn]; exact hk))
  have HO0 : Hid (onlyN (fs.take 0) x y o = []) := Lib.hid rfl
  have HOL : Hid (∀ k, k ≤ n → (onlyN (fs.take k) x y o).length ≤ k) := Lib.hid (fun k _ => Nat.le_trans (onlyN_le _ _ _ _) (by rw [List.length_take]; exact Nat.min_le_left _ _))
  have HOE : Hid (onlyN (fs.take n) x y o = onlyN fs x y o) := Lib.hid (by rw [hn, List.take_length])
  have HOB : Hid (∀ f, onlyB x y o f = ((decide ((f.from_ : Int) = x) && decide ((f.to_ : Int) = y)) != o)) := Lib.hid (fun f => rfl)
  obtain ⟨i0, hi, hz0, hz1, hz2⟩ := info_parts Try.infoFl
  clear hF hn
  rw [← HOE.out]
  obtain ⟨on, hon⟩ : ∃ on : Nat → List Fl, on = fun k => onlyN (fs.take k) x y o := ⟨_, rfl⟩
  have HON : Hid (∀ k, onlyN (fs.take k) x y o = on k) := Lib.hid (fun k => by rw [hon])
  simp only [HON.out] at HSU HO0 HOL ⊢
  clear hon HON HOE
  go_enter Try.func23, Try.ntmps23
  go_wp2_with fail
  go_loopw [9, 10] (fun v i wr => ∃ k : Nat, k ≤ n ∧ i = .int .i64 (k : Int) ∧ FlRow w wr w.heap.size v (on k) ∧ Ext w wr) (fun _ i _ => n - (intOf i).toNat)
  case atStart => exact ⟨0, Nat.zero_le _, rfl, by rw [HO0.out]; exact ⟨[], World.ownsRow_nil _ _ _ _, FlCells.nil w⟩, Ext.refl w⟩
  case round =>
    obtain ⟨k, hk, rfl, hV, hE⟩ := hrel
    have HV := Lib.hid hV
    have HE := Lib.hid hE
    clear hV hE
    by_cases hkn : k < n
    · have hd : decide ((k : Int) < (n : Int)) = true := decide_eq_true (by omega)
      obtain ⟨gr, o1, Ab, cb, rfl, d0, d1, d2, hbs⟩ := HF.out.at_ (i := k) (by have := HN.out; omega)
      have c0 := HE.out.cell d0
      have c1 := HE.out.cell d1
      have c2 := HE.out.cell d2
      have HSK := HSU.out k hkn
      rw [HOB.out] at HSK
      have hxl := HOL.out k hk
      obtain ⟨cs, hrow, hcells⟩ := HV.out
      have HSN := Lib.hid (hcells.snoc (fs.getD k fl0) hbs)
      obtain ⟨xl, hxe⟩ : ∃ xl, (on k).length = xl := ⟨_, rfl⟩
      have HXE := Lib.hid hxe
      rw [hxe] at hrow hxl
      generalize hfk : fs.getD k fl0 = fk at *
      clear d0 d1 d2 hbs hcells hxe hfk
      obtain ⟨fa, ft, fb⟩ := fk
      simp only at *
      generalize fb.length = bl at *
      have HLT := Lib.hid (World.ownsRow.lt hrow)
      have hE3 := ext_new wr (.cells #[.int .i64 (fa : Int), .int .i64 (ft : Int), .slice Ab bl cb] 45)
      have HE3 := Lib.hid (HE.out.trans hE3)
      have HOW := Lib.hid (World.ownsRow.alloc hrow (.cells #[.int .i64 (fa : Int), .int .i64 (ft : Int), .slice Ab bl cb] 45))
      have HNW := Lib.hid (blk_news3 (Blk.new wr 45 #[.int .i64 (fa : Int), .int .i64 (ft : Int), .slice Ab bl cb]))
      clear hrow hE3
      by_cases q1 : (fa : Int) = x
      · have e1 : ((fa : Int) == x) = true := by rw [beq_iff_eq]; exact q1
        rw [decide_eq_true q1] at HSK
        clear q1
        by_cases q2 : (ft : Int) = y
        · have e2 : ((ft : Int) == y) = true := by rw [beq_iff_eq]; exact q2
          rw [decide_eq_true q2] at HSK
          clear q2
          cases o with
          | true =>
            have HSK := Lib.hid (show on (k + 1) = on k from by rw [HSK]; rfl)
            clear HSN HE3 HOW HNW HLT HXE
            go_wp2_with fail
            exact ⟨⟨k + 1, by omega, by go_num, by rw [HSK.out]; exact HV.out, HE.out⟩, by simp [intOf]; omega⟩
          | false =>
            have HSK := Lib.hid (show on (k + 1) = on k ++ [⟨fa, ft, fb⟩] from by rw [HSK]; rfl)
            go_wp2_with (at_builtin; refine wpList_append_own_at _ rfl _ _ _ rfl w.heap.size 45 i0 (.agg #[.int .i64 0, .int .i64 0, .slice none 0 0]) 3 40 Try.underlying41 hi hz0 hz1 hz2 rfl (by omega) _ xl cs rfl HOW.out ⟨wr.heap.size, 0, none⟩ 1 1 [.int .i64 (fa : Int), .int .i64 (ft : Int), .slice Ab bl cb] rfl rfl HNW.out (by intro u hu; simp at hu; rcases hu with rfl | rfl | rfl <;> rfl) (by unfold maxLen; omega) (by omega) (by have := HE3.out.size; omega) ?_; intro v4 w4 hown4 hG4 hnil4 hat4; have HOW4 := Lib.hid hown4; have HG4 := Lib.hid hG4; clear hown4 hG4 hnil4 hat4)
            exact ⟨⟨k + 1, by omega, by go_num, by rw [HSK.out]; exact ⟨_, by rw [List.length_append, HXE.out]; exact HOW4.out, HSN.out⟩, HE3.out.grown HG4.out (fun k e => (HLT.out k e).1)⟩, by simp [intOf]; omega⟩
        · have e2 : ((ft : Int) == y) = false := by rw [beq_eq_false_iff_ne]; exact q2
          rw [decide_eq_false q2] at HSK
          clear q2
          cases o with
          | true =>
            have HSK := Lib.hid (show on (k + 1) = on k ++ [⟨fa, ft, fb⟩] from by rw [HSK]; rfl)
            go_wp2_with (at_builtin; refine wpList_append_own_at _ rfl _ _ _ rfl w.heap.size 45 i0 (.agg #[.int .i64 0, .int .i64 0, .slice none 0 0]) 3 40 Try.underlying41 hi hz0 hz1 hz2 rfl (by omega) _ xl cs rfl HOW.out ⟨wr.heap.size, 0, none⟩ 1 1 [.int .i64 (fa : Int), .int .i64 (ft : Int), .slice Ab bl cb] rfl rfl HNW.out (by intro u hu; simp at hu; rcases hu with rfl | rfl | rfl <;> rfl) (by unfold maxLen; omega) (by omega) (by have := HE3.out.size; omega) ?_; intro v4 w4 hown4 hG4 hnil4 hat4; have HOW4 := Lib.hid hown4; have HG4 := Lib.hid hG4; clear hown4 hG4 hnil4 hat4)
            exact ⟨⟨k + 1, by omega, by go_num, by rw [HSK.out]; exact ⟨_, by rw [List.length_append, HXE.out]; exact HOW4.out, HSN.out⟩, HE3.out.grown HG4.out (fun k e => (HLT.out k e).1)⟩, by simp [intOf]; omega⟩
          | false =>
            have HSK := Lib.hid (show on (k + 1) = on k from by rw [HSK]; rfl)
            clear HSN HE3 HOW HNW HLT HXE
            go_wp2_with fail
            exact ⟨⟨k + 1, by omega, by go_num, by rw [HSK.out]; exact HV.out, HE.out⟩, by simp [intOf]; omega⟩
      · have e1 : ((fa : Int) == x) = false := by rw [beq_eq_false_iff_ne]; exact q1
        rw [decide_eq_false q1, Bool.false_and] at HSK
        clear q1
        cases o with
        | true =>
          have HSK := Lib.hid (show on (k + 1) = on k ++ [⟨fa, ft, fb⟩] from by rw [HSK]; rfl)
          go_wp2_with (at_builtin; refine wpList_append_own_at _ rfl _ _ _ rfl w.heap.size 45 i0 (.agg #[.int .i64 0, .int .i64 0, .slice none 0 0]) 3 40 Try.underlying41 hi hz0 hz1 hz2 rfl (by omega) _ xl cs rfl HOW.out ⟨wr.heap.size, 0, none⟩ 1 1 [.int .i64 (fa : Int), .int .i64 (ft : Int), .slice Ab bl cb] rfl rfl HNW.out (by intro u hu; simp at hu; rcases hu with rfl | rfl | rfl <;> rfl) (by unfold maxLen; omega) (by omega) (by have := HE3.out.size; omega) ?_; intro v4 w4 hown4 hG4 hnil4 hat4; have HOW4 := Lib.hid hown4; have HG4 := Lib.hid hG4; clear hown4 hG4 hnil4 hat4)
          exact ⟨⟨k + 1, by omega, by go_num, by rw [HSK.out]; exact ⟨_, by rw [List.length_append, HXE.out]; exact HOW4.out, HSN.out⟩, HE3.out.grown HG4.out (fun k e => (HLT.out k e).1)⟩, by simp [intOf]; omega⟩
        | false =>
          have HSK := Lib.hid (show on (k + 1) = on k from by rw [HSK]; rfl)
          clear HSN HE3 HOW HNW HLT HXE
          go_wp2_with fail
          exact ⟨⟨k + 1, by omega, by go_num, by rw [HSK.out]; exact HV.out, HE.out⟩, by simp [intOf]; omega⟩
    · obtain rfl : k = n := by omega
      have hd : decide ((k : Int) < (k : Int)) = false := decide_eq_false (by omega)
      obtain ⟨A', c', rfl, hx⟩ := HV.out.x HE.out
      have HX := Lib.hid hx
      clear hx HV
      go_wp2_with fail
      go_ret
      exact ⟨A', c', rfl, HX.out, HE.out⟩

end Go.Proofs.Ytahooohokdbnpaa
