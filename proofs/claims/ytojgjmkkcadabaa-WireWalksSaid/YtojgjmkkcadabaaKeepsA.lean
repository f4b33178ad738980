/-
  Contract of law01.keeps.
-/
import Derived.Test.YtojgjmkkcadabaaFields
set_option linter.unusedVariables false
set_option linter.unusedSimpArgs false
namespace Go.Proofs.Ytojgjmkkcadabaa
open Go.RowKit Pl

def KeepsPost (w : World) (r : Nat) (p : Bool × Option (List UInt8)) (e : Ending) (w' : World) : Prop := e = .returned (.bool p.1) ∧ Rd w' r p.2 ∧ Upd w w' r

theorem load_slk {w : World} {p : Addr} {A : Option Addr} {n c : Nat} (h : w.cell? p = some (.slice A n c)) : (Instr.loadAt 23 (.pointer (some p))).run Try.prog w = .ok (.slice A n c) w := by
  simp [go_sem, h]

/-- reading leaves all as it is, draws but -/
def Same (w w' : World) : Prop := ∃ n, w' = w.drewN n
theorem same_pre : Pre Same := ⟨fun w => ⟨0, rfl⟩, fun ⟨n, h⟩ ⟨m, k⟩ => ⟨n + m, by rw [k, h, World.drewN_drewN]⟩⟩
theorem Same.ext {w w' : World} (h : Same w w') : Ext w w' := by obtain ⟨n, rfl⟩ := h; exact (Ext.refl w).drewN n

set_option maxHeartbeats 4000000 in
set_option maxRecDepth 100000 in
theorem keeps_any (A : Option Addr) (fs : List Fld) (c : Nat) (hc : fs.length ≤ c) (hc' : c ≤ 9223372036854775807) (r : Nat) (s : Option (List UInt8)) (w : World) (hR : Rd w r s) (hF : Flds w A fs) (hlen : ∀ i, i < fs.length → (fs.getD i fld0).b.length ≤ 9000) :
    Calls Try.prog 26 #[.pointer (some ⟨r, 0, none⟩), .slice A fs.length c] w (KeepsPost w r (keepN fs s)) := by
  generalize hn : fs.length = n at *
  have HN := Lib.hid hn
  have HF := Lib.hid hF
  have HR := Lib.hid hR
  have HL := Lib.hid hlen
  clear hn hF hR hlen
  go_enter Try.func26, Try.ntmps26
  go_wp2
  go_loopw [5, 6] (fun g i wr => ∃ (j : Nat), j ≤ n ∧ i = .int .i64 j ∧ g = .bool (keepN (fs.take j) s).1 ∧ Rd wr r (keepN (fs.take j) s).2 ∧ Flds wr A fs ∧ Upd w wr r) (fun _ i _ => n - (intOf i).toNat)
  case atStart => exact ⟨0, Nat.zero_le _, rfl, rfl, HR.out, HF.out, Upd.refl _ _⟩
  case round =>
    obtain ⟨j, hj, rfl, rfl, hRj, hFj, hUj⟩ := hrel
    by_cases hlt : j < n
    · have HT := Lib.hid (keepN_take fs s j (by rw [HN.out]; exact hlt))
      obtain ⟨b, o, rfl, c0, c1, Ai, ci, c2, hby, hci, hci'⟩ := hFj.at_ (i := j) (by rw [HN.out]; exact hlt)
      have hbl := HL.out j hlt
      generalize hf : fs.getD j fld0 = f at *
      generalize hp : keepN (fs.take j) s = p at *
      obtain ⟨g, st⟩ := p
      obtain ⟨fn, fz, fb⟩ := f
      dsimp only at *
      have HFj := Lib.hid hFj
      clear hf hp hFj
      by_cases hz : fz = 0
      · subst hz
        have HK : Hid (keep1 (g, st) ⟨fn, 0, fb⟩ = (g && ((blobs st).1 == fb) && !(brokenB (blobs st).2), (blobs st).2)) := by unfold keep1; rw [if_pos rfl]; rfl
        have HB := Lib.hid (rblob_any wr r st hRj)
        generalize hbs : blobs st = bs at *
        have HBS := Lib.hid hbs
        clear hbs
        have HBY := Lib.hid hby
        have HRj := Lib.hid hRj
        clear hby hRj
        go_wp2_with fail
        refine HB.out.mono ?_
        rintro e w1 ⟨A1, ca1, rfl, hb1, hc1, hR1, hU1⟩
        have hFw1 := HFj.out.upd HRj.out hU1
        have hne : b ≠ r := HFj.out.ne (by rw [HN.out]; omega) HRj.out
        have d1 := cell_upd c1 hne hU1
        have d2 := cell_upd c2 hne hU1
        have hby1 := HBY.out.rd HRj.out hU1
        have K1 := Lib.hid (fun W (h : Same w1 W) => failed_any W r bs.2 (hR1.ext h.ext))
        have S1 := Lib.hid (fun W (h : Same w1.drew W) => str_any (hb1.ext ((Ext.refl w1).drew.trans h.ext)) ca1)
        have S2 := Lib.hid (fun W (h : Same w1.drew W) => str_any (hby1.ext ((Ext.refl w1).drew.trans h.ext)) ci)
        have hUw := hUj.trans hU1
        have HFw1 := Lib.hid hFw1
        have HR1 := Lib.hid hR1
        clear c0 c1 c2 hb1 hby1 hR1 hFw1 hU1 hUj hc1 hci
        have HD1 : Hid (Rd w1.drew r bs.2) := HR1.out.drew
        have HD2 : Hid (Flds w1.drew (some ⟨b, o, none⟩) fs) := HFw1.out.drew
        cases g with
        | true =>
          cases hq : (bs.1 == fb) with
          | true =>
            have HK2 : Hid (keepN (fs.take (j + 1)) s = (!brokenB bs.2, bs.2)) := by rw [HT.out, HK.out, hq]; rfl
            go_wp2_with fail
            refine wp_eager same_pre (n := 13) (by kernel_rfl) (by kernel_rfl) ?_
            refine Eg.batchK same_pre (by intro c a d v w h; cases d <;> exact h) (by kernel_rfl) (n := 6) [0, 1, 2, 4, 5, 6, 7] [] _ (by kernel_rfl) (fun K hK => ?_); (simp only [pickOps, List.getElem?_toArray, List.getElem?_cons_zero, List.getElem?_cons_succ, Option.toList_some, List.cons_append, List.nil_append]); (repeat (first | go_big_quiet_step (fail) | quiet_step (fail))); refine wpQuiet_nil (hK _ ?_); clear hK K
            (refine Eg.read same_pre (by intro c a d v w h; cases d <;> exact h) (by kernel_rfl) (i := 3) (n := 5) (l := [0, 1, 2, 4, 5, 6, 7]) rfl (by kernel_rfl) (by kernel_rfl) rfl ⟨_, fun w' hR => convert_run rfl (S1.out w' hR), ?_⟩); (simp only [Act.put, List.setIfInBounds_toArray])
            (refine Eg.read same_pre (by intro c a d v w h; cases d <;> exact h) (by kernel_rfl) (i := 8) (n := 4) (l := [0, 1, 2, 4, 5, 6, 7, 3]) rfl (by kernel_rfl) (by kernel_rfl) rfl ⟨_, fun w' hR => load_run rfl (load_slk (((Ext.refl w1).drew.trans hR.ext).cell d2)), ?_⟩); (simp only [Act.put, List.setIfInBounds_toArray])
            (refine Eg.read same_pre (by intro c a d v w h; cases d <;> exact h) (by kernel_rfl) (i := 9) (n := 3) (l := [0, 1, 2, 4, 5, 6, 7, 3, 8]) rfl (by kernel_rfl) (by kernel_rfl) rfl ⟨_, fun w' hR => convert_run rfl (S2.out w' hR), ?_⟩); (simp only [Act.put, List.setIfInBounds_toArray])
            refine Eg.batchK same_pre (by intro c a d v w h; cases d <;> exact h) (by kernel_rfl) (n := 0) [10, 11, 12] [0, 1, 2, 4, 5, 6, 7, 3, 8, 9] _ (by kernel_rfl) (fun K hK => ?_); (simp only [pickOps, List.getElem?_toArray, List.getElem?_cons_zero, List.getElem?_cons_succ, Option.toList_some, List.cons_append, List.nil_append]); (repeat (first | go_big_quiet_step (fail) | quiet_step (fail))); refine wpQuiet_nil (hK _ ?_); clear hK K
            refine Eg.finish (by kernel_rfl) ?_
            go_wp2_with (go_at_call 28; refine (K1.out _ ⟨1, rfl⟩).mono ?_; rintro e w2 ⟨rfl, rfl⟩)
            refine ⟨⟨j + 1, by omega, by go_num, ?_, ?_, HD2.out, hUw.drew⟩, by simp [intOf]; omega⟩
            · rw [HK2.out]
            · rw [HK2.out]; exact HD1.out
          | false =>
            have HK2 : Hid (keepN (fs.take (j + 1)) s = (false, bs.2)) := by rw [HT.out, HK.out, hq]; rfl
            go_wp2_with fail
            refine wp_eager same_pre (n := 13) (by kernel_rfl) (by kernel_rfl) ?_
            refine Eg.batchK same_pre (by intro c a d v w h; cases d <;> exact h) (by kernel_rfl) (n := 6) [0, 1, 2, 4, 5, 6, 7] [] _ (by kernel_rfl) (fun K hK => ?_); (simp only [pickOps, List.getElem?_toArray, List.getElem?_cons_zero, List.getElem?_cons_succ, Option.toList_some, List.cons_append, List.nil_append]); (repeat (first | go_big_quiet_step (fail) | quiet_step (fail))); refine wpQuiet_nil (hK _ ?_); clear hK K
            (refine Eg.read same_pre (by intro c a d v w h; cases d <;> exact h) (by kernel_rfl) (i := 3) (n := 5) (l := [0, 1, 2, 4, 5, 6, 7]) rfl (by kernel_rfl) (by kernel_rfl) rfl ⟨_, fun w' hR => convert_run rfl (S1.out w' hR), ?_⟩); (simp only [Act.put, List.setIfInBounds_toArray])
            (refine Eg.read same_pre (by intro c a d v w h; cases d <;> exact h) (by kernel_rfl) (i := 8) (n := 4) (l := [0, 1, 2, 4, 5, 6, 7, 3]) rfl (by kernel_rfl) (by kernel_rfl) rfl ⟨_, fun w' hR => load_run rfl (load_slk (((Ext.refl w1).drew.trans hR.ext).cell d2)), ?_⟩); (simp only [Act.put, List.setIfInBounds_toArray])
            (refine Eg.read same_pre (by intro c a d v w h; cases d <;> exact h) (by kernel_rfl) (i := 9) (n := 3) (l := [0, 1, 2, 4, 5, 6, 7, 3, 8]) rfl (by kernel_rfl) (by kernel_rfl) rfl ⟨_, fun w' hR => convert_run rfl (S2.out w' hR), ?_⟩); (simp only [Act.put, List.setIfInBounds_toArray])
            refine Eg.batchK same_pre (by intro c a d v w h; cases d <;> exact h) (by kernel_rfl) (n := 0) [10, 11, 12] [0, 1, 2, 4, 5, 6, 7, 3, 8, 9] _ (by kernel_rfl) (fun K hK => ?_); (simp only [pickOps, List.getElem?_toArray, List.getElem?_cons_zero, List.getElem?_cons_succ, Option.toList_some, List.cons_append, List.nil_append]); (repeat (first | go_big_quiet_step (fail) | quiet_step (fail))); refine wpQuiet_nil (hK _ ?_); clear hK K
            refine Eg.finish (by kernel_rfl) ?_
            go_wp2_with fail
            refine ⟨⟨j + 1, by omega, by go_num, ?_, ?_, HD2.out, hUw.drew⟩, by simp [intOf]; omega⟩
            · rw [HK2.out]
            · rw [HK2.out]; exact HD1.out
        | false =>
          have HK2 : Hid (keepN (fs.take (j + 1)) s = (false, bs.2)) := by rw [HT.out, HK.out]; rfl
          go_wp2_with fail
          refine wp_eager same_pre (n := 13) (by kernel_rfl) (by kernel_rfl) ?_
          refine Eg.batchK same_pre (by intro c a d v w h; cases d <;> exact h) (by kernel_rfl) (n := 6) [0, 1, 2, 4, 5, 6, 7] [] _ (by kernel_rfl) (fun K hK => ?_); (simp only [pickOps, List.getElem?_toArray, List.getElem?_cons_zero, List.getElem?_cons_succ, Option.toList_some, List.cons_append, List.nil_append]); (repeat (first | go_big_quiet_step (fail) | quiet_step (fail))); refine wpQuiet_nil (hK _ ?_); clear hK K
          (refine Eg.skip same_pre (by intro c a d v w h; cases d <;> exact h) (by kernel_rfl) (i := 3) (n := 5) (l := [0, 1, 2, 4, 5, 6, 7]) rfl (by kernel_rfl) (by kernel_rfl) rfl ?_); (simp only [Act.put, List.setIfInBounds_toArray, List.getElem_toArray, List.getElem_cons_succ, List.getElem_cons_zero, List.set_cons_succ, List.set_cons_zero])
          (refine Eg.skip same_pre (by intro c a d v w h; cases d <;> exact h) (by kernel_rfl) (i := 8) (n := 4) (l := [0, 1, 2, 4, 5, 6, 7, 3]) rfl (by kernel_rfl) (by kernel_rfl) rfl ?_); (simp only [Act.put, List.setIfInBounds_toArray, List.getElem_toArray, List.getElem_cons_succ, List.getElem_cons_zero, List.set_cons_succ, List.set_cons_zero])
          (refine Eg.skip same_pre (by intro c a d v w h; cases d <;> exact h) (by kernel_rfl) (i := 9) (n := 3) (l := [0, 1, 2, 4, 5, 6, 7, 3, 8]) rfl (by kernel_rfl) (by kernel_rfl) rfl ?_); (simp only [Act.put, List.setIfInBounds_toArray, List.getElem_toArray, List.getElem_cons_succ, List.getElem_cons_zero, List.set_cons_succ, List.set_cons_zero])
          refine Eg.batchK same_pre (by intro c a d v w h; cases d <;> exact h) (by kernel_rfl) (n := 0) [10, 11, 12] [0, 1, 2, 4, 5, 6, 7, 3, 8, 9] _ (by kernel_rfl) (fun K hK => ?_); (simp only [pickOps, List.getElem?_toArray, List.getElem?_cons_zero, List.getElem?_cons_succ, Option.toList_some, List.cons_append, List.nil_append]); (repeat (first | go_big_quiet_step (fail) | quiet_step (fail))); refine wpQuiet_nil (hK _ ?_); clear hK K
          refine Eg.finish (by kernel_rfl) ?_
          go_wp2_with fail
          refine ⟨⟨j + 1, by omega, by go_num, ?_, ?_, HD2.out, hUw.drew⟩, by simp [intOf]; omega⟩
          · rw [HK2.out]
          · rw [HK2.out]; exact HD1.out
      · have HK : Hid (keep1 (g, st) ⟨fn, fz, fb⟩ = (g && ((nums st fz).1 == fn) && !(brokenB (nums st fz).2), (nums st fz).2)) := by unfold keep1; rw [if_neg hz]; rfl
        have HB := Lib.hid (number_any wr r st fz hRj)
        generalize hbs : nums st fz = bs at *
        have HBS := Lib.hid hbs
        clear hbs
        have HRj := Lib.hid hRj
        have hz1 : (fz != 0) = true := by simpa using hz
        clear hby hRj hz
        go_wp2_with fail
        refine HB.out.mono ?_
        rintro e w1 ⟨rfl, hR1, hU1⟩
        have hFw1 := HFj.out.upd HRj.out hU1
        have hne : b ≠ r := HFj.out.ne (by rw [HN.out]; omega) HRj.out
        have d0 := cell_upd c0 hne hU1
        have K1 := Lib.hid (failed_any w1 r bs.2 hR1)
        have hUw := hUj.trans hU1
        have HFw1 := Lib.hid hFw1
        have HR1 := Lib.hid hR1
        clear c0 c1 c2 hR1 hFw1 hU1 hUj hci
        cases g with
        | true =>
          cases hq : (bs.1 == fn) with
          | true =>
            have hq1 : ((bs.1 : Int) == (fn : Int)) = true := by rw [beq_iff_eq] at hq ⊢; omega
            have HK2 : Hid (keepN (fs.take (j + 1)) s = (!brokenB bs.2, bs.2)) := by rw [HT.out, HK.out, hq]; rfl
            clear hq
            go_wp2_with (go_at_call 28; refine K1.out.mono ?_; rintro e w2 ⟨rfl, rfl⟩)
            refine ⟨⟨j + 1, by omega, by go_num, ?_, ?_, HFw1.out, hUw⟩, by simp [intOf]; omega⟩
            · rw [HK2.out]
            · rw [HK2.out]; exact HR1.out
          | false =>
            have hq1 : ((bs.1 : Int) == (fn : Int)) = false := by
              simp at hq ⊢
              omega
            have HK2 : Hid (keepN (fs.take (j + 1)) s = (false, bs.2)) := by rw [HT.out, HK.out, hq]; rfl
            clear hq
            go_wp2_with fail
            refine ⟨⟨j + 1, by omega, by go_num, ?_, ?_, HFw1.out, hUw⟩, by simp [intOf]; omega⟩
            · rw [HK2.out]
            · rw [HK2.out]; exact HR1.out
        | false =>
          have HK2 : Hid (keepN (fs.take (j + 1)) s = (false, bs.2)) := by rw [HT.out, HK.out]; rfl
          go_wp2_with fail
          refine ⟨⟨j + 1, by omega, by go_num, ?_, ?_, HFw1.out, hUw⟩, by simp [intOf]; omega⟩
          · rw [HK2.out]
          · rw [HK2.out]; exact HR1.out
    · obtain rfl : j = n := by omega
      rw [List.take_of_length_le (by rw [HN.out]; omega)] at *
      go_wp2
      go_ret
      exact ⟨rfl, hRj, hUj⟩

end Go.Proofs.Ytojgjmkkcadabaa
