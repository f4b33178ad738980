/-
  The walk of WireBlobs.
-/
import Derived.Test.YtojgjmkkcadabaaRefBlob
import Derived.Test.YtojgjmkkcadabaaKnownA
set_option linter.unusedVariables false
set_option linter.unusedSimpArgs false
namespace Go.Proofs.Ytojgjmkkcadabaa
open Go.RowKit Pl

set_option maxHeartbeats 4000000 in
set_option maxRecDepth 100000 in
theorem blobs_long (A B : Option Addr) (n m c d : Nat) (h : 70000 < n ∨ (n ≤ 70000 ∧ 70000 < m)) (hn : n ≤ 9223372036854775807) (hm : m ≤ 9223372036854775807) (w : World) :
    Calls Try.prog 5 #[.slice A n c, .slice B m d] w fun e w' => e = .returned (.bool true) ∧ Ext w w' := by
  rcases h with h | ⟨h, h'⟩
  all_goals
    go_enter Try.func5, Try.ntmps5
    go_wp2_with (go_at_call 18; refine (known_any _).mono ?_; rintro e w' ⟨rfl, hE⟩)
    go_ret
    exact ⟨rfl, hE⟩

/-- what wire.Blob does, whatever the size -/
theorem blob_both (A : Option Addr) (l : List UInt8) (c : Nat) (hl : l.length ≤ 70000) (hlc : l.length ≤ c) (w : World) (hb : By w A l) :
    Calls Try.prog 22 #[.slice A l.length c] w fun e w' => ∃ A' n' c' x, e = .returned (.tuple #[.slice A' n' c', .int .i64 x]) ∧ Ext w w' ∧ n' ≤ c' ∧ c' ≤ 9223372036854775807 ∧ ((x = 0 ∧ l.length ≤ 65535 ∧ n' = l.length + 2 ∧ By w' A' (blob l)) ∨ (x = 3 ∧ 65535 < l.length ∧ n' = 0)) := by
  by_cases h : l.length ≤ 65535
  · refine (blob_yes A l c h hlc w hb).mono ?_
    rintro e w' ⟨v, rfl, hO, hE⟩
    obtain ⟨A', c', rfl, hby, h1, h2⟩ := hO.form
    rw [blob_length] at *
    exact ⟨A', _, c', 0, rfl, hE, h1, by unfold maxLen at h2; omega, .inl ⟨rfl, h, rfl, hby⟩⟩
  · refine (blob_no A l.length c (by omega) (by omega) w).mono ?_
    rintro e w' ⟨rfl, rfl⟩
    exact ⟨none, 0, 0, 3, rfl, Ext.refl _, by omega, by omega, .inr ⟨rfl, by omega, rfl⟩⟩

set_option maxHeartbeats 4000000 in
set_option maxRecDepth 100000 in
theorem blobs_over (A B : Option Addr) (a b : List UInt8) (c d : Nat) (hn : a.length ≤ 70000) (hm : b.length ≤ 70000) (hc : a.length ≤ c) (hd : b.length ≤ d) (h : 65535 < a.length) (w : World) (ha : By w A a) (hb : By w B b) :
    Calls Try.prog 5 #[.slice A a.length c, .slice B b.length d] w fun e w' => e = .returned (.bool true) ∧ Ext w w' := by
  have K1 := Lib.hid (blob_no A a.length c h (by omega) w)
  have K2 := Lib.hid (blob_both B b d hm hd w hb)
  clear ha hb
  generalize a.length = n at *
  generalize b.length = m at *
  go_enter Try.func5, Try.ntmps5
  go_wp2_with fail
  refine K1.out.mono ?_
  rintro e w1 ⟨rfl, rfl⟩
  go_wp2_with fail
  refine K2.out.mono ?_
  rintro e w2 ⟨A', n', c', x, rfl, hE, _, _, _⟩
  go_wp2_with (first | (go_at_call 17; refine (num_any _ _).mono ?_; rintro e w' ⟨rfl, rfl⟩) | (go_at_call 18; refine (known_any _).mono ?_; rintro e w3 ⟨rfl, hE3⟩))
  go_ret
  exact ⟨rfl, hE.trans hE3⟩

theorem blob_take (a b : List UInt8) (h : a.length ≤ 65535) (hb : b.length ≤ 65535) : ((blob b).take (a.length + 2) == blob a) = (a == b) := by
  rw [Bool.eq_iff_iff]
  simp only [beq_iff_eq]
  unfold blob
  rw [show a.length + 2 = (put b.length 2).length + a.length by rw [put_length]; omega, List.take_length_add_append]
  constructor
  · intro he
    obtain ⟨h1, h2⟩ := List.append_inj he (by rw [put_length, put_length])
    have h3 := congrArg num h1
    rw [num_put _ 2 (by show b.length < 65536; omega), num_put _ 2 (by show a.length < 65536; omega)] at h3
    rw [List.take_of_length_le (by omega)] at h2
    exact h2.symm
  · rintro rfl
    rw [List.take_of_length_le (Nat.le_refl _)]

theorem cut_two (A : Option Addr) (c : Nat) : cutA A c 2 = if c = 2 then A else Option.map (fun x => { block := x.block, off := x.off + 2 }) A := rfl

set_option maxHeartbeats 1000000 in
set_option maxRecDepth 100000 in
theorem blobs_in (A B : Option Addr) (a b : List UInt8) (c d : Nat) (hm : b.length ≤ 70000) (hc : a.length ≤ c) (hd : b.length ≤ d) (h : a.length ≤ 65535) (w : World) (ha : By w A a) (hb : By w B b) :
    Calls Try.prog 5 #[.slice A a.length c, .slice B b.length d] w fun e w' => e = .returned (.bool true) ∧ Ext w w' := by
  have K1 := Lib.hid (blob_yes A a c h hc w ha)
  have K2 := Lib.hid (fun W (hE : Ext w W) => blob_both B b d hm hd W (hb.ext hE))
  have SA := Lib.hid (fun W (hE : Ext w W) => str_any (ha.ext hE) c)
  have SB := Lib.hid (fun W (hE : Ext w W) => str_any (hb.ext hE) d)
  have KR := Lib.hid (fun W (hE : Ext w W) => refblob_any A a c h hc W (ha.ext hE))
  clear ha hb
  generalize hna : a.length = n at *
  generalize hnb : b.length = m at *
  have HNA := Lib.hid hna
  have HNB := Lib.hid hnb
  clear hna hnb
  go_enter Try.func5, Try.ntmps5
  go_wp2_with fail
  refine K1.out.mono ?_
  rintro e w1 ⟨v, rfl, hO, hE1⟩
  obtain ⟨A1, c1, rfl, hb1, hc1, hc1'⟩ := hO.form
  have HS1 := Lib.hid (fun W (hE : Ext w1 W) => str_any (hb1.ext hE) c1)
  have HD1 := Lib.hid (fun W (hE : Ext w1 W) => str_any ((hb1.drop (c := c1) (k := 2) (by rw [blob_length]; omega) hc1).ext hE) (c1 - 2))
  have HG1 := Lib.hid (fun W (hE : Ext w1 W) => rget_any A1 ((blob a).take 2) c1 (by rw [List.length_take]; omega) W ((hb1.take 2).ext hE))
  have HL1 : Hid ((blob a).length = n + 2) := by rw [blob_length, HNA.out]; rfl
  rw [HL1.out] at hc1
  rw [HL1.out] at HS1
  rw [List.length_drop, HL1.out] at HD1
  have e1 : (blob a).drop 2 = a := by simp [blob, put_length]
  have e2 : (blob a).take 2 = put n 2 := by rw [← HNA.out]; simp [blob, put_length]
  rw [e1, Nat.add_sub_cancel, cut_two] at HD1
  rw [e2, put_length, num_put n 2 (by show n < 65536; omega)] at HG1
  rw [HL1.out]
  clear hO hb1 e1 e2
  go_wp2_with fail
  refine (K2.out _ hE1).mono ?_
  rintro e w2 ⟨A2, n2, c2, x, rfl, hE2, hc2, hc2', hx⟩
  have HX := Lib.hid hx
  clear hx
  have hc1m : c1 ≤ 9223372036854775807 := by unfold maxLen at hc1'; omega
  clear hc1'
  go_wp2_with fail
  have r1 : ((n : Int) + 2 != (n : Int) + 2) = false := by simp
  have hE12 : Ext w1 w2.drew := hE2.drew
  have hE02 : Ext w w2.drew := hE1.trans hE12
  refine wp_eager Ext.pre (n := 36) (by kernel_rfl) (by kernel_rfl) ?_
  refine Eg.batchK Ext.pre (by intro c a d v w h; cases d <;> exact h) (by kernel_rfl) (n := 35) [0] [] _ (by kernel_rfl) (fun K hK => ?_); (simp only [pickOps, List.getElem?_toArray, List.getElem?_cons_zero, List.getElem?_cons_succ, Option.toList_some, List.cons_append, List.nil_append]); (repeat (first | go_big_quiet_step (fail) | quiet_step (fail))); refine wpQuiet_nil (hK _ ?_); clear hK K
  refine Eg.act Ext.pre (i := 1) (n := 34) (l := [0]) rfl (by kernel_rfl) ?_
  go_wp2_with (go_at_call 17; refine (num_any _ _).mono ?_; rintro e w' ⟨rfl, rfl⟩)
  refine ⟨Ext.refl _, ?_⟩
  refine Eg.batchK Ext.pre (by intro c a d v w h; cases d <;> exact h) (by kernel_rfl) (n := 21) [2, 3, 4, 5, 6, 7, 8, 9, 10, 11, 12, 13, 15] [0, 1] _ (by kernel_rfl) (fun K hK => ?_); (simp only [pickOps, List.getElem?_toArray, List.getElem?_cons_zero, List.getElem?_cons_succ, Option.toList_some, List.cons_append, List.nil_append]); (repeat (first | go_big_quiet_step (fail) | quiet_step (fail))); refine wpQuiet_nil (hK _ ?_); clear hK K
  generalize (if c1 = 2 then A1 else Option.map (fun x => { block := x.block, off := x.off + 2 }) A1) = Ac at *
  (refine Eg.read Ext.pre (by intro c a d v w h; cases d <;> exact h) (by kernel_rfl) (i := 14) (n := 20) (l := [0, 1, 2, 3, 4, 5, 6, 7, 8, 9, 10, 11, 12, 13, 15]) rfl (by kernel_rfl) (by kernel_rfl) rfl ⟨_, fun w' hR => convert_run rfl (HD1.out w' (hE12.trans hR)), ?_⟩); (simp only [Act.put, List.setIfInBounds_toArray])
  (refine Eg.read Ext.pre (by intro c a d v w h; cases d <;> exact h) (by kernel_rfl) (i := 16) (n := 19) (l := [0, 1, 2, 3, 4, 5, 6, 7, 8, 9, 10, 11, 12, 13, 15, 14]) rfl (by kernel_rfl) (by kernel_rfl) rfl ⟨_, fun w' hR => convert_run rfl (SA.out w' (hE02.trans hR)), ?_⟩); (simp only [Act.put, List.setIfInBounds_toArray])
  refine Eg.batchK Ext.pre (by intro c a d v w h; cases d <;> exact h) (by kernel_rfl) (n := 11) [17, 18, 19, 20, 21, 23, 24, 25] [0, 1, 2, 3, 4, 5, 6, 7, 8, 9, 10, 11, 12, 13, 15, 14, 16] _ (by kernel_rfl) (fun K hK => ?_); (simp only [pickOps, List.getElem?_toArray, List.getElem?_cons_zero, List.getElem?_cons_succ, Option.toList_some, List.cons_append, List.nil_append]); (repeat (first | go_big_quiet_step (fail) | quiet_step (fail))); refine wpQuiet_nil (hK _ ?_); clear hK K
  refine Eg.act Ext.pre (i := 22) (n := 10) (l := [0, 1, 2, 3, 4, 5, 6, 7, 8, 9, 10, 11, 12, 13, 15, 14, 16, 17, 18, 19, 20, 21, 23, 24, 25]) rfl (by kernel_rfl) ?_
  go_wp2_with fail
  refine (HG1.out _ hE12).mono ?_
  rintro e w3 ⟨rfl, hE3⟩
  go_wp2_with fail
  refine ⟨hE3, ?_⟩
  refine Eg.batchK Ext.pre (by intro c a d v w h; cases d <;> exact h) (by kernel_rfl) (n := 5) [26, 27, 28, 29, 31] [0, 1, 2, 3, 4, 5, 6, 7, 8, 9, 10, 11, 12, 13, 15, 14, 16, 17, 18, 19, 20, 21, 23, 24, 25, 22] _ (by kernel_rfl) (fun K hK => ?_); (simp only [pickOps, List.getElem?_toArray, List.getElem?_cons_zero, List.getElem?_cons_succ, Option.toList_some, List.cons_append, List.nil_append]); (repeat (first | go_big_quiet_step (fail) | quiet_step (fail))); refine wpQuiet_nil (hK _ ?_); clear hK K
  (refine Eg.read Ext.pre (by intro c a d v w h; cases d <;> exact h) (by kernel_rfl) (i := 30) (n := 4) (l := [0, 1, 2, 3, 4, 5, 6, 7, 8, 9, 10, 11, 12, 13, 15, 14, 16, 17, 18, 19, 20, 21, 23, 24, 25, 22, 26, 27, 28, 29, 31]) rfl (by kernel_rfl) (by kernel_rfl) rfl ⟨_, fun w' hR => convert_run rfl (HS1.out w' ((hE12.trans hE3).trans hR)), ?_⟩); (simp only [Act.put, List.setIfInBounds_toArray])
  refine Eg.act Ext.pre (i := 32) (n := 3) (l := [0, 1, 2, 3, 4, 5, 6, 7, 8, 9, 10, 11, 12, 13, 15, 14, 16, 17, 18, 19, 20, 21, 23, 24, 25, 22, 26, 27, 28, 29, 31, 30]) rfl (by kernel_rfl) ?_
  go_wp2_with fail
  refine (KR.out _ (hE02.trans hE3)).mono ?_
  rintro e w4 ⟨g4, rfl, hB4, hg4, hE4⟩
  go_wp2_with fail
  refine ⟨hE4, ?_⟩
  (have HS4 : Hid (∀ W, Ext w4 W → (convert 23 9 (.slice (some ⟨g4, 0, none⟩) (n + 2) (n + 2))).run Try.prog W = .ok (.string ⟨(blob a).toArray⟩) W) := fun W hE => by (have h := str_any ((By.of_blk hB4).ext hE) (n + 2)); rwa [HL1.out] at h)
  (refine Eg.read Ext.pre (by intro c a d v w h; cases d <;> exact h) (by kernel_rfl) (i := 33) (n := 2) (l := [0, 1, 2, 3, 4, 5, 6, 7, 8, 9, 10, 11, 12, 13, 15, 14, 16, 17, 18, 19, 20, 21, 23, 24, 25, 22, 26, 27, 28, 29, 31, 30, 32]) rfl (by kernel_rfl) (by kernel_rfl) rfl ⟨_, fun w' hR => convert_run rfl (HS4.out w' hR), ?_⟩); (simp only [Act.put, List.setIfInBounds_toArray])
  refine Eg.batchK Ext.pre (by intro c a d v w h; cases d <;> exact h) (by kernel_rfl) (n := 0) [34, 35] [0, 1, 2, 3, 4, 5, 6, 7, 8, 9, 10, 11, 12, 13, 15, 14, 16, 17, 18, 19, 20, 21, 23, 24, 25, 22, 26, 27, 28, 29, 31, 30, 32, 33] _ (by kernel_rfl) (fun K hK => ?_); (simp only [pickOps, List.getElem?_toArray, List.getElem?_cons_zero, List.getElem?_cons_succ, Option.toList_some, List.cons_append, List.nil_append]); (repeat (first | go_big_quiet_step (fail) | quiet_step (fail))); refine wpQuiet_nil (hK _ ?_); clear hK K
  refine Eg.finish (by kernel_rfl) ?_
  have hE14 : Ext w1 w4 := (hE12.trans hE3).trans hE4
  have hE04 : Ext w w4 := hE1.trans hE14
  have hE24 : Ext w2 w4 := ((Ext.refl w2).drew.trans hE3).trans hE4
  clear HD1 HG1 HS4 hB4 KR K1 K2 hE3 hE4 hg4 r1
  have hn2 : n2 ≤ 9223372036854775807 := by omega
  rcases HX.out with ⟨rfl, hm1, rfl, hb2⟩ | ⟨rfl, hm1, rfl⟩
  · by_cases hlt : m < n
    · clear HX hb2
      go_wp2_with (first | (go_at_call 17; refine (num_any _ _).mono ?_; rintro e w' ⟨rfl, rfl⟩) | (go_at_call 18; refine (known_any _).mono ?_; rintro e w5 ⟨rfl, hE5⟩))
      go_ret
      exact ⟨rfl, hE04.trans hE5⟩
    · have SY := Lib.hid (fun W (hE : Ext w4 W) => str_any (((hb2.take (n + 2)).ext hE24).ext hE) c2)
      rw [List.length_take, blob_length, HNB.out, Nat.min_eq_left (by omega)] at SY
      have q : ((blob b).take (n + 2) == blob a) = (a == b) := by rw [← HNA.out]; exact blob_take a b (by rw [HNA.out]; omega) (by rw [HNB.out]; omega)
      have Q := Lib.hid q
      clear HX hb2 q
      have hn2c : n + 2 ≤ c2 := by omega
      go_wp2_with (first | (go_at_call 17; refine (num_any _ _).mono ?_; rintro e w' ⟨rfl, rfl⟩))
      have q := Q.out
      have q2 : ((a == b) == (a == b)) = true := by simp
      refine wp_eager Ext.pre (n := 18) (by kernel_rfl) (by kernel_rfl) ?_
      refine Eg.batchK Ext.pre (by intro c a d v w h; cases d <;> exact h) (by kernel_rfl) (n := 11) [0, 1, 2, 3, 5, 8, 10] [] _ (by kernel_rfl) (fun K hK => ?_); (simp only [pickOps, List.getElem?_toArray, List.getElem?_cons_zero, List.getElem?_cons_succ, Option.toList_some, List.cons_append, List.nil_append]); (repeat (first | go_big_quiet_step (fail) | quiet_step (fail))); refine wpQuiet_nil (hK _ ?_); clear hK K
      (refine Eg.read Ext.pre (by intro c a d v w h; cases d <;> exact h) (by kernel_rfl) (i := 4) (n := 10) (l := [0, 1, 2, 3, 5, 8, 10]) rfl (by kernel_rfl) (by kernel_rfl) rfl ⟨_, fun w' hR => convert_run rfl (SY.out w' ((Ext.refl w4).drew.trans hR)), ?_⟩); (simp only [Act.put, List.setIfInBounds_toArray])
      (refine Eg.read Ext.pre (by intro c a d v w h; cases d <;> exact h) (by kernel_rfl) (i := 6) (n := 9) (l := [0, 1, 2, 3, 5, 8, 10, 4]) rfl (by kernel_rfl) (by kernel_rfl) rfl ⟨_, fun w' hR => convert_run rfl (HS1.out w' ((hE14.drew).trans hR)), ?_⟩); (simp only [Act.put, List.setIfInBounds_toArray])
      refine Eg.batchK Ext.pre (by intro c a d v w h; cases d <;> exact h) (by kernel_rfl) (n := 8) [7] [0, 1, 2, 3, 5, 8, 10, 4, 6] _ (by kernel_rfl) (fun K hK => ?_); (simp only [pickOps, List.getElem?_toArray, List.getElem?_cons_zero, List.getElem?_cons_succ, Option.toList_some, List.cons_append, List.nil_append]); (repeat (first | go_big_quiet_step (fail) | quiet_step (fail))); refine wpQuiet_nil (hK _ ?_); clear hK K
      (refine Eg.read Ext.pre (by intro c a d v w h; cases d <;> exact h) (by kernel_rfl) (i := 9) (n := 7) (l := [0, 1, 2, 3, 5, 8, 10, 4, 6, 7]) rfl (by kernel_rfl) (by kernel_rfl) rfl ⟨_, fun w' hR => convert_run rfl (SA.out w' ((hE04.drew).trans hR)), ?_⟩); (simp only [Act.put, List.setIfInBounds_toArray])
      (refine Eg.read Ext.pre (by intro c a d v w h; cases d <;> exact h) (by kernel_rfl) (i := 11) (n := 6) (l := [0, 1, 2, 3, 5, 8, 10, 4, 6, 7, 9]) rfl (by kernel_rfl) (by kernel_rfl) rfl ⟨_, fun w' hR => convert_run rfl (SB.out w' ((hE04.drew).trans hR)), ?_⟩); (simp only [Act.put, List.setIfInBounds_toArray])
      refine Eg.batchK Ext.pre (by intro c a d v w h; cases d <;> exact h) (by kernel_rfl) (n := 3) [12, 13, 14] [0, 1, 2, 3, 5, 8, 10, 4, 6, 7, 9, 11] _ (by kernel_rfl) (fun K hK => ?_); (simp only [pickOps, List.getElem?_toArray, List.getElem?_cons_zero, List.getElem?_cons_succ, Option.toList_some, List.cons_append, List.nil_append]); (repeat (first | go_big_quiet_step (fail) | quiet_step (fail))); refine wpQuiet_nil (hK _ ?_); clear hK K
      refine Eg.act Ext.pre (i := 15) (n := 2) (l := [0, 1, 2, 3, 5, 8, 10, 4, 6, 7, 9, 11, 12, 13, 14]) rfl (by kernel_rfl) ?_
      go_wp2_with (go_at_call 18; refine (known_any _).mono ?_; rintro e w5 ⟨rfl, hE5⟩)
      refine ⟨hE5, ?_⟩
      refine Eg.batchK Ext.pre (by intro c a d v w h; cases d <;> exact h) (by kernel_rfl) (n := 0) [16, 17] [0, 1, 2, 3, 5, 8, 10, 4, 6, 7, 9, 11, 12, 13, 14, 15] _ (by kernel_rfl) (fun K hK => ?_); (simp only [pickOps, List.getElem?_toArray, List.getElem?_cons_zero, List.getElem?_cons_succ, Option.toList_some, List.cons_append, List.nil_append]); (repeat (first | go_big_quiet_step (fail) | quiet_step (fail))); refine wpQuiet_nil (hK _ ?_); clear hK K
      refine Eg.finish (by kernel_rfl) ?_
      go_wp2
      go_ret
      exact ⟨rfl, (hE04.drew).trans hE5⟩
  · clear HX
    go_wp2_with (first | (go_at_call 17; refine (num_any _ _).mono ?_; rintro e w' ⟨rfl, rfl⟩) | (go_at_call 18; refine (known_any _).mono ?_; rintro e w5 ⟨rfl, hE5⟩))
    go_ret
    exact ⟨rfl, hE04.trans hE5⟩

theorem blobs_any {w : World} (A B : Option Addr) (a b : List UInt8) (c d : Nat) (ha : By w A a) (hb : By w B b) (hc : a.length ≤ c) (hd : b.length ≤ d) (hc' : c ≤ 9223372036854775807) (hd' : d ≤ 9223372036854775807) :
    Calls Try.prog 5 #[.slice A a.length c, .slice B b.length d] w fun e w' => e = .returned (.bool true) ∧ Ext w w' := by
  by_cases h1 : 70000 < a.length
  · exact blobs_long A B _ _ c d (.inl h1) (by omega) (by omega) w
  by_cases h2 : 70000 < b.length
  · exact blobs_long A B _ _ c d (.inr ⟨by omega, h2⟩) (by omega) (by omega) w
  by_cases h3 : 65535 < a.length
  · exact blobs_over A B a b c d (by omega) (by omega) hc hd h3 w ha hb
  · exact blobs_in A B a b c d (by omega) hc hd (by omega) w ha hb

end Go.Proofs.Ytojgjmkkcadabaa
