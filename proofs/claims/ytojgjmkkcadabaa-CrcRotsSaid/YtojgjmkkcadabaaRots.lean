/-
  The walk of CrcRots.
-/
import Derived.Test.YtojgjmkkcadabaaFlip
import Derived.Test.YtojgjmkkcadabaaTwo
import Derived.Test.YtojgjmkkcadabaaCopyB
import Derived.Deep.DeepCutAuto
set_option linter.unusedVariables false
set_option linter.unusedSimpArgs false
namespace Go.Proofs.Ytojgjmkkcadabaa
open Go.RowKit Pl

theorem load_u8r {w : World} {p : Addr} {x : Int} (h : w.cell? p = some (.int .u8 x)) : (Instr.loadAt 5 (.pointer (some p))).run Try.prog w = .ok (.int .u8 x) w := by
  simp [go_sem, h]
theorem grow_cell {w w' : World} {g b o : Nat} {v : Value} (hR : w.grownBy w' (some g)) (hc : w.cell? ⟨b, o, none⟩ = some v) (hne : b ≠ g) : w'.cell? ⟨b, o, none⟩ = some v := by
  rw [World.cell?_of_block (w := w) (hR.block b (block_lt_of_cell hc) (by simpa using hne))]
  exact hc
theorem cells8_set (L : List UInt8) (j : Nat) (x : UInt8) : (cells8 L).setIfInBounds j (u8 x) = cells8 (L.set j x) := by
  simp [cells8, List.map_set]
theorem lay_step (X : List UInt8) (n j : Nat) (hX : X.length = n) (h : j < n) : (X.take j ++ List.replicate (n - j) 0).set j (X.getD j 0) = X.take (j + 1) ++ List.replicate (n - (j + 1)) 0 := by
  rw [at8_take X j (by omega), List.set_append_right _ _ (by rw [List.length_take]; omega), List.length_take, Nat.min_eq_left (by omega), Nat.sub_self]
  rw [show n - j = (n - (j + 1)) + 1 by omega, List.replicate_succ, List.set_cons_zero, List.append_assoc]
  rfl
theorem xorL_getD (a b : List UInt8) (i : Nat) (h1 : i < a.length) (h2 : i < b.length) : (xorL a b).getD i 0 = UInt8.ofNat ((a.getD i 0).toNat ^^^ (b.getD i 0).toNat) := by
  unfold xorL
  rw [List.getD_eq_getElem?_getD, List.getElem?_zipWith, List.getElem?_eq_getElem h1, List.getElem?_eq_getElem h2]
  simp [List.getD_eq_getElem?_getD, h1, h2]
theorem xor8v (x y z : UInt8) : Value.int .u8 (bits .xor .u8 (bits .xor .u8 (x.toNat : Int) (y.toNat : Int)) (z.toNat : Int)) = u8 (UInt8.ofNat ((UInt8.ofNat (x.toNat ^^^ y.toNat)).toNat ^^^ z.toNat)) := by
  have hx := x.toNat_lt
  have hy := y.toNat_lt
  have hz := z.toNat_lt
  have h1 : x.toNat ^^^ y.toNat < 2 ^ 8 := Nat.xor_lt_two_pow (by omega) (by omega)
  have h2 : x.toNat ^^^ y.toNat ^^^ z.toNat < 2 ^ 8 := Nat.xor_lt_two_pow h1 (by omega)
  rw [u8_xor_nat _ _ (by omega) (by omega), u8_xor_nat _ _ (by omega) (by omega), u8, show (UInt8.ofNat (x.toNat ^^^ y.toNat)).toNat = x.toNat ^^^ y.toNat by rw [UInt8.toNat_ofNat', Nat.mod_eq_of_lt h1], UInt8.toNat_ofNat', Nat.mod_eq_of_lt h2]

theorem mk_noughts (n : Nat) : madeCells #[.int .u8 0] n = cells8 (List.replicate n 0) := by
  apply Array.toList_inj.1
  rw [toList_madeCells_one]
  simp [cells8, u8]

set_option maxRecDepth 100000 in
set_option maxHeartbeats 1000000 in
theorem rots_short (A C : Option Addr) (n m c d : Nat) (i j k s : Int) (h : n = 0 ∨ 9000 < n) (hn : n ≤ 9223372036854775807) (w : World) :
    Calls Try.prog 14 #[.slice A n c, .slice C m d, .int .i64 i, .int .i64 j, .int .i64 k, .int .u32 s] w fun e w' => e = .returned (.bool true) ∧ Ext w w' := by
  rcases h with rfl | h
  all_goals
    go_enter Try.func14, Try.ntmps14
    go_wp2_with (go_at_call 40; refine (known2_any _).mono ?_; rintro e w5 ⟨rfl, hE5⟩)
    go_ret
    exact ⟨rfl, hE5⟩

set_option maxHeartbeats 16000000 in
set_option maxRecDepth 100000 in
theorem rots_in (A C : Option Addr) (b cc : List UInt8) (c d : Nat) (i j k : Int) (s : BitVec 32) (hn0 : 0 < b.length) (hn : b.length ≤ 9000) (hc : b.length ≤ c) (hc' : c ≤ 9223372036854775807) (hd : cc.length ≤ d) (hd' : d ≤ 9223372036854775807) (w : World) (hb : By w A b) (hcc : By w C cc) :
    Calls Try.prog 14 #[.slice A b.length c, .slice C cc.length d, .int .i64 i, .int .i64 j, .int .i64 k, .int .u32 (s.toNat : Int)] w fun e w' => e = .returned (.bool true) ∧ Ext w w' := by
  have hi := bitOf_lt b.length hn0 i
  have hj := bitOf_lt b.length hn0 j
  have hk := bitOf_lt b.length hn0 k
  have hti := bitOf_tmod b.length hn0 i
  have HONE := Lib.hid (one_shows b _ hi)
  have HTWO := Lib.hid (two_shows b _ _ hi hj hn)
  have HTHREE := Lib.hid (three_shows b _ _ _ hi hj hk)
  have HSH := Lib.hid (burst_shows b (bitOf b.length i) s)
  have HBL := Lib.hid (burst_length b (bitOf b.length i) s)
  have HFL := Lib.hid (fun l k => flipL_length l k)
  generalize hnn : b.length = n at *
  generalize hmm : cc.length = m at *
  have HN := Lib.hid hnn
  have HM := Lib.hid hmm
  have HB := Lib.hid hb
  have HCC := Lib.hid hcc
  clear hnn hmm hb hcc
  generalize hpp : bitOf n i = p at *
  generalize hqq : bitOf n j = qj at *
  generalize hrr : bitOf n k = qk at *
  have HP := Lib.hid hpp
  have HQ := Lib.hid hqq
  have HR := Lib.hid hrr
  clear hpp hqq hrr
  have h0 : ((n : Int) == 0) = false := by rw [beq_eq_false_iff_ne]; omega
  have h9 : decide ((9000 : Int) < (n : Int)) = false := by simp; omega
  go_enter Try.func14, Try.ntmps14
  go_wp2_with fail
  refine (known2_any _).mono ?_
  rintro e w0 ⟨rfl, hE0⟩
  have KS := Lib.hid (csum_one A b c (by rw [HN.out]; omega) (by rw [HN.out]; exact hc) w0 (HB.out.ext hE0) 23)
  rw [HN.out] at KS
  go_wp2_with fail
  refine KS.out.mono ?_
  rintro e w1 ⟨rfl, hE1⟩
  have hE01 := hE0.trans hE1
  have HB1 := Lib.hid (HB.out.ext hE01)
  clear hE0 hE1 KS
  go_wp2_with (at_builtin; refine wpList_append8 Try.byt rfl _ _ rfl rfl (Own.nil _ _ w1.heap.size) _ _ _ rfl b HB1.out HN.out.symm ?c1 ?c2 ?_)
  case c1 => rw [HN.out]; simp; omega
  case c2 => exact Nat.le_refl _
  intro v2 w2 hO2 hg2 hl2
  have hE2 : Ext w1 w2 := (Ext.refl w1).append hg2 (Own.nil 5 _ _)
  obtain ⟨gx, cx, rfl, hR2, hgx, hcx, hcx'⟩ := Row8.of_own hO2 (by rw [HN.out]; exact hn0)
  rw [HN.out] at hcx ⊢
  have hszx : w1.heap.size ≤ gx := hgx
  have hE02 := hE01.trans hE2
  clear hO2 hg2 hl2 hgx HB1
  have hw1 := hE01.size
  have KF1 := Lib.hid (flip_any gx b cx i (by rw [HN.out]; exact hn0) (by rw [HN.out]; exact hn) (by rw [HN.out]; exact hcx) w2 hR2)
  rw [HN.out, HP.out] at KF1
  go_wp2_with fail
  refine KF1.out.mono ?_
  rintro e w3 ⟨⟨u3, rfl⟩, hR3, hU3⟩
  have hE03 : Ext w w3 := hU3.ext hE02 (by omega)
  have HX1 : Hid ((flipL b p).length = n) := by rw [HFL.out, HN.out]; rfl
  generalize flipL b p = x1 at *
  have KH1 := Lib.hid (holds_any (some ⟨gx, 0, none⟩) x1 cx (crc b) (by rw [HX1.out]; omega) (by rw [HX1.out]; exact hcx) w3 hR3.by_)
  rw [HX1.out, decide_eq_false HONE.out] at KH1
  clear KF1 hR2 hU3 hE02 hE2
  go_wp2_with fail
  refine KH1.out.mono ?_
  rintro e w4 ⟨rfl, hE4⟩
  have hR4 := hR3.ext hE4
  have hE04 := hE03.trans hE4
  have KF2 := Lib.hid (flip_any gx x1 cx j (by rw [HX1.out]; exact hn0) (by rw [HX1.out]; exact hn) (by rw [HX1.out]; exact hcx) w4 hR4)
  rw [HX1.out, HQ.out] at KF2
  clear hR3 hE4 hE03 KH1 hR4
  go_wp2_with fail
  refine KF2.out.mono ?_
  rintro e w5 ⟨⟨u5, rfl⟩, hR5, hU5⟩
  have hE05 : Ext w w5 := hU5.ext hE04 (by omega)
  have HX2 : Hid ((flipL x1 qj).length = n) := by rw [HFL.out, HX1.out]; rfl
  generalize flipL x1 qj = x2 at *
  have HE05 := Lib.hid hE05
  have HR5 := Lib.hid hR5
  clear KF2 hU5 hE04 hE05 hR5
  go_upto_region 11 with fail
  go_cut [54] (fun s54 wx => s54 = .bool false ∧ Ext w5 wx)
  case first =>
    have s1 := str_any HR5.out.by_ cx
    have s2 := str_any (HB.out.ext HE05.out) c
    rw [HX2.out] at s1
    rw [HN.out] at s2
    by_cases hx : x2 = b
    · subst hx
      go_wp2_with fail
      go_meet
      exact ⟨rfl, Ext.refl _⟩
    · have KH := Lib.hid (holds_any (some ⟨gx, 0, none⟩) x2 cx (crc b) (by rw [HX2.out]; omega) (by rw [HX2.out]; exact hcx) w5 HR5.out.by_)
      rw [HX2.out, decide_eq_false (fun h => hx (HTWO.out h))] at KH
      go_wp2_with (go_at_call 43; refine KH.out.mono ?_; rintro e w6 ⟨rfl, hE6⟩)
      go_meet
      exact ⟨rfl, hE6⟩
  case rest =>
    obtain ⟨rfl, hE6⟩ := hcut
    have hR6 := HR5.out.ext hE6
    have hE06 := HE05.out.trans hE6
    have KF3 := Lib.hid (flip_any gx x2 cx k (by rw [HX2.out]; exact hn0) (by rw [HX2.out]; exact hn) (by rw [HX2.out]; exact hcx) wc hR6)
    rw [HX2.out, HR.out] at KF3
    clear hE6 hR6 HR5 HE05
    go_wp2_with fail
    refine KF3.out.mono ?_
    rintro e w7 ⟨⟨u7, rfl⟩, hR7, hU7⟩
    have hE07 : Ext w w7 := hU7.ext hE06 (by omega)
    have HX3 : Hid ((flipL x2 qk).length = n) := by rw [HFL.out, HX2.out]; rfl
    generalize flipL x2 qk = x3 at *
    have s1 := str_any hR7.by_ cx
    have s2 := str_any (HB.out.ext hE07) c
    rw [HX3.out] at s1
    rw [HN.out] at s2
    have hx3 : ¬ x3 = b := fun h => HTHREE.out (by rw [h])
    have KH3 := Lib.hid (holds_any (some ⟨gx, 0, none⟩) x3 cx (crc b) (by rw [HX3.out]; omega) (by rw [HX3.out]; exact hcx) w7 hR7.by_)
    rw [HX3.out, decide_eq_false HTHREE.out] at KH3
    clear KF3 hU7 hE06
    go_wp2_with fail
    refine KH3.out.mono ?_
    rintro e w8 ⟨rfl, hE8⟩
    have hE08 := hE07.trans hE8
    have HE08 := Lib.hid hE08
    have HB8 := Lib.hid (HB.out.ext hE08)
    clear s1 s2 hx3 hR7 hE8 hE07 KH3 hE08 HX3 HX2 HX1 HONE HTWO HTHREE
    go_upto_if 74 with fail
    go_cut [15] (fun s15 wx => s15 = .int .i64 (p : Int) ∧ w8 = wx)
    case first =>
      rcases hti with ht | ⟨hneg, ht⟩
      · go_wp2_with fail
        go_meet
        exact ⟨by first | rfl | rw [ht], rfl⟩
      · go_wp2_with fail
        go_meet
        exact ⟨by first | rfl | rw [ht], rfl⟩
    case rest =>
      obtain ⟨rfl, rfl⟩ := hcut
      clear hti
      go_wp2_with (at_builtin; refine wpList_append8 Try.byt rfl _ _ rfl rfl (Own.nil _ _ w8.heap.size) _ _ _ rfl b HB8.out HN.out.symm ?c3 ?c4 ?_)
      case c3 => rw [HN.out]; simp; omega
      case c4 => exact Nat.le_refl _
      intro v9 w9 hO9 hg9 hl9
      have hE9 : Ext w8 w9 := (Ext.refl w8).append hg9 (Own.nil 5 _ _)
      obtain ⟨gy, cy, rfl, hR9, hgy, hcy, hcy'⟩ := Row8.of_own hO9 (by rw [HN.out]; exact hn0)
      rw [HN.out] at hcy ⊢
      have hs8 := HE08.out.size
      have hwy : w.heap.size ≤ gy := by omega
      have HE09 := Lib.hid (HE08.out.trans hE9)
      have HR9 := Lib.hid hR9
      clear hO9 hg9 hl9 hE9 hR9 HB8 HE08
      go_wp2_with fail
      go_loopw [17] (fun i wr => ∃ kk : Nat, kk ≤ 32 ∧ p + kk ≤ 8 * n ∧ i = .int .i64 kk ∧ Row8 wr gy (burst b p s kk) ∧ Ext w wr) (fun i _ => 32 - (intOf i).toNat)
      case atStart => exact ⟨0, Nat.zero_le _, by omega, rfl, HR9.out, HE09.out⟩
      case round =>
        obtain ⟨kk, hkk, hpk, rfl, hRk, hEk⟩ := hrel
        have HRk := Lib.hid hRk
        have HEk := Lib.hid hEk
        clear hRk hEk
        by_cases hgo : kk < 32 ∧ p + kk < 8 * n
        · obtain ⟨hlt1, hlt2⟩ := hgo
          have d1 : decide ((kk : Int) < 32) = true := by simp; omega
          have d2 : decide ((p : Int) + (kk : Int) < 8 * (n : Int)) = true := by simp; omega
          have hsb := shr_bit s kk
          have HBS : Hid (burst b p s (kk + 1) = if s.getLsbD kk then flipL (burst b p s kk) (p + kk) else burst b p s kk) := Lib.hid rfl
          have HBk := Lib.hid (HBL.out kk)
          generalize burst b p s kk = yk at *
          have hsl := s.isLt
          cases hbit : s.getLsbD kk with
          | true =>
            rw [hbit] at hsb HBS
            have HBO : Hid (bitOf n ((p : Int) + (kk : Int)) = p + kk) := by
              refine Lib.hid ?_
              unfold bitOf
              rw [Int.emod_eq_of_lt (by omega) (by omega)]
              omega
            have KFk := Lib.hid (flip_any gy yk cy ((p : Int) + (kk : Int)) (by rw [HBk.out]; exact hn0) (by rw [HBk.out]; exact hn) (by rw [HBk.out]; exact hcy) wr HRk.out)
            rw [HBk.out, HBO.out] at KFk
            clear hbit
            go_wp2_with fail
            refine KFk.out.mono ?_
            rintro e w10 ⟨⟨u10, rfl⟩, hR10, hU10⟩
            have HE10 := Lib.hid (hU10.ext HEk.out hwy)
            have HR10 := Lib.hid hR10
            clear hR10 hU10 KFk
            go_wp2_with fail
            exact ⟨⟨kk + 1, by omega, by omega, by go_num, by rw [HBS.out]; simpa using HR10.out, HE10.out⟩, by simp [intOf]; omega⟩
          | false =>
            rw [hbit] at hsb HBS
            clear hbit
            go_wp2_with fail
            exact ⟨⟨kk + 1, by omega, by omega, by go_num, by rw [HBS.out]; simpa using HRk.out, HEk.out⟩, by simp [intOf]; omega⟩
        · go_upto_region 21 with fail
          go_cut [92] (fun s92 wx => s92 = .bool false ∧ wr = wx)
          case first =>
            by_cases h32 : kk < 32
            · have d1 : decide ((kk : Int) < 32) = true := by simp; omega
              have d2 : decide ((p : Int) + (kk : Int) < 8 * (n : Int)) = false := by simp; omega
              go_wp2_with fail
              go_meet
              exact ⟨rfl, rfl⟩
            · have d1 : decide ((kk : Int) < 32) = false := by simp; omega
              go_wp2_with fail
              go_meet
              exact ⟨rfl, rfl⟩
          case rest =>
            obtain ⟨rfl, rfl⟩ := hcut
            have HSK := Lib.hid (HSH.out kk hkk hpk)
            have HYL := Lib.hid (HBL.out kk)
            generalize burst b p s kk = y at *
            clear hgo hpk HSH HBL
            go_upto_region 25 with fail
            go_cut [115] (fun s115 wx => s115 = .bool false ∧ Ext wr wx)
            case first =>
              have s1 := str_any HRk.out.by_ cy
              have s2 := str_any (HB.out.ext HEk.out) c
              rw [HYL.out] at s1
              rw [HN.out] at s2
              by_cases hx : y = b
              · subst hx
                go_wp2_with fail
                go_meet
                exact ⟨rfl, Ext.refl _⟩
              · have KH := Lib.hid (holds_any (some ⟨gy, 0, none⟩) y cy (crc b) (by rw [HYL.out]; omega) (by rw [HYL.out]; exact hcy) wr HRk.out.by_)
                rw [HYL.out, decide_eq_false (fun h => hx (HSK.out h))] at KH
                go_wp2_with (go_at_call 43; refine KH.out.mono ?_; rintro e w11 ⟨rfl, hE11⟩)
                go_meet
                exact ⟨rfl, hE11⟩
            case rest =>
              obtain ⟨rfl, hE11⟩ := hcut
              obtain ⟨w11, rfl⟩ : ∃ w11 : World, w11 = wc := ⟨_, rfl⟩
              have HR11 := Lib.hid (HRk.out.ext hE11)
              have HE011 := Lib.hid (HEk.out.trans hE11)
              clear hE11 HRk HEk HSK
              go_upto_region 27 with fail
              go_cut [18, 19] (fun a18 a19 wx => ∃ gz gw : Nat, a18 = .slice (some ⟨gz, 0, none⟩) n n ∧ a19 = .slice (some ⟨gw, 0, none⟩) n n ∧ gz ≠ gw ∧ w11.heap.size ≤ gz ∧ w11.heap.size ≤ gw ∧ Blk wx gz 5 (cells8 (List.replicate n 0)) ∧ Blk wx gw 5 (cells8 (List.replicate n 0)) ∧ Ext w11 wx)
              case first =>
                have hmk := make8 n (by omega)
                rw [mk_noughts] at hmk
                have hE1 := (Ext.refl w11.drew).alloc (.cells (cells8 (List.replicate n 0)) 5)
                refine wp_eager Ext.pre (n := 8) (by kernel_rfl) (by kernel_rfl) ?_
                refine Eg.batchK Ext.pre (by intro c a d v w h; cases d <;> exact h) (by kernel_rfl) (n := 4) [0, 1, 3, 4] [] _ (by kernel_rfl) (fun K hK => ?_); (simp only [pickOps, List.getElem?_toArray, List.getElem?_cons_zero, List.getElem?_cons_succ, Option.toList_some, List.cons_append, List.nil_append]); (repeat (first | go_big_quiet_step (fail) | quiet_step (fail))); refine wpQuiet_nil (hK _ ?_); clear hK K
                refine Eg.two Ext.pre (i := 2) (j := 5) (n := 3) (l := [0, 1, 3, 4]) rfl rfl (by kernel_rfl) ?_ ?_
                · go_wp2_with fail
                  refine ⟨hE1, ?_⟩
                  refine Eg.batchK Ext.pre (by intro c a d v w h; cases d <;> exact h) (by kernel_rfl) (n := 2) [6] [0, 1, 3, 4, 2] _ (by kernel_rfl) (fun K hK => ?_); (simp only [pickOps, List.getElem?_toArray, List.getElem?_cons_zero, List.getElem?_cons_succ, Option.toList_some, List.cons_append, List.nil_append]); (repeat (first | go_big_quiet_step (fail) | quiet_step (fail))); refine wpQuiet_nil (hK _ ?_); clear hK K
                  refine Eg.act Ext.pre (i := 5) (n := 1) (l := [0, 1, 3, 4, 2, 6]) rfl (by kernel_rfl) ?_
                  go_wp2_with fail
                  refine ⟨(Ext.refl _).alloc _, ?_⟩
                  refine Eg.batchK Ext.pre (by intro c a d v w h; cases d <;> exact h) (by kernel_rfl) (n := 0) [7] [0, 1, 3, 4, 2, 6, 5] _ (by kernel_rfl) (fun K hK => ?_); (simp only [pickOps, List.getElem?_toArray, List.getElem?_cons_zero, List.getElem?_cons_succ, Option.toList_some, List.cons_append, List.nil_append]); (repeat (first | go_big_quiet_step (fail) | quiet_step (fail))); refine wpQuiet_nil (hK _ ?_); clear hK K
                  refine Eg.finish (by kernel_rfl) ?_
                  go_wp2_with fail
                  go_meet
                  have hN2 := Blk.new (w11.drew.alloc (.cells (cells8 (List.replicate n 0)) 5)) 5 (cells8 (List.replicate n 0))
                  rw [World.size_alloc] at hN2
                  exact ⟨w11.heap.size, w11.heap.size + 1, rfl, rfl, by omega, Nat.le_refl _, by omega, (Blk.new w11.drew _ _).alloc _, hN2, (((Ext.refl w11).drew).alloc _).alloc _⟩
                · go_wp2_with fail
                  refine ⟨hE1, ?_⟩
                  refine Eg.act Ext.pre (i := 2) (n := 2) (l := [0, 1, 3, 4, 5]) rfl (by kernel_rfl) ?_
                  go_wp2_with fail
                  refine ⟨(Ext.refl _).alloc _, ?_⟩
                  refine Eg.batchK Ext.pre (by intro c a d v w h; cases d <;> exact h) (by kernel_rfl) (n := 0) [6, 7] [0, 1, 3, 4, 5, 2] _ (by kernel_rfl) (fun K hK => ?_); (simp only [pickOps, List.getElem?_toArray, List.getElem?_cons_zero, List.getElem?_cons_succ, Option.toList_some, List.cons_append, List.nil_append]); (repeat (first | go_big_quiet_step (fail) | quiet_step (fail))); refine wpQuiet_nil (hK _ ?_); clear hK K
                  refine Eg.finish (by kernel_rfl) ?_
                  go_wp2_with fail
                  go_meet
                  have hN2 := Blk.new (w11.drew.alloc (.cells (cells8 (List.replicate n 0)) 5)) 5 (cells8 (List.replicate n 0))
                  rw [World.size_alloc] at hN2
                  exact ⟨w11.heap.size + 1, w11.heap.size, rfl, rfl, by omega, by omega, Nat.le_refl _, hN2, (Blk.new w11.drew _ _).alloc _, (((Ext.refl w11).drew).alloc _).alloc _⟩
              case rest =>
                obtain ⟨gz, gw, rfl, rfl, hzw, hz11, hw11, hBz, hBw, hE12⟩ := hcut
                obtain ⟨w12, rfl⟩ : ∃ w12 : World, w12 = wc := ⟨_, rfl⟩
                have hgy11 := HR11.out.lt
                have hs011 := HE011.out.size
                have HR12 := Lib.hid (HR11.out.ext hE12)
                have HE012 := Lib.hid (HE011.out.trans hE12)
                have HBz := Lib.hid hBz
                have HBw := Lib.hid hBw
                have HCT := Lib.hid ((HCC.out.ext HE012.out).take n)
                have HLT : Hid ((cc.take n).length = min m n) := by rw [List.length_take, HM.out, Nat.min_comm]; rfl
                have HZL : Hid ((over (List.replicate n 0) 0 (cc.take n)).length = n) := Lib.hid (by rw [over_length _ _ _ (by simp; omega)]; simp)
                clear hBz hBw hE12 HR11 HE011
                go_wp2_with (with_reducible refine wpList_copy8g Try.byt rfl _ _ rfl HBz.out HCT.out 0 n n m d HLT.out _ rfl rfl ?c5 ?c6 ?_)
                case c5 => rw [HLT.out]; simp; omega
                intro w13 hB13 hU13
                have hR13 := HR12.out.grown hU13.grown (by omega)
                have hE13 : Ext w w13 := hU13.ext HE012.out (by omega)
                have hW13 := HBw.out.grown hU13.grown (by simpa using fun e => hzw e.symm)
                generalize over (List.replicate n 0) 0 (cc.take n) = zl at *
                have HB13 := Lib.hid hB13
                have HR13 := Lib.hid hR13
                have HE13 := Lib.hid hE13
                have HW13 := Lib.hid hW13
                clear hB13 hR13 hE13 hW13 hU13 HR12 HE012 HBz HBw HCT
                go_wp2_with fail
                have HXL : Hid ((xorL (xorL b y) zl).length = n) := Lib.hid (by rw [xorL_length _ _ (by rw [xorL_length _ _ (by rw [HN.out, HYL.out]), HN.out, HZL.out]), xorL_length _ _ (by rw [HN.out, HYL.out]), HN.out])
                go_loopw [20] (fun i wr => ∃ jj : Nat, jj ≤ n ∧ i = .int .i64 jj ∧ Blk wr gw 5 (cells8 ((xorL (xorL b y) zl).take jj ++ List.replicate (n - jj) 0)) ∧ Row8 wr gy y ∧ Blk wr gz 5 (cells8 zl) ∧ Ext w wr) (fun i _ => n - (intOf i).toNat)
                case atStart => exact ⟨0, Nat.zero_le _, rfl, by simpa using HW13.out, HR13.out, HB13.out, HE13.out⟩
                case round =>
                  obtain ⟨jj, hjj, rfl, hBw, hRy, hBz, hEr⟩ := hrel
                  by_cases hlt : jj < n
                  · have hjd : decide ((jj : Int) < (n : Int)) = true := by simp; omega
                    obtain ⟨b0, o0, rfl, hc0⟩ := HB.out.at_ (by rw [HN.out]; exact hn0)
                    have hb0lt : b0 < w.heap.size := block_lt_of_cell (hc0 jj (by rw [HN.out]; exact hlt))
                    have k1 : wr.drew.cell? ⟨b0, o0 + jj, none⟩ = some (.int .u8 ((b.getD jj 0).toNat : Int)) := hEr.cell (hc0 jj (by rw [HN.out]; exact hlt))
                    have k2 : wr.drew.cell? ⟨gy, jj, none⟩ = some (.int .u8 ((y.getD jj 0).toNat : Int)) := by
                      obtain ⟨cur, h1, h2, h3⟩ := hRy
                      show wr.cell? _ = _
                      rw [h1.cell]; exact h3 jj (by rw [HYL.out]; exact hlt)
                    have k3 : wr.drew.cell? ⟨gz, jj, none⟩ = some (.int .u8 ((zl.getD jj 0).toNat : Int)) := by
                      show wr.cell? _ = _
                      rw [hBz.cell]; exact cells8_get zl jj (by rw [HZL.out]; exact hlt)
                    obtain ⟨v0, k4⟩ : ∃ v0, wr.drew.cell? ⟨gw, jj, none⟩ = some v0 := by
                      refine ⟨_, (hBw.cell jj).trans (cells8_get _ jj ?_)⟩
                      rw [List.length_append, List.length_take, List.length_replicate, HXL.out]; omega
                    have k5 : wr.drew.frozen? ⟨gw, jj, none⟩ = false := hBw.frozen jj
                    have HLS := Lib.hid (lay_step (xorL (xorL b y) zl) n jj HXL.out hlt)
                    have HGD : Hid ((xorL (xorL b y) zl).getD jj 0 = UInt8.ofNat ((UInt8.ofNat ((b.getD jj 0).toNat ^^^ (y.getD jj 0).toNat)).toNat ^^^ (zl.getD jj 0).toNat)) := Lib.hid (by
                      rw [xorL_getD _ _ _ (by rw [xorL_length _ _ (by rw [HN.out, HYL.out]), HN.out]; exact hlt) (by rw [HZL.out]; exact hlt), xorL_getD _ _ _ (by rw [HN.out]; exact hlt) (by rw [HYL.out]; exact hlt)])
                    have HV := Lib.hid (xor8v (b.getD jj 0) (y.getD jj 0) (zl.getD jj 0))
                    rw [HGD.out] at HLS
                    have x1l := (b.getD jj 0).toNat_lt
                    have x2l := (y.getD jj 0).toNat_lt
                    have x3l := (zl.getD jj 0).toNat_lt
                    generalize b.getD jj 0 = xb at *
                    generalize y.getD jj 0 = xy at *
                    generalize zl.getD jj 0 = xz at *
                    have HBw := Lib.hid hBw
                    have HRy := Lib.hid hRy
                    have HBz := Lib.hid hBz
                    have HEr := Lib.hid hEr
                    have hne1 : b0 ≠ gw := by omega
                    have hne2 : gy ≠ gw := by omega
                    clear hc0 hBw hRy hBz hEr HGD HW13 HR13 HB13 HE13
                    go_wp2_with fail
                    refine wp_eager (grow_pre gw) (n := 18) (by kernel_rfl) (by kernel_rfl) ?_
                    refine Eg.batchK (grow_pre gw) (by intro c a d v w h; cases d <;> exact h) (by kernel_rfl) (n := 7) [0, 1, 2, 3, 4, 6, 7, 8, 11, 12, 13] [] _ (by kernel_rfl) (fun K hK => ?_); (simp only [pickOps, List.getElem?_toArray, List.getElem?_cons_zero, List.getElem?_cons_succ, Option.toList_some, List.cons_append, List.nil_append]); (repeat (first | go_big_quiet_step (fail) | quiet_step (fail))); refine wpQuiet_nil (hK _ ?_); clear hK K
                    (refine Eg.read (grow_pre gw) (by intro c a d v w h; cases d <;> exact h) (by kernel_rfl) (i := 5) (n := 6) (l := [0, 1, 2, 3, 4, 6, 7, 8, 11, 12, 13]) rfl (by kernel_rfl) (by kernel_rfl) rfl ⟨_, fun w' hR => load_run rfl (load_u8r (grow_cell hR k1 hne1)), ?_⟩); (simp only [Act.put, List.setIfInBounds_toArray])
                    (refine Eg.read (grow_pre gw) (by intro c a d v w h; cases d <;> exact h) (by kernel_rfl) (i := 9) (n := 5) (l := [0, 1, 2, 3, 4, 6, 7, 8, 11, 12, 13, 5]) rfl (by kernel_rfl) (by kernel_rfl) rfl ⟨_, fun w' hR => load_run rfl (load_u8r (grow_cell hR k2 hne2)), ?_⟩); (simp only [Act.put, List.setIfInBounds_toArray])
                    refine Eg.batchK (grow_pre gw) (by intro c a d v w h; cases d <;> exact h) (by kernel_rfl) (n := 4) [10] [0, 1, 2, 3, 4, 6, 7, 8, 11, 12, 13, 5, 9] _ (by kernel_rfl) (fun K hK => ?_); (simp only [pickOps, List.getElem?_toArray, List.getElem?_cons_zero, List.getElem?_cons_succ, Option.toList_some, List.cons_append, List.nil_append]); (repeat (first | go_big_quiet_step (fail) | quiet_step (fail))); refine wpQuiet_nil (hK _ ?_); clear hK K
                    (refine Eg.read (grow_pre gw) (by intro c a d v w h; cases d <;> exact h) (by kernel_rfl) (i := 14) (n := 3) (l := [0, 1, 2, 3, 4, 6, 7, 8, 11, 12, 13, 5, 9, 10]) rfl (by kernel_rfl) (by kernel_rfl) rfl ⟨_, fun w' hR => load_run rfl (load_u8r (grow_cell hR k3 hzw)), ?_⟩); (simp only [Act.put, List.setIfInBounds_toArray])
                    refine Eg.batchK (grow_pre gw) (by intro c a d v w h; cases d <;> exact h) (by kernel_rfl) (n := 1) [15, 16] [0, 1, 2, 3, 4, 6, 7, 8, 11, 12, 13, 5, 9, 10, 14] _ (by kernel_rfl) (fun K hK => ?_); (simp only [pickOps, List.getElem?_toArray, List.getElem?_cons_zero, List.getElem?_cons_succ, Option.toList_some, List.cons_append, List.nil_append]); (repeat (first | go_big_quiet_step (fail) | quiet_step (fail))); refine wpQuiet_nil (hK _ ?_); clear hK K
                    refine Eg.act (grow_pre gw) (i := 17) (n := 0) (l := [0, 1, 2, 3, 4, 6, 7, 8, 11, 12, 13, 5, 9, 10, 14, 15, 16]) rfl (by kernel_rfl) ?_
                    go_wp2_with fail
                    refine ⟨(Upd.set _ _ _ _).grown, ?_⟩
                    refine Eg.finish (by kernel_rfl) ?_
                    go_wp2_with fail
                    rw [HV.out]
                    have hU := (Upd.set wr.drew gw jj (u8 (UInt8.ofNat ((UInt8.ofNat (xb.toNat ^^^ xy.toNat)).toNat ^^^ xz.toNat)))).grown
                    refine ⟨⟨jj + 1, by omega, by go_num, ?_, Row8.grown (w := wr.drew) HRy.out hU hne2, Blk.grown (w := wr.drew) HBz.out hU (by simpa using hzw), Ext.setCell HEr.out.drew (by show _ ≤ gw; omega) _⟩, by simp [intOf]; omega⟩
                    rw [← HLS.out, ← cells8_set]
                    exact Blk.set (w := wr.drew) HBw.out jj _
                  · obtain rfl : jj = n := by omega
                    rw [Nat.sub_self, List.replicate_zero, List.append_nil, List.take_of_length_le (by rw [HXL.out]; exact Nat.le_refl _)] at hBw
                    have KW := Lib.hid (csum_one (some ⟨gw, 0, none⟩) (xorL (xorL b y) zl) jj (by rw [HXL.out]; omega) (by rw [HXL.out]; exact Nat.le_refl _) wr (By.of_blk hBw) 23)
                    rw [HXL.out, crc_xor3 b y zl (by rw [HN.out, HYL.out]) (by rw [HN.out, HZL.out])] at KW
                    have KY := Lib.hid (fun W (hE : Ext wr W) => csum_one (some ⟨gy, 0, none⟩) y cy (by rw [HYL.out]; omega) (by rw [HYL.out]; exact hcy) W (hRy.by_.ext hE) 23)
                    have KZ := Lib.hid (fun W (hE : Ext wr W) => csum_one (some ⟨gz, 0, none⟩) zl jj (by rw [HZL.out]; omega) (by rw [HZL.out]; exact Nat.le_refl _) W ((By.of_blk hBz).ext hE) 23)
                    rw [HYL.out] at KY
                    rw [HZL.out] at KZ
                    have e1 := xor32 (crc b) (crc y)
                    have e2 := xor32 (crc b ^^^ crc y) (crc zl)
                    generalize crc b ^^^ crc y ^^^ crc zl = t2 at *
                    generalize crc b ^^^ crc y = t1 at *
                    have HEr := Lib.hid hEr
                    clear hBw hRy hBz hEr HW13 HR13 HB13 HE13
                    go_wp2_with fail
                    refine KW.out.mono ?_
                    rintro e w14 ⟨rfl, hE14⟩
                    go_wp2_with fail
                    refine (KY.out _ hE14).mono ?_
                    rintro e w15 ⟨rfl, hE15⟩
                    have hE1415 := hE14.trans hE15
                    go_wp2_with fail
                    refine (KZ.out _ hE1415).mono ?_
                    rintro e w16 ⟨rfl, hE16⟩
                    go_wp2
                    go_ret
                    refine ⟨?_, (HEr.out.trans hE1415).trans hE16⟩
                    rfl

theorem rots_any {w : World} (A C : Option Addr) (b cc : List UInt8) (c d : Nat) (i j k : Int) (s : Int) (hs : 0 ≤ s ∧ s ≤ 4294967295) (hb : By w A b) (hcc : By w C cc) (hc : b.length ≤ c) (hd : cc.length ≤ d) (hc' : c ≤ 9223372036854775807) (hd' : d ≤ 9223372036854775807) :
    Calls Try.prog 14 #[.slice A b.length c, .slice C cc.length d, .int .i64 i, .int .i64 j, .int .i64 k, .int .u32 s] w fun e w' => e = .returned (.bool true) ∧ Ext w w' := by
  by_cases h : b.length = 0 ∨ 9000 < b.length
  · exact rots_short A C _ _ c d i j k s h (by omega) w
  · obtain ⟨r, rfl⟩ := as32 s hs
    exact rots_in A C b cc c d i j k r (by omega) (by omega) hc hc' hd hd' w hb hcc

end Go.Proofs.Ytojgjmkkcadabaa
