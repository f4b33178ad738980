/-
  Contracts of wire.Unhex.
-/
import Derived.Test.YtojgjmkkcadabaaHexA
import Derived.WalkMore
import Derived.Outline
import Derived.IntWalk
set_option linter.unusedVariables false
set_option linter.unusedSimpArgs false
namespace Go.Proofs.Ytojgjmkkcadabaa
open Go.RowKit Pl

theorem index_str (t : List UInt8) (i : Nat) (h : i < t.length) (w : World) : (Instr.index 9 (.string ⟨t.toArray⟩) (.int .i64 (i : Int))).run Try.prog w = .ok (.int .u8 (at8 t i)) w := by
  have h1 : (i : Int).toNat = i := by omega
  have h2 : ¬ ((i : Int) < 0) := by omega
  have h3 : i < (ByteArray.mk t.toArray).size := by simpa [ByteArray.size] using h
  simp [go_sem, h3, at8, List.getD_eq_getElem?_getD, h, ByteArray.get!]
  rfl

theorem or8 (v : Int) (q d : Nat) (hq : q < 16) (hd : d < 16) (hv : v = (d : Int)) : Value.int .u8 (bits .or .u8 ((q : Int) * 16) v) = .int .u8 ((16 * q + d : Nat) : Int) := by
  subst hv
  have h := u8_or_nat (q * 16) d (by omega) (by omega)
  have e : q * 16 ||| d = 16 * q + d := by rw [nat_join 4 (q * 16) d (by omega) (by omega)]; omega
  rw [show ((q : Int) * 16) = ((q * 16 : Nat) : Int) by omega, h, e]
theorem or8z (v : Int) (d : Nat) (hd : d < 16) (hv : v = (d : Int)) : Value.int .u8 (bits .or .u8 0 v) = .int .u8 (d : Int) := by
  have h := or8 v 0 d (by omega) hd hv
  simpa using h

def UnhexPost (t : List UInt8) (w : World) (e : Ending) (w' : World) : Prop :=
  (∀ l, unhex t = some l → ∃ v, e = .returned (.tuple #[v, .int .i64 0]) ∧ Own 5 w' w.heap.size v l) ∧ (unhex t = none → e = .returned (.tuple #[.slice none 0 0, .int .i64 4])) ∧ Ext w w'
theorem UnhexPost.no {t : List UInt8} {w w' : World} (h : unhex t = none) (hE : Ext w w') : UnhexPost t w (.returned (.tuple #[.slice none 0 0, .int .i64 4])) w' := ⟨fun l hl => (by rw [h] at hl; cases hl), fun _ => rfl, hE⟩
theorem UnhexPost.yes {t l : List UInt8} {w w' : World} {v : Value} (h : unhex t = some l) (hO : Own 5 w' w.heap.size v l) (hE : Ext w w') : UnhexPost t w (.returned (.tuple #[v, .int .i64 0])) w' :=
  ⟨fun l' hl => (by rw [h] at hl; cases hl; exact ⟨v, rfl, hO⟩), fun hn => (by rw [h] at hn; cases hn), hE⟩

theorem Try.idx0 (x y : Value) (w : World) : (Instr.index 82 (.agg #[x, y]) (.int .i64 0)).run Try.prog w = .ok x w := by rfl
theorem Try.idx1 (x y : Value) (w : World) : (Instr.index 82 (.agg #[x, y]) (.int .i64 1)).run Try.prog w = .ok y w := by rfl

set_option maxHeartbeats 4000000 in
set_option maxRecDepth 100000 in
theorem unhex_any (t : List UInt8) (hl : t.length ≤ 18000) (w : World) : Calls Try.prog 37 #[.string ⟨t.toArray⟩] w (UnhexPost t w) := by
  generalize hn : t.length = n at *
  have HN := Lib.hid hn
  clear hn
  have hsz : (ByteArray.mk t.toArray).size = n := by rw [← HN.out]; simp [ByteArray.size]
  have hmk := fun w => make8c (n / 2) (by omega) w
  have hmk2 : ∀ w, (Instr.makeSlice 23 (.int .i64 0) (.int .i64 ((n : Int) / 2))).run Try.prog w = .ok (.slice (some ⟨w.heap.size, 0, none⟩) 0 (n / 2)) (w.alloc (.cells (madeCells #[.int .u8 0] (n / 2)) 5)) := fun w => hmk w
  clear hmk
  by_cases hodd : n % 2 = 1
  · have hpar : ((n : Int) % 2 != 0) = true := by rw [bne_iff_ne]; omega
    go_enter Try.func37, Try.ntmps37
    go_wp2_with fail
    go_step3
    go_wp2_with fail
    go_step3
    go_wp2_with fail
    have HO0 := Lib.hid (own_made w (n / 2) (by omega) w.heap.size (Nat.le_refl _))
    clear hmk2
    go_loopw [4, 5, 6] (fun f v i wr => ∃ (k : Nat) (lk : List UInt8), f = .bool true ∧ 2 * k ≤ n ∧ i = .int .i64 ((2 * k : Nat) : Int) ∧ Own 5 wr w.heap.size v lk ∧ lk.length = k ∧ unhex (t.take (2 * k)) = some lk ∧ Ext w wr) (fun _ _ i _ => n - (intOf i).toNat)
    case atStart => exact ⟨0, [], rfl, Nat.zero_le _, rfl, HO0.out, rfl, rfl, (Ext.refl w).alloc _⟩
    case round =>
      obtain ⟨k, lk, rfl, hk, rfl, hO, hlk, hu, hE⟩ := hrel
      have HO := Lib.hid hO
      have HE := Lib.hid hE
      have HU := Lib.hid hu
      have HLK := Lib.hid hlk
      clear hO hE hu hlk HO0
      generalize hi2 : 2 * k = i2 at *
      have HI2 := Lib.hid hi2
      clear hi2
      by_cases hlt : i2 + 1 < n
      · have hjd : decide ((i2 : Int) + 1 < (n : Int)) = true := by simp; omega
        have hw1 : IntKind.i64.wrap ((i2 : Int) + 1) = (i2 : Int) + 1 := IntWalk.i64_in _ (by omega)
        have hx0 := fun w => index_str t i2 (by rw [HN.out]; omega) w
        have hx1 : ∀ w, (Instr.index 9 (.string ⟨t.toArray⟩) (.int .i64 ((i2 : Int) + 1))).run Try.prog w = .ok (.int .u8 (at8 t (i2 + 1))) w := fun w => index_str t (i2 + 1) (by rw [HN.out]; omega) w
        have hX : at8 t i2 = ((t.getD i2 0).toNat : Int) := rfl
        have hY : at8 t (i2 + 1) = ((t.getD (i2 + 1) 0).toNat : Int) := rfl
        have HTK : Hid (t.take (i2 + 2) = t.take i2 ++ [t.getD i2 0, t.getD (i2 + 1) 0]) := by
          rw [at8_take t (i2 + 1) (by rw [HN.out]; omega), at8_take t i2 (by rw [HN.out]; omega), List.append_assoc]; rfl
        have HB0 := Lib.hid (unhex_bad t i2 (by rw [HN.out]; omega))
        have HB1 := Lib.hid (unhex_bad t (i2 + 1) (by rw [HN.out]; omega))
        generalize t.getD i2 0 = x at *
        generalize t.getD (i2 + 1) 0 = y at *
        generalize at8 t i2 = xi at *
        generalize at8 t (i2 + 1) = yi at *
        subst hX hY
        have hxl := x.toNat_lt
        have hyl := y.toNat_lt
        go_wp2_with fail
        refine wp_eager Ext.pre (n := 9) (by kernel_rfl) (by kernel_rfl) ?_
        refine Eg.batchK Ext.pre (by intro c a d v w h; cases d <;> exact h) (by kernel_rfl) (n := 0) [0, 1, 2, 3, 4, 5, 6, 7, 8] [] _ (by kernel_rfl) (fun K hK => ?_); (simp only [pickOps, List.getElem?_toArray, List.getElem?_cons_zero, List.getElem?_cons_succ, Option.toList_some, List.cons_append, List.nil_append]); (repeat (first | go_big_quiet_step (fail) | quiet_step (fail))); refine wpQuiet_nil (hK _ ?_); clear hK K
        refine Eg.finish (by kernel_rfl) ?_
        clear hx0 hx1 hw1
        go_wp2_with fail
        have i0 := Try.idx0 (.int .u8 (x.toNat : Int)) (.int .u8 (y.toNat : Int))
        have i1 := Try.idx1 (.int .u8 (x.toNat : Int)) (.int .u8 (y.toNat : Int))
        go_loop [4, 7, 33] (fun f v i => ∃ m q : Nat, f = .bool true ∧ m ≤ 2 ∧ i = .int .i64 m ∧ v = .int .u8 (q : Int) ∧ Spl x y m q) (fun _ _ i => 2 - (intOf i).toNat)
        case atStart => exact ⟨0, 0, rfl, by omega, rfl, rfl, .inl ⟨rfl, rfl⟩⟩
        case round =>
          obtain ⟨m, q, rfl, hm, rfl, rfl, hS⟩ := hrel
          rcases hS with ⟨rfl, rfl⟩ | ⟨rfl, hs⟩ | ⟨rfl, a, b, hsa, hsb, rfl⟩
          · by_cases hd : 48 ≤ x.toNat ∧ x.toNat ≤ 57
            · obtain ⟨h1, h2⟩ := hd
              have HS := Lib.hid (spell_digit x h1 h2)
              go_wp2_with fail
              exact ⟨⟨1, x.toNat - 48, rfl, by omega, rfl, or8z _ _ (by omega) (by omega), .inr (.inl ⟨rfl, HS.out⟩)⟩, by simp [intOf]⟩
            by_cases hd2 : 97 ≤ x.toNat ∧ x.toNat ≤ 102
            · obtain ⟨h1, h2⟩ := hd2
              have HS := Lib.hid (spell_low x h1 h2)
              have h3 : decide (((x.toNat : Nat) : Int) ≤ 57) = false := by simp; omega
              clear hd
              go_wp2_with fail
              exact ⟨⟨1, x.toNat - 87, rfl, by omega, rfl, or8z _ _ (by omega) (by omega), .inr (.inl ⟨rfl, HS.out⟩)⟩, by simp [intOf]⟩
            · have HS := Lib.hid (spell_none x hd hd2)
              have hbad : 0 ≤ x.toNat ∧ x.toNat < 48 ∨ 58 ≤ x.toNat ∧ x.toNat < 97 ∨ 103 ≤ x.toNat := by omega
              clear hd hd2
              rcases hbad with ⟨h1, h2⟩ | ⟨h1, h2⟩ | h1
              all_goals
                go_wp2_with fail
                try rw [Exit.noGoto_ret]
                go_ret2
                exact UnhexPost.no (HB0.out HS.out) HE.out.drew
          · have hq := spell_lt hs
            have HQ := Lib.hid hs
            clear hs
            by_cases hd : 48 ≤ y.toNat ∧ y.toNat ≤ 57
            · obtain ⟨h1, h2⟩ := hd
              have HS := Lib.hid (spell_digit y h1 h2)
              go_wp2_with fail
              exact ⟨⟨2, 16 * q + (y.toNat - 48), rfl, by omega, rfl, or8 _ _ _ (by omega) (by omega) (by omega), .inr (.inr ⟨rfl, q, _, HQ.out, HS.out, rfl⟩)⟩, by simp [intOf]⟩
            by_cases hd2 : 97 ≤ y.toNat ∧ y.toNat ≤ 102
            · obtain ⟨h1, h2⟩ := hd2
              have HS := Lib.hid (spell_low y h1 h2)
              have h3 : decide (((y.toNat : Nat) : Int) ≤ 57) = false := by simp; omega
              clear hd
              go_wp2_with fail
              exact ⟨⟨2, 16 * q + (y.toNat - 87), rfl, by omega, rfl, or8 _ _ _ (by omega) (by omega) (by omega), .inr (.inr ⟨rfl, q, _, HQ.out, HS.out, rfl⟩)⟩, by simp [intOf]⟩
            · have HS := Lib.hid (spell_none y hd hd2)
              have hbad : 0 ≤ y.toNat ∧ y.toNat < 48 ∨ 58 ≤ y.toNat ∧ y.toNat < 97 ∨ 103 ≤ y.toNat := by omega
              clear hd hd2
              rcases hbad with ⟨h1, h2⟩ | ⟨h1, h2⟩ | h1
              all_goals
                go_wp2_with fail
                try rw [Exit.noGoto_ret]
                go_ret2
                exact UnhexPost.no (HB1.out HS.out) HE.out.drew
          · have ha := spell_lt hsa
            have hb := spell_lt hsb
            have HST := Lib.hid (unhex_step (t.take i2) lk x y a b HU.out hsa hsb)
            clear hsa hsb
            have hq8 : 16 * a + b < 256 := by omega
            generalize 16 * a + b = q at *
            have HV : Hid (Value.int .u8 (q : Int) = u8 (UInt8.ofNat q)) := by unfold u8; rw [UInt8.toNat_ofNat', Nat.mod_eq_of_lt hq8]; rfl
            have hby : By (wr.drew.alloc (.cells #[.int .u8 (q : Int)] 5)) (some ⟨wr.heap.size, 0, none⟩) [UInt8.ofNat q] := by rw [HV.out]; exact By.one wr.drew _ _
            have HBY := Lib.hid hby
            have hszw := HE.out.size
            clear hby i0 i1
            go_wp2_with (at_builtin; refine wpList_append8 Try.byt rfl _ _ rfl rfl (HO.out.drew.alloc _) _ _ _ rfl [UInt8.ofNat q] HBY.out rfl ?c1 ?c2 ?_)
            case c1 => rw [HLK.out]; have := HI2.out; simp; omega
            case c2 => (have := hszw; (try simp); omega)
            intro v2 w2 hO2 hg2 hl2
            have hE2 : Ext w w2 := ((HE.out.drew).alloc _).grown hg2 (fun k hk => (HO.out.lt k hk).1)
            have HO2 := Lib.hid hO2
            have HE2 := Lib.hid hE2
            clear hO2 hg2 hl2 hE2
            go_wp2_with fail
            have e2 := HI2.out
            refine ⟨⟨k + 1, lk ++ [UInt8.ofNat q], rfl, by omega, ?_, HO2.out, by simp [HLK.out], ?_, HE2.out⟩, by simp [intOf]; omega⟩
            · rw [show ((2 * (k + 1) : Nat) : Int) = (i2 : Int) + 2 by omega]
            · rw [show 2 * (k + 1) = i2 + 2 by omega, HTK.out]; exact HST.out
      · have hjd : decide ((i2 : Int) + 1 < (n : Int)) = false := by simp; omega
        have HNO := Lib.hid (unhex_odd t (by rw [HN.out]; exact hodd))
        go_wp2_with fail
        try rw [Exit.noGoto_ret]
        go_ret2
        exact UnhexPost.no HNO.out HE.out
  · have hpar : ((n : Int) % 2 != 0) = false := by rw [bne_eq_false_iff_eq]; omega
    go_enter Try.func37, Try.ntmps37
    go_wp2_with fail
    go_step3
    go_wp2_with fail
    go_step3
    go_wp2_with fail
    have HO0 := Lib.hid (own_made w (n / 2) (by omega) w.heap.size (Nat.le_refl _))
    clear hmk2
    go_loopw [4, 5, 6] (fun f v i wr => ∃ (k : Nat) (lk : List UInt8), f = .bool false ∧ 2 * k ≤ n ∧ i = .int .i64 ((2 * k : Nat) : Int) ∧ Own 5 wr w.heap.size v lk ∧ lk.length = k ∧ unhex (t.take (2 * k)) = some lk ∧ Ext w wr) (fun _ _ i _ => n - (intOf i).toNat)
    case atStart => exact ⟨0, [], rfl, Nat.zero_le _, rfl, HO0.out, rfl, rfl, (Ext.refl w).alloc _⟩
    case round =>
      obtain ⟨k, lk, rfl, hk, rfl, hO, hlk, hu, hE⟩ := hrel
      have HO := Lib.hid hO
      have HE := Lib.hid hE
      have HU := Lib.hid hu
      have HLK := Lib.hid hlk
      clear hO hE hu hlk HO0
      generalize hi2 : 2 * k = i2 at *
      have HI2 := Lib.hid hi2
      clear hi2
      by_cases hlt : i2 + 1 < n
      · have hjd : decide ((i2 : Int) + 1 < (n : Int)) = true := by simp; omega
        have hw1 : IntKind.i64.wrap ((i2 : Int) + 1) = (i2 : Int) + 1 := IntWalk.i64_in _ (by omega)
        have hx0 := fun w => index_str t i2 (by rw [HN.out]; omega) w
        have hx1 : ∀ w, (Instr.index 9 (.string ⟨t.toArray⟩) (.int .i64 ((i2 : Int) + 1))).run Try.prog w = .ok (.int .u8 (at8 t (i2 + 1))) w := fun w => index_str t (i2 + 1) (by rw [HN.out]; omega) w
        have hX : at8 t i2 = ((t.getD i2 0).toNat : Int) := rfl
        have hY : at8 t (i2 + 1) = ((t.getD (i2 + 1) 0).toNat : Int) := rfl
        have HTK : Hid (t.take (i2 + 2) = t.take i2 ++ [t.getD i2 0, t.getD (i2 + 1) 0]) := by
          rw [at8_take t (i2 + 1) (by rw [HN.out]; omega), at8_take t i2 (by rw [HN.out]; omega), List.append_assoc]; rfl
        have HB0 := Lib.hid (unhex_bad t i2 (by rw [HN.out]; omega))
        have HB1 := Lib.hid (unhex_bad t (i2 + 1) (by rw [HN.out]; omega))
        generalize t.getD i2 0 = x at *
        generalize t.getD (i2 + 1) 0 = y at *
        generalize at8 t i2 = xi at *
        generalize at8 t (i2 + 1) = yi at *
        subst hX hY
        have hxl := x.toNat_lt
        have hyl := y.toNat_lt
        go_wp2_with fail
        refine wp_eager Ext.pre (n := 9) (by kernel_rfl) (by kernel_rfl) ?_
        refine Eg.batchK Ext.pre (by intro c a d v w h; cases d <;> exact h) (by kernel_rfl) (n := 0) [0, 1, 2, 3, 4, 5, 6, 7, 8] [] _ (by kernel_rfl) (fun K hK => ?_); (simp only [pickOps, List.getElem?_toArray, List.getElem?_cons_zero, List.getElem?_cons_succ, Option.toList_some, List.cons_append, List.nil_append]); (repeat (first | go_big_quiet_step (fail) | quiet_step (fail))); refine wpQuiet_nil (hK _ ?_); clear hK K
        refine Eg.finish (by kernel_rfl) ?_
        clear hx0 hx1 hw1
        go_wp2_with fail
        have i0 := Try.idx0 (.int .u8 (x.toNat : Int)) (.int .u8 (y.toNat : Int))
        have i1 := Try.idx1 (.int .u8 (x.toNat : Int)) (.int .u8 (y.toNat : Int))
        go_loop [4, 7, 33] (fun f v i => ∃ m q : Nat, f = .bool false ∧ m ≤ 2 ∧ i = .int .i64 m ∧ v = .int .u8 (q : Int) ∧ Spl x y m q) (fun _ _ i => 2 - (intOf i).toNat)
        case atStart => exact ⟨0, 0, rfl, by omega, rfl, rfl, .inl ⟨rfl, rfl⟩⟩
        case round =>
          obtain ⟨m, q, rfl, hm, rfl, rfl, hS⟩ := hrel
          rcases hS with ⟨rfl, rfl⟩ | ⟨rfl, hs⟩ | ⟨rfl, a, b, hsa, hsb, rfl⟩
          · by_cases hd : 48 ≤ x.toNat ∧ x.toNat ≤ 57
            · obtain ⟨h1, h2⟩ := hd
              have HS := Lib.hid (spell_digit x h1 h2)
              go_wp2_with fail
              exact ⟨⟨1, x.toNat - 48, rfl, by omega, rfl, or8z _ _ (by omega) (by omega), .inr (.inl ⟨rfl, HS.out⟩)⟩, by simp [intOf]⟩
            by_cases hd2 : 97 ≤ x.toNat ∧ x.toNat ≤ 102
            · obtain ⟨h1, h2⟩ := hd2
              have HS := Lib.hid (spell_low x h1 h2)
              have h3 : decide (((x.toNat : Nat) : Int) ≤ 57) = false := by simp; omega
              clear hd
              go_wp2_with fail
              exact ⟨⟨1, x.toNat - 87, rfl, by omega, rfl, or8z _ _ (by omega) (by omega), .inr (.inl ⟨rfl, HS.out⟩)⟩, by simp [intOf]⟩
            · have HS := Lib.hid (spell_none x hd hd2)
              have hbad : 0 ≤ x.toNat ∧ x.toNat < 48 ∨ 58 ≤ x.toNat ∧ x.toNat < 97 ∨ 103 ≤ x.toNat := by omega
              clear hd hd2
              rcases hbad with ⟨h1, h2⟩ | ⟨h1, h2⟩ | h1
              all_goals
                go_wp2_with fail
                try rw [Exit.noGoto_ret]
                go_ret2
                exact UnhexPost.no (HB0.out HS.out) HE.out.drew
          · have hq := spell_lt hs
            have HQ := Lib.hid hs
            clear hs
            by_cases hd : 48 ≤ y.toNat ∧ y.toNat ≤ 57
            · obtain ⟨h1, h2⟩ := hd
              have HS := Lib.hid (spell_digit y h1 h2)
              go_wp2_with fail
              exact ⟨⟨2, 16 * q + (y.toNat - 48), rfl, by omega, rfl, or8 _ _ _ (by omega) (by omega) (by omega), .inr (.inr ⟨rfl, q, _, HQ.out, HS.out, rfl⟩)⟩, by simp [intOf]⟩
            by_cases hd2 : 97 ≤ y.toNat ∧ y.toNat ≤ 102
            · obtain ⟨h1, h2⟩ := hd2
              have HS := Lib.hid (spell_low y h1 h2)
              have h3 : decide (((y.toNat : Nat) : Int) ≤ 57) = false := by simp; omega
              clear hd
              go_wp2_with fail
              exact ⟨⟨2, 16 * q + (y.toNat - 87), rfl, by omega, rfl, or8 _ _ _ (by omega) (by omega) (by omega), .inr (.inr ⟨rfl, q, _, HQ.out, HS.out, rfl⟩)⟩, by simp [intOf]⟩
            · have HS := Lib.hid (spell_none y hd hd2)
              have hbad : 0 ≤ y.toNat ∧ y.toNat < 48 ∨ 58 ≤ y.toNat ∧ y.toNat < 97 ∨ 103 ≤ y.toNat := by omega
              clear hd hd2
              rcases hbad with ⟨h1, h2⟩ | ⟨h1, h2⟩ | h1
              all_goals
                go_wp2_with fail
                try rw [Exit.noGoto_ret]
                go_ret2
                exact UnhexPost.no (HB1.out HS.out) HE.out.drew
          · have ha := spell_lt hsa
            have hb := spell_lt hsb
            have HST := Lib.hid (unhex_step (t.take i2) lk x y a b HU.out hsa hsb)
            clear hsa hsb
            have hq8 : 16 * a + b < 256 := by omega
            generalize 16 * a + b = q at *
            have HV : Hid (Value.int .u8 (q : Int) = u8 (UInt8.ofNat q)) := by unfold u8; rw [UInt8.toNat_ofNat', Nat.mod_eq_of_lt hq8]; rfl
            have hby : By (wr.drew.alloc (.cells #[.int .u8 (q : Int)] 5)) (some ⟨wr.heap.size, 0, none⟩) [UInt8.ofNat q] := by rw [HV.out]; exact By.one wr.drew _ _
            have HBY := Lib.hid hby
            have hszw := HE.out.size
            clear hby i0 i1
            go_wp2_with (at_builtin; refine wpList_append8 Try.byt rfl _ _ rfl rfl (HO.out.drew.alloc _) _ _ _ rfl [UInt8.ofNat q] HBY.out rfl ?c1 ?c2 ?_)
            case c1 => rw [HLK.out]; have := HI2.out; simp; omega
            case c2 => (have := hszw; (try simp); omega)
            intro v2 w2 hO2 hg2 hl2
            have hE2 : Ext w w2 := ((HE.out.drew).alloc _).grown hg2 (fun k hk => (HO.out.lt k hk).1)
            have HO2 := Lib.hid hO2
            have HE2 := Lib.hid hE2
            clear hO2 hg2 hl2 hE2
            go_wp2_with fail
            have e2 := HI2.out
            refine ⟨⟨k + 1, lk ++ [UInt8.ofNat q], rfl, by omega, ?_, HO2.out, by simp [HLK.out], ?_, HE2.out⟩, by simp [intOf]; omega⟩
            · rw [show ((2 * (k + 1) : Nat) : Int) = (i2 : Int) + 2 by omega]
            · rw [show 2 * (k + 1) = i2 + 2 by omega, HTK.out]; exact HST.out
      · have hjd : decide ((i2 : Int) + 1 < (n : Int)) = false := by simp; omega
        have e2 := HI2.out
        have HYE : Hid (unhex t = some lk) := by
          have h1 := HU.out
          rw [List.take_of_length_le (by rw [HN.out]; omega)] at h1
          exact h1
        clear e2
        go_wp2_with fail
        try rw [Exit.noGoto_ret]
        go_ret2
        exact UnhexPost.yes HYE.out HO.out HE.out

end Go.Proofs.Ytojgjmkkcadabaa
