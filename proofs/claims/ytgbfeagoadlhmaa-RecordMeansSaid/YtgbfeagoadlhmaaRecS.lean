
/-
  The law RecordMeans, walked: the way of a record that may be.
-/
import Derived.Test.YtgbfeagoadlhmaaRecQ
set_option linter.unusedVariables false
set_option linter.unusedSimpArgs false
namespace Go.Proofs.Ytgbfeagoadlhmaa
open Go.RowKit Pl

attribute [local go_sem] Oper.semAt_some

theorem grow_preS (g : Nat) : Pre (fun w w' : World => w.grownBy w' (some g)) := ⟨fun w => World.grownBy.refl w _, fun h k => h.trans k⟩

theorem grown_setS (w : World) (p : Addr) (u : Value) : w.grownBy (w.setCell p u) (some p.block) :=
  have h := (Below.refl 0 w).setCell (p := p) (Nat.zero_le _) u
  ⟨Below.os h, Below.tape h, Below.output h, Below.size h, fun k _ hk => heap_setCell_other w p k u (fun e => hk (by rw [e]))⟩

theorem Own.by0 {e : TypeId} {w : World} {B : Nat} {A : Option Addr} {n c : Nat} {l : List UInt8} (h : Own e w B (.slice A n c) l) : By w A l := by
  obtain ⟨A', c', hv, hb, _, _⟩ := h.form
  injection hv with e1 e2 e3
  subst e1
  exact hb

theorem Own.at0 {e : TypeId} {w : World} {B : Nat} {v : Value} {l : List UInt8} (h : Own e w B v l) (hl : 0 < l.length) :
    ∃ g c, v = .slice (some ⟨g, 0, none⟩) l.length c ∧ By w (some ⟨g, 0, none⟩) l ∧ l.length ≤ c ∧ c ≤ 9223372036854775807 ∧ B ≤ g ∧ g < w.heap.size := by
  obtain ⟨A, c, rfl, hb, h1, h2⟩ := h.form
  rcases h.2 with ⟨hv, hn⟩ | ⟨g', cap', cur, hv, hB, hh, hnc, hcm, hcs, ht⟩
  · omega
  · injection hv with e1 e2 e3
    subst e1 e3
    exact ⟨g', c, rfl, hb, h1, h2, hB, Blk.lt (w := w) (t := e) (cs := cur) hh⟩

def recZ : Array Value := #[.int .i64 0, .int .u64 0, .int .i64 0, .int .i64 0, .slice none 0 0, .slice none 0 0, .int .u64 0, .int .u64 0, .int .u64 0]

/-- a record stored where a new one lies -/
theorem new_rec (w : World) (C : Array Value) : ∃ w2, (w.alloc (.cells recZ 65)).setRow w.heap.size C = w2 ∧ Blk (w.alloc (.cells recZ 65)) w.heap.size 65 recZ ∧ Blk w2 w.heap.size 65 C ∧ Ext w w2 :=
  ⟨_, rfl, Blk.new w _ _, (Blk.new w 65 recZ).rowE C, (ext_fresh w (.cells recZ 65)).setRowE (Nat.le_refl _) C⟩

set_option maxHeartbeats 12800000 in
set_option maxRecDepth 100000 in
theorem means_main (w : World) (r : Rec) (A S : Option Addr) (ca cs pl ot : Nat) (Bh : Option Addr) (beh : List UInt8) (cb : Nat) (z0 z1 z2 : Int) (hA : By w A r.b) (hS : Nums w S r.subs) (hBh : By w Bh beh) (hca : r.b.length ≤ ca) (hmu : (decide (70000 < r.b.length) || decide (9000 < r.subs.length)) = false)
    (ho : RecOk r) (hm : mayB r = true) (hbe : ¬ 9000 < beh.length) (hpl : pl ≤ 4611686018427387904) :
    Calls Try.prog 9 #[.agg (recC r A ca S cs), .int .u64 (pl : Int), .int .u64 (ot : Int), .slice Bh beh.length cb, .agg #[.int .i64 z0, .int .i64 z1, .int .i64 z2]] w fun e w' => e = .returned (.bool true) ∧ Ext w w' := by
  have HP0 := Lib.hid ((Blk.new w 65 (recC r A ca S cs)).alloc (.cells #[.int .i64 z0, .int .i64 z1, .int .i64 z2] 40))
  have HZ0 := Lib.hid (Blk.new (w.alloc (.cells (recC r A ca S cs) 65)) 40 #[.int .i64 z0, .int .i64 z1, .int .i64 z2])
  have HE0 := Lib.hid ((ext_fresh w (.cells (recC r A ca S cs) 65)).alloc (.cells #[.int .i64 z0, .int .i64 z1, .int .i64 z2] 40))
  rw [World.size_alloc] at HZ0
  have HA0 := Lib.hid (hA.ext HE0.out)
  have HS0 := Lib.hid (hS.ext HE0.out)
  have HH0 := Lib.hid (hBh.ext HE0.out)
  have KM := Lib.hid (fun W => Much6_any W r A S ca cs)
  rw [hmu] at KM
  have HLR := Lib.hid (fun W (h : Blk W w.heap.size 65 (recC r A ca S cs)) => load_rec h)
  have KBY := Lib.hid (fun W (h1 : By W A r.b) (h2 : Nums W S r.subs) => Bytes_yes W r A S ca cs pl h1 h2 ho hca hm hpl)
  have KSZ := Lib.hid (fun W (h1 : By W A r.b) (h2 : Nums W S r.subs) => Size_yes W r A S ca cs h1 h2 ho hca hm)
  have KSR := Lib.hid (fun W A4 A5 c4 c5 h1 h2 h3 h4 => Same_ref W r r A4 A A5 S c4 ca c5 cs h1 h2 h3 h4 ho.subs)
  have KSA := Lib.hid (fun W A4 A5 c4 c5 h1 h2 h3 h4 => Same_any W r r A4 A A5 S c4 ca c5 cs h1 h2 h3 h4 ho.subs)
  rw [sameR_self r] at KSR KSA
  have hbl : (bodyR r).length ≤ 2058 := by
    obtain ⟨_, _, _, _, _, _, h, _⟩ := form_ci r hm ho
    exact h
  have hDL : (bytesR r pl).length = 17 + (bodyR r).length := bytesR_length r pl
  have KOY := Lib.hid (fun W g c (h1 : 17 + (bodyR r).length + beh.length ≤ c) (h2 : c ≤ 9223372036854775807) (h3 : By W (some ⟨g, 0, none⟩) (bytesR r pl ++ beh)) => Of_yes W g (17 + (bodyR r).length + beh.length) c r pl beh ho hm (by rw [List.length_append, hDL]) (by omega) h1 h2 h3 hpl)
  have KON := Lib.hid (fun W g c (h1 : 17 + (bodyR r).length ≤ c) (h2 : c ≤ 9223372036854775807) (h3 : By W (some ⟨g, 0, none⟩) (bytesR r pl)) => Of_no W g (16 + (bodyR r).length) c ((bytesR r pl).take (16 + (bodyR r).length)) pl (by rw [List.length_take, hDL]; omega) (by omega) (by omega) h2 (h3.take _) hpl (cut_short r pl pl (by omega)))
  have KOO := Lib.hid (fun W g c (h1 : 17 + (bodyR r).length ≤ c) (h2 : c ≤ 9223372036854775807) (h3 : By W (some ⟨g, 0, none⟩) (bytesR r pl)) => Of_other W g (17 + (bodyR r).length) c r pl ot ho hm hDL (by omega) h1 h2 h3 hpl)
  have hct : turnK (17 + (bodyR r).length) (bytesR r pl) [z0, z1, z2] 3 = bytesR r pl ∨ cutB (turnK (17 + (bodyR r).length) (bytesR r pl) [z0, z1, z2] 3) pl = false := by
    rcases cut_turned r pl (by omega) z0 z1 z2 with h | h
    · exact .inl h
    · exact .inr (h pl)
  have KOT := Lib.hid (fun W g c (h1 : 17 + (bodyR r).length ≤ c) (h2 : c ≤ 9223372036854775807) (h3 : By W (some ⟨g, 0, none⟩) (turnK (17 + (bodyR r).length) (bytesR r pl) [z0, z1, z2] 3)) => Of_turned W g (17 + (bodyR r).length) c r pl (turnK (17 + (bodyR r).length) (bytesR r pl) [z0, z1, z2] 3) ho hm (by rw [turnK_length, hDL]) (by omega) h1 h2 h3 hpl hct)
  have hn1 : ((17 + (bodyR r).length : Nat) : Int) - 1 = ((16 + (bodyR r).length : Nat) : Int) := by omega
  have hn2 : 17 + (bodyR r).length = 16 + (bodyR r).length + 1 := by omega
  have hn3 : 17 + (bodyR r).length ≤ 3000 := by omega
  have hn4 : 16 < 17 + (bodyR r).length := by omega
  have d1 : decide ((9000 : Int) < (beh.length : Int)) = false := decide_eq_false (by omega)
  have HSB := Lib.hid (show beh.length ≤ 9000 by omega)
  clear hA hS hBh hca hmu ho hm hbe hpl hct hbl
  generalize 17 + (bodyR r).length = n at *
  generalize 16 + (bodyR r).length = n1 at *
  generalize bytesR r pl = D at *
  have HN := Lib.hid hDL
  have HN2 := Lib.hid hn2
  have HN3 := Lib.hid hn3
  have HN4 := Lib.hid hn4
  clear hDL hn2 hn3 hn4
  generalize hC : recC r A ca S cs = C at *
  have hCs : C.size = 9 := by rw [← hC]; rfl
  have HCS := Lib.hid hCs
  clear hC hCs
  have hzr := Try.recZero
  go_enter Try.func9, Try.ntmps9
  go_wp2_with fail
  refine (known6_any _).mono ?_
  rintro e w1 ⟨rfl, hE1⟩
  have hl1 := HLR.out _ (HP0.out.ext hE1)
  go_wp2_with (refine wpList_load_gR rfl 65 _ rfl _ rfl _ hl1 ?_)
  refine (KM.out _).mono ?_
  rintro e w2 ⟨rfl, hE2⟩
  have HP2 := Lib.hid ((HP0.out.ext hE1).ext hE2)
  have HZ2 := Lib.hid ((HZ0.out.ext hE1).ext hE2)
  have HA2 := Lib.hid ((HA0.out.ext hE1).ext hE2)
  have HS2 := Lib.hid ((HS0.out.ext hE1).ext hE2)
  have HH2 := Lib.hid ((HH0.out.ext hE1).ext hE2)
  have HE2 := Lib.hid ((HE0.out.trans hE1).trans hE2)
  have hl2 := HLR.out _ HP2.out
  clear hl1 hE1 hE2 HP0 HZ0 HA0 HS0 HH0 HE0 KM
  go_wp2_with (refine wpList_load_gR rfl 65 _ rfl _ rfl _ hl2 ?_)
  refine (KBY.out _ HA2.out HS2.out).mono ?_
  rintro e w3 ⟨v, rfl, hO3, hE3⟩
  obtain ⟨g, cap, rfl, hby3, hlc3, hcm3, hg3, hg3'⟩ := hO3.at0 (by rw [HN.out]; have := HN4.out; omega)
  rw [HN.out] at hlc3 ⊢
  have HB3 := Lib.hid hby3
  have HP3 := Lib.hid (HP2.out.ext hE3)
  have HZ3 := Lib.hid (HZ2.out.ext hE3)
  have HA3 := Lib.hid (HA2.out.ext hE3)
  have HS3 := Lib.hid (HS2.out.ext hE3)
  have HH3 := Lib.hid (HH2.out.ext hE3)
  have HE3 := Lib.hid (HE2.out.trans hE3)
  have HLC := Lib.hid hlc3
  have HCM := Lib.hid hcm3
  clear hl2 hby3 hlc3 hcm3 hg3 hg3' hO3 hE3 HP2 HZ2 HA2 HS2 HH2 HE2 KBY
  go_wp2_with fail
  refine (num6_any _ _).mono ?_
  rintro e w4 ⟨rfl, rfl⟩
  go_wp2_with (first
    | (at_builtin; refine wpList_append8 Try.byt rfl _ _ rfl rfl (Own.nil _ _ w3.heap.size) (some ⟨g, 0, none⟩) n cap rfl D HB3.out HN.out.symm (by have := HN.out; have := HN3.out; simp only [List.length_nil]; omega) (Nat.le_refl _) ?_; intro v4 w4 hO4 hG4 hR4; rw [List.nil_append] at hO4; have HO4 := Lib.hid hO4; have HE4 := Lib.hid (Ext.own hG4 (Ext.refl _)); have HH4 := Lib.hid (HH3.out.ext HE4.out); clear hO4 hG4 hR4)
    | (at_builtin; refine wpList_append8 (w := w4) Try.byt rfl (.tmp 47) (.tmp 48) rfl rfl HO4.out Bh beh.length cb rfl beh HH4.out rfl (by have := HN.out; have := HN3.out; have := HSB.out; omega) HE4.out.size ?_; intro v5 w5 hO5 hG5 hR5; have HX5 := Lib.hid (HE4.out.append (v := v4) (show w4.grownBy w5 v4.ownBlock from hG5) HO4.out); obtain ⟨g5, c5, hv5, hby5, hlc5, hcm5, _, _⟩ := hO5.at0 (by have := HN.out; have := HN4.out; rw [List.length_append]; omega); rw [List.length_append, HN.out] at hv5 hlc5; subst hv5; have KO5 := Lib.hid (KOY.out w5 g5 c5 hlc5 hcm5 hby5); clear hO5 hG5 hR5 HO4 HE4 HH4 hby5 hlc5 hcm5))
  refine KO5.out.mono ?_
  rintro e w6 ⟨A4, c4, A5, c5', rfl, hb6, hl6, hn6, hE6⟩
  have HX6 := Lib.hid (HX5.out.trans hE6)
  have HB6 := Lib.hid hb6
  have HN6 := Lib.hid hn6
  have hrs := recC_size r A4 A5 c4 c5'
  have hro := recC_one r A4 A5 c4 c5'
  have KSR6 := Lib.hid (fun W => KSR.out W A4 A5 c4 c5')
  have KSA6 := Lib.hid (fun W => KSA.out W A4 A5 c4 c5')
  generalize recC r A4 c4 A5 c5' = X at *
  obtain ⟨w7, hw7, hbz7, hbx7, hx7⟩ := new_rec w6 X
  unfold recZ at hw7 hbz7
  have HBz := Lib.hid hbz7
  have HBX := Lib.hid hbx7
  have HX7 := Lib.hid (HX6.out.trans hx7)
  have HB7 := Lib.hid (HB6.out.ext hx7)
  have HN7 := Lib.hid (HN6.out.ext hx7)
  generalize hgx : w6.heap.size = gx at *
  clear hb6 hl6 hn6 hE6 hbz7 hbx7 hx7 HX6 HB6 HN6 KO5 HX5 KSR KSA KOY
  have hq1 : n1 ≤ 3000 := by have := HN2.out; have := HN3.out; omega
  have hq2 : n1 ≤ cap := by have := HN2.out; have := HLC.out; omega
  go_wp2_with (refine wpList_store_row rfl 65 _ _ rfl _ _ rfl rfl _ _ HBz.out (Try.recSize hrs) (by rw [hrs]; rfl) hro ?_; rw [hw7]; clear hw7 HBz)
  refine (KON.out w7 g cap HLC.out HCM.out (HB3.out.ext HX7.out)).mono ?_
  rintro e w8 ⟨R9, n9, err9, hs9, ho9, rfl, rfl, hE8⟩
  have HX8 := Lib.hid (HX7.out.trans hE8)
  have HBX8 := Lib.hid (HBX.out.ext hE8)
  have HB8 := Lib.hid (HB7.out.ext hE8)
  have HN8 := Lib.hid (HN7.out.ext hE8)
  obtain ⟨w9, hw9, hbz9, _, hx9⟩ := new_rec w8 R9
  unfold recZ at hw9 hbz9
  have HBz := Lib.hid hbz9
  have HX9 := Lib.hid (HX8.out.trans hx9)
  have HBX9 := Lib.hid (HBX8.out.ext hx9)
  have HB9 := Lib.hid (HB8.out.ext hx9)
  have HN9 := Lib.hid (HN8.out.ext hx9)
  generalize hg9 : w8.heap.size = g9 at *
  clear hE8 hbz9 hx9 HX8 HBX8 HB8 HN8 HX7 HBX HB7 HN7 KON
  go_wp2_with (refine wpList_store_row rfl 65 _ _ rfl _ _ rfl rfl _ _ HBz.out (Try.recSize hs9) (by rw [hs9]; rfl) ho9 ?_; rw [hw9]; clear hw9 HBz)
  refine (KOO.out w9 g cap HLC.out HCM.out (HB3.out.ext HX9.out)).mono ?_
  rintro e w10 ⟨R11, n11, err11, hs11, ho11, rfl, hq11, hE10⟩
  have HQ := Lib.hid hq11
  have HX10 := Lib.hid (HX9.out.trans hE10)
  have HBX10 := Lib.hid (HBX9.out.ext hE10)
  have HB10 := Lib.hid (HB9.out.ext hE10)
  have HN10 := Lib.hid (HN9.out.ext hE10)
  obtain ⟨w11, hw11, hbz11, _, hx11⟩ := new_rec w10 R11
  unfold recZ at hw11 hbz11
  have HBz := Lib.hid hbz11
  have HX11 := Lib.hid (HX10.out.trans hx11)
  have HBX11 := Lib.hid (HBX10.out.ext hx11)
  have HB11 := Lib.hid (HB10.out.ext hx11)
  have HN11 := Lib.hid (HN10.out.ext hx11)
  generalize hg11 : w10.heap.size = g11 at *
  clear hE10 hbz11 hx11 HX10 HBX10 HB10 HN10 HX9 HBX9 HB9 HN9 KOO hq11
  go_wp2_with (refine wpList_store_row rfl 65 _ _ rfl _ _ rfl rfl _ _ HBz.out (Try.recSize hs11) (by rw [hs11]; rfl) ho11 ?_; rw [hw11]; clear hw11 HBz)
  refine (num6_any _ _).mono ?_
  rintro e w12 ⟨rfl, rfl⟩
  have hlc := HLR.out _ (HP3.out.ext HX11.out)
  go_wp2_with (refine wpList_load_gR rfl 65 _ rfl _ rfl _ hlc ?_)
  refine (KSZ.out _ (HA3.out.ext HX11.out) (HS3.out.ext HX11.out)).mono ?_
  rintro e w12 ⟨rfl, hE12⟩
  have HX12 := Lib.hid (HX11.out.trans hE12)
  have HBX12 := Lib.hid (HBX11.out.ext hE12)
  have HB12 := Lib.hid (HB11.out.ext hE12)
  have HN12 := Lib.hid (HN11.out.ext hE12)
  have hlc2 := HLR.out _ (HP3.out.ext HX12.out)
  have hlx2 := load_rowR (P := Try.prog) (ty := 65) HBX12.out Try.underlying65 rfl (Try.recSize hrs)
  clear hE12 HX11 HBX11 HB11 HN11 KSZ hlc
  go_wp2_with (first | (refine wpList_load_gR rfl 65 _ rfl _ rfl _ hlx2 ?_) | (refine wpList_load_gR rfl 65 _ rfl _ rfl _ hlc2 ?_))
  refine (KSR6.out _ HB12.out (HA3.out.ext HX12.out) HN12.out (HS3.out.ext HX12.out)).mono ?_
  rintro e w13 ⟨rfl, hE13⟩
  have HX13 := Lib.hid (HX12.out.trans hE13)
  have HBX13 := Lib.hid (HBX12.out.ext hE13)
  have HB13 := Lib.hid (HB12.out.ext hE13)
  have HN13 := Lib.hid (HN12.out.ext hE13)
  have hlc3 := HLR.out _ (HP3.out.ext HX13.out)
  have hlx3 := load_rowR (P := Try.prog) (ty := 65) HBX13.out Try.underlying65 rfl (Try.recSize hrs)
  clear hE13 HX12 HBX12 HB12 HN12 KSR6 hlc2 hlx2
  go_wp2_with (first | (refine wpList_load_gR rfl 65 _ rfl _ rfl _ hlx3 ?_) | (refine wpList_load_gR rfl 65 _ rfl _ rfl _ hlc3 ?_))
  refine (KSA6.out _ HB13.out (HA3.out.ext HX13.out) HN13.out (HS3.out.ext HX13.out)).mono ?_
  rintro e w14 ⟨rfl, hE14⟩
  have HX14 := Lib.hid (HX13.out.trans hE14)
  clear hE14 HX13 HBX13 HB13 HN13 KSA6 hlc3 hlx3
  go_wp2_with fail
  refine (num6_any _ _).mono ?_
  rintro e w15 ⟨rfl, rfl⟩
  have HLT := HLC.out
  clear hrs hro HP3 HA3 HS3 HH3 HLR HCS hs9 ho9 hs11 ho11 hgx hg9 hg11
  have HTN : Hid ((turnK n D [z0, z1, z2] 3).length = n) := Lib.hid (by rw [turnK_length, HN.out])
  have HTL : Hid (∀ k, (turnK n D [z0, z1, z2] k).length = n) := Lib.hid (fun k => by rw [turnK_length, HN.out])
  have HT0 : Hid (turnK n D [z0, z1, z2] 0 = D) := Lib.hid rfl
  have HTS : Hid (∀ k, turnK n D [z0, z1, z2] (k + 1) = turnB n (turnK n D [z0, z1, z2] k) ([z0, z1, z2].getD k 0)) := Lib.hid (fun k => rfl)
  have HZC : Hid (∀ k, k < 3 → (#[Value.int .i64 z0, Value.int .i64 z1, Value.int .i64 z2] : Array Value)[k]? = some (.int .i64 ([z0, z1, z2].getD k 0))) := Lib.hid (fun k hk => three_cell z0 z1 z2 hk)
  generalize turnK n D [z0, z1, z2] = T at *
  generalize [z0, z1, z2] = zs at *
  generalize (#[Value.int .i64 z0, Value.int .i64 z1, Value.int .i64 z2] : Array Value) = zc at *
  by_cases hot : ot = pl
  case' pos => (
    have hot := hot.symm
    subst hot)
  case' neg => (
    have HQ2 := HQ.out hot
    have d2 : (err11 == 0) = false := by rw [beq_eq_false_iff_ne]; exact HQ2
    have d3 : decide (err11 = 0) = false := decide_eq_false HQ2
    go_wp2_with fail
    refine (num6_any _ _).mono ?_
    rintro e w15 ⟨rfl, rfl⟩)
  all_goals (
    clear HQ
    go_wp2_with (at_builtin; refine wpList_append8 Try.byt rfl _ _ rfl rfl (Own.nil _ _ w14.heap.size) (some ⟨g, 0, none⟩) n cap rfl D (HB3.out.ext HX14.out) HN.out.symm (by have := HN.out; have := HN3.out; simp only [List.length_nil]; omega) (Nat.le_refl _) ?_; intro v15 w15 hO15 hG15 hR15; rw [List.nil_append] at hO15; have HX15 := Lib.hid (Ext.own hG15 (Ext.refl _)); have HO15 := Lib.hid hO15; obtain ⟨gT, cT, hv15, _, hlT, hcT, hbT, _⟩ := hO15.at0 (by have := HN.out; have := HN4.out; omega); rw [HN.out] at hv15 hlT; subst hv15; clear hO15 hG15 hR15)
    go_loopw [23] (fun i wr => ∃ k : Nat, k ≤ 3 ∧ i = .int .i64 k ∧ Own 5 wr w14.heap.size (.slice (some ⟨gT, 0, none⟩) n cT) (T k) ∧ Ext w14 wr) (fun i _ => 3 - (intOf i).toNat)
    case atStart => exact ⟨0, by omega, rfl, (by rw [HT0.out]; exact HO15.out), HX15.out⟩
    case round =>
      obtain ⟨k, hk, rfl, hO, hX⟩ := hrel
      have HO := Lib.hid hO
      have HX := Lib.hid hX
      clear hO hX HO15 HX15
      by_cases hlt : k < 3
      · have hld : decide ((k : Int) < 3) = true := by simp; omega
        have hzc : wr.cell? ⟨w.heap.size + 1, k, none⟩ = some (.int .i64 (zs.getD k 0)) := by rw [((HZ3.out.ext HX14.out).ext HX.out).cell]; exact HZC.out k hlt
        have HTk := Lib.hid (HTS.out k)
        generalize zs.getD k 0 = z at *
        have hn3 := HN3.out
        by_cases hz0 : 32 ≤ z
        · have e1 : decide (32 ≤ z) = true := decide_eq_true hz0
          by_cases hz1 : z < 8 * (n : Int)
          · have e2 : decide (z < 8 * (n : Int)) = true := decide_eq_true hz1
            obtain ⟨m, rfl⟩ : ∃ m : Nat, z = (m : Int) := ⟨z.toNat, by omega⟩
            have hm : m < 8 * n := by omega
            have hm2 : m / 8 < n := by omega
            have hTn : T (k + 1) = (T k).set (m / 8) (flipB ((T k).getD (m / 8) 0) (m % 8)) := by
              rw [HTk.out]
              unfold turnB
              rw [if_pos ⟨hz0, hz1⟩, Int.toNat_natCast]
              rfl
            have hx : wr.cell? ⟨gT, m / 8, none⟩ = some (.int .u8 (((T k).getD (m / 8) 0).toNat : Int)) := (HO.out.cellAt (HTL.out k).symm hm2).1
            have hf := (HO.out.cellAt (HTL.out k).symm hm2).2
            have HSET := Lib.hid (HO.out.setByte (HTL.out k).symm hm2 (flipB ((T k).getD (m / 8) 0) (m % 8)))
            rw [← hTn] at HSET
            have HFV := Lib.hid (turn_val ((T k).getD (m / 8) 0) (m % 8) (by omega))
            generalize flipB ((T k).getD (m / 8) 0) (m % 8) = y at *
            have hxl := ((T k).getD (m / 8) 0).toNat_lt
            generalize (T k).getD (m / 8) 0 = x at *
            have hgb : w.heap.size + 1 < w14.heap.size := (HZ3.out.ext HX14.out).lt
            clear hTn hz0 hz1 HTk
            go_upto_region 18 with fail
            refine wp_eager (grow_preS gT) (n := 21) (by kernel_rfl) (by kernel_rfl) ?_
            refine Eg.batchK (grow_preS gT) (by intro c a d v w h; cases d <;> exact h) (by kernel_rfl) (n := 13) [0, 1, 2, 5, 6, 7, 12, 13] [] _ (by kernel_rfl) (fun K hK => ?_); (simp only [pickOps, List.getElem?_toArray, List.getElem?_cons_zero, List.getElem?_cons_succ, Option.toList_some, List.cons_append, List.nil_append]); (repeat (first | go_big_quiet_step (fail) | quiet_step (fail))); refine wpQuiet_nil (hK _ ?_); clear hK K
            (refine Eg.read (grow_preS gT) (by intro c a d v w h; cases d <;> exact h) (by kernel_rfl) (i := 3) (n := 12) (l := [0, 1, 2, 5, 6, 7, 12, 13]) rfl (by kernel_rfl) (by kernel_rfl) rfl ⟨_, fun w' hR => load_run rfl (load_int (cell_grown (w := wr.drew) hzc hR (by simp; omega))), ?_⟩); (simp only [Act.put, List.setIfInBounds_toArray, List.getElem_toArray, List.getElem_cons_succ, List.getElem_cons_zero, List.set_cons_succ, List.set_cons_zero])
            refine Eg.batchK (grow_preS gT) (by intro c a d v w h; cases d <;> exact h) (by kernel_rfl) (n := 11) [4] [0, 1, 2, 5, 6, 7, 12, 13, 3] _ (by kernel_rfl) (fun K hK => ?_); (simp only [pickOps, List.getElem?_toArray, List.getElem?_cons_zero, List.getElem?_cons_succ, Option.toList_some, List.cons_append, List.nil_append]); (repeat (first | go_big_quiet_step (fail) | quiet_step (fail))); refine wpQuiet_nil (hK _ ?_); clear hK K
            (refine Eg.read (grow_preS gT) (by intro c a d v w h; cases d <;> exact h) (by kernel_rfl) (i := 8) (n := 10) (l := [0, 1, 2, 5, 6, 7, 12, 13, 3, 4]) rfl (by kernel_rfl) (by kernel_rfl) rfl ⟨_, fun w' hR => load_run rfl (load_int (cell_grown (w := wr.drew) hzc hR (by simp; omega))), ?_⟩); (simp only [Act.put, List.setIfInBounds_toArray, List.getElem_toArray, List.getElem_cons_succ, List.getElem_cons_zero, List.set_cons_succ, List.set_cons_zero])
            refine Eg.batchK (grow_preS gT) (by intro c a d v w h; cases d <;> exact h) (by kernel_rfl) (n := 8) [9, 10] [0, 1, 2, 5, 6, 7, 12, 13, 3, 4, 8] _ (by kernel_rfl) (fun K hK => ?_); (simp only [pickOps, List.getElem?_toArray, List.getElem?_cons_zero, List.getElem?_cons_succ, Option.toList_some, List.cons_append, List.nil_append]); (repeat (first | go_big_quiet_step (fail) | quiet_step (fail))); refine wpQuiet_nil (hK _ ?_); clear hK K
            (refine Eg.read (grow_preS gT) (by intro c a d v w h; cases d <;> exact h) (by kernel_rfl) (i := 14) (n := 7) (l := [0, 1, 2, 5, 6, 7, 12, 13, 3, 4, 8, 9, 10]) rfl (by kernel_rfl) (by kernel_rfl) rfl ⟨_, fun w' hR => load_run rfl (load_int (cell_grown (w := wr.drew) hzc hR (by simp; omega))), ?_⟩); (simp only [Act.put, List.setIfInBounds_toArray, List.getElem_toArray, List.getElem_cons_succ, List.getElem_cons_zero, List.set_cons_succ, List.set_cons_zero])
            refine Eg.batchK (grow_preS gT) (by intro c a d v w h; cases d <;> exact h) (by kernel_rfl) (n := 4) [15, 16, 17] [0, 1, 2, 5, 6, 7, 12, 13, 3, 4, 8, 9, 10, 14] _ (by kernel_rfl) (fun K hK => ?_); (simp only [pickOps, List.getElem?_toArray, List.getElem?_cons_zero, List.getElem?_cons_succ, Option.toList_some, List.cons_append, List.nil_append]); (repeat (first | go_big_quiet_step (fail) | quiet_step (fail))); refine wpQuiet_nil (hK _ ?_); clear hK K
            refine Eg.act (grow_preS gT) (i := 11) (n := 3) (l := [0, 1, 2, 5, 6, 7, 12, 13, 3, 4, 8, 9, 10, 14, 15, 16, 17]) rfl (by kernel_rfl) ?_
            go_wp2_with fail
            refine ⟨World.grownBy.refl _ _, ?_⟩
            refine Eg.batchK (grow_preS gT) (by intro c a d v w h; cases d <;> exact h) (by kernel_rfl) (n := 1) [18, 19] [0, 1, 2, 5, 6, 7, 12, 13, 3, 4, 8, 9, 10, 14, 15, 16, 17, 11] _ (by kernel_rfl) (fun K hK => ?_); (simp only [pickOps, List.getElem?_toArray, List.getElem?_cons_zero, List.getElem?_cons_succ, Option.toList_some, List.cons_append, List.nil_append]); (repeat (first | go_big_quiet_step (fail) | quiet_step (fail))); refine wpQuiet_nil (hK _ ?_); clear hK K
            refine Eg.act (grow_preS gT) (i := 20) (n := 0) (l := [0, 1, 2, 5, 6, 7, 12, 13, 3, 4, 8, 9, 10, 14, 15, 16, 17, 11, 18, 19]) rfl (by kernel_rfl) ?_
            go_wp2_with fail
            rw [HFV.out]
            refine ⟨grown_setS _ ⟨gT, m / 8, none⟩ _, ?_⟩
            refine Eg.finish (by kernel_rfl) ?_
            go_wp2_with fail
            exact ⟨⟨k + 1, by omega, by go_num, HSET.out.drew, (HX.out.setCell (p := ⟨gT, m / 8, none⟩) hbT _).drew⟩, by simp [intOf]; omega⟩
          · have e2 : decide (z < 8 * (n : Int)) = false := decide_eq_false hz1
            have hTn : T (k + 1) = T k := by rw [HTk.out]; unfold turnB; rw [if_neg (fun h => hz1 h.2)]
            have HTn := Lib.hid hTn
            clear hTn hz0 hz1 HTk
            go_wp2_with fail
            exact ⟨⟨k + 1, by omega, by go_num, by rw [HTn.out]; exact HO.out, HX.out⟩, by simp [intOf]; omega⟩
        · have e1 : decide (32 ≤ z) = false := decide_eq_false hz0
          have hTn : T (k + 1) = T k := by rw [HTk.out]; unfold turnB; rw [if_neg (fun h => hz0 h.1)]
          have HTn := Lib.hid hTn
          clear hTn hz0 HTk
          go_wp2_with fail
          exact ⟨⟨k + 1, by omega, by go_num, by rw [HTn.out]; exact HO.out, HX.out⟩, by simp [intOf]; omega⟩
      · obtain rfl : k = 3 := by omega
        have hTl := HTN.out
        clear HTL HTS HT0 HZC HTN
        generalize T 3 = T3 at *
        have hbT3 := HO.out.by0
        have KO := Lib.hid (KOT.out wr gT cT hlT hcT hbT3)
        clear hbT3 KOT
        go_wp2_with fail
        refine KO.out.mono ?_
        rintro e w17 ⟨R19, n19, err19, hs19, ho19, rfl, hq19, hE17⟩
        have HQ19 := Lib.hid hq19
        obtain ⟨w18, hw18, hbz18, _, hx18⟩ := new_rec w17 R19
        unfold recZ at hw18 hbz18
        have HBz := Lib.hid hbz18
        have HX18 := Lib.hid ((HX.out.trans hE17).trans hx18)
        have hst1 := str_any (HO.out.by0.ext (hE17.trans hx18)) cT
        have hst2 := str_any (HB3.out.ext (HX14.out.trans HX18.out)) cap
        rw [hTl] at hst1
        rw [HN.out] at hst2
        have HEE := Lib.hid ((HE3.out.trans HX14.out).trans HX18.out)
        generalize hg17 : w17.heap.size = g17 at *
        clear hq19 hbz18 hE17 KO HX18 HX
        by_cases hTD : T3 = D
        · subst hTD
          go_wp2_with (refine wpList_store_row rfl 65 _ _ rfl _ _ rfl rfl _ _ HBz.out (Try.recSize hs19) (by rw [hs19]; rfl) ho19 ?_; rw [hw18]; clear hw18 HBz)
          go_ret
          exact ⟨rfl, HEE.out⟩
        · have he4 := HQ19.out hTD
          subst he4
          go_wp2_with (refine wpList_store_row rfl 65 _ _ rfl _ _ rfl rfl _ _ HBz.out (Try.recSize hs19) (by rw [hs19]; rfl) ho19 ?_; rw [hw18]; clear hw18 HBz)
          refine (num6_any _ _).mono ?_
          rintro e w19 ⟨rfl, rfl⟩
          go_wp2_with fail
          go_ret
          exact ⟨rfl, HEE.out⟩)

end Go.Proofs.Ytgbfeagoadlhmaa
