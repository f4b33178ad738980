
/-
  Contracts of page.Items and of its closure.
-/
import Derived.Test.YtgbfeagoadlhmaaRange
import Derived.Test.YtgbfeagoadlhmaaPageI
set_option linter.unusedVariables false
set_option linter.unusedSimpArgs false
namespace Go.Proofs.Ytgbfeagoadlhmaa
open Go.RowKit Go.Shelf Pl

attribute [local go_sem] Oper.semAt_some

/-- the value of a closure of page.Items -/
abbrev itemsV (gfn gp : Nat) : Value := .func (.func 46) #[] #[.pointer (some ⟨gfn, 0, none⟩), .pointer (some ⟨gp, 0, none⟩)]

set_option maxHeartbeats 1600000 in
set_option maxRecDepth 100000 in
theorem Items_pg (w : World) (P : List UInt8) (h : P.length = 1024) :
    Calls Try.prog 21 #[.agg (cells8 P)] w fun e w' => ∃ gfn gp, e = .returned (itemsV gfn gp) ∧ Pg w' gp P ∧ Blk w' gfn 4 #[.bool (rightB P)] ∧ w.heap.size ≤ gp ∧ gp < gfn ∧ Ext w w' := by
  have HP := Lib.hid (Pg.new w P h)
  have K := Lib.hid (right_pg _ _ P HP.out)
  generalize rightB P = r at *
  go_enter Try.func21, Try.ntmps21
  go_wp2_with fail
  refine K.out.mono ?_
  rintro e w' ⟨rfl, hE⟩
  have hlt := (HP.out.ext hE).blk.lt
  go_wp2_with fail
  go_ret
  exact ⟨w'.heap.size, w.heap.size, rfl, (HP.out.ext hE).ext ((Ext.refl w').alloc _), Blk.new _ _ _, Nat.le_refl _, hlt, ((ext_new w _).trans hE).alloc _⟩

/-- yield is not nil -/
theorem nil_yield (t : TypeId) (ht : ((Try.prog.underlying t).map fun d => match d with | .func .. => true | _ => false) = some true) (l : Nat) (w : World) : (binOp .eql t (.func (.yield l) #[] #[]) .nilFunc).run Try.prog w = .ok (.bool false) w := by
  cases hu : Try.prog.underlying t with
  | none => rw [hu] at ht; cases ht
  | some d =>
    rw [hu] at ht
    cases d with
    | func a b c =>
      have h1 : ∀ d, (Op.equalIn (d + 1) t (.func (.yield l) #[] #[]) .nilFunc).run Try.prog w = .ok false w := fun d => by simp [Op.equalIn, run_underlying hu]
      have h2 : (Op.equal t (.func (.yield l) #[] #[]) .nilFunc).run Try.prog w = .ok false w := h1 9999
      simp only [binOp]
      simp [h2]
    | _ => simp at ht

/-- the iterator's rounds: from slot s on the next one that is not empty -/
def itX (P : List UInt8) (N s : Nat) (args : Array Value) (s' : Nat) (A : World) : Prop :=
  rightB P = true ∧ ∃ k v, s ≤ k ∧ k < num2 P 14 ∧ (∀ i, s ≤ i → i < k → slotS P i = 0) ∧ slotS P k ≠ 0 ∧ s' = k + 1 ∧ args = #[.int .i64 (k : Int), v] ∧ Own 5 A N v (itemL P k)
def itFr (args : Array Value) (k : Nat) : Prop := (args.getD 1 undef).ownBlock = some k
def itS (P : List UInt8) (s : Nat) : Prop := (rightB P = true → s ≤ num2 P 14 ∧ ∀ i, s ≤ i → i < num2 P 14 → slotS P i = 0) ∧ (rightB P = false → s = 0)
def itSp (P : List UInt8) (s : Nat) : Prop := rightB P = true ∧ s ≤ num2 P 14
def itC (P : List UInt8) (gfn gp : Nat) (W : World) : Prop := Pg W gp P ∧ Blk W gfn 4 #[.bool (rightB P)]

set_option maxHeartbeats 1600000 in
set_option maxRecDepth 100000 in
theorem items_seq (P : List UInt8) (h : P.length = 1024) (gfn gp n : Nat) (hn : 1 ≤ n) :
    SeqX n Try.prog 46 #[.pointer (some ⟨gfn, 0, none⟩), .pointer (some ⟨gp, 0, none⟩)] (fun k => k = gp ∨ k = gfn) itFr (itX P) (itS P) (itSp P) 0 (itC P gfn gp) := by
  intro l J Jx W hC hJ hJx hY h0
  obtain ⟨hP, hB⟩ := hC
  refine callsIn_of_wp Try.func46 rfl trivial ?_ rfl
  simp only [Try.ntmps46, List.size_toArray, List.length_cons, List.length_nil, Nat.reduceAdd, Nat.reduceSub, Array.replicate_succ, Array.replicate_zero, List.push_toArray, List.append_toArray, List.nil_append, List.cons_append]
  have hcf : W.cell? ⟨gfn, 0, none⟩ = some (.bool (rightB P)) := by rw [hB.cell]; rfl
  cases hr : rightB P with
  | false =>
    rw [hr] at hcf
    gi_wp2
    refine bodyPost_ret (results_none rfl _ _ _) rfl ?_
    exact ⟨⟨_, rfl⟩, .inl ⟨0, ⟨fun h => (by rw [hr] at h; cases h), fun _ => rfl⟩, h0⟩⟩
  | true =>
    rw [hr] at hcf
    have KF := Lib.hid (finder_pg W gp)
    gi_wp2_with (refine ⟨trivial, ?_⟩; gi_at_call 47; refine (callsIn_wide.2 KF.out).mono ?_; rintro e w1 ⟨c, rfl, hC1, hc1, hE1⟩)
    have KS := Lib.hid (slots_pg w1 gp P (hP.ext hE1))
    have hle := right_le hr
    have HSL := Lib.hid (fun n hn hs => right_slot hr (n := n) hn hs)
    have HJ1 := Lib.hid (hJ 0 W w1 h0 (ext_grown hE1 none))
    have HP1 := Lib.hid (hP.ext hE1)
    have HC1 := Lib.hid hC1
    have HY := Lib.hid hY
    have HJ := Lib.hid hJ
    have HR := Lib.hid hr
    have HL := Lib.hid h
    have hWs := hE1.size
    have HS : Hid (∀ s, s ≤ num2 P 14 → (∀ i, s ≤ i → i < num2 P 14 → slotS P i = 0) → itS P s) := Lib.hid (fun s h1 h2 => ⟨fun _ => ⟨h1, h2⟩, fun h => (by rw [hr] at h; cases h)⟩)
    have HSp : Hid (∀ s, s ≤ num2 P 14 → itSp P s) := Lib.hid (fun s h1 => ⟨hr, h1⟩)
    have HX : Hid (∀ s k v A, s ≤ k → k < num2 P 14 → (∀ i, s ≤ i → i < k → slotS P i = 0) → slotS P k ≠ 0 → Own 5 A W.heap.size v (itemL P k) → itX P W.heap.size s #[.int .i64 (k : Int), v] (k + 1) A) := Lib.hid (fun s k v A a1 a2 a3 a4 a5 => ⟨hr, k, v, a1, a2, a3, a4, rfl, rfl, a5⟩)
    clear hY hJ hP hB hcf hr h hE1 hC1 KF h0 hJx
    generalize hm : num2 P 14 = m at *
    clear hm
    gi_wp2_with (refine ⟨trivial, ?_⟩; gi_at_call 42; refine (callsIn_wide.2 KS.out).mono ?_; rintro e w2 ⟨rfl, rfl⟩)
    gi_loopw [12] (fun i wr => ∃ k s : Nat, k ≤ m ∧ i = .int .i64 k ∧ s ≤ k ∧ (∀ i, s ≤ i → i < k → slotS P i = 0) ∧ J s wr ∧ Blk wr c 77 #[.pointer (some ⟨gp, 0, none⟩)] ∧ Pg wr gp P ∧ W.heap.size ≤ wr.heap.size) (fun i _ => m - (intOf i).toNat)
    case atStart => exact ⟨0, 0, Nat.zero_le _, rfl, Nat.le_refl _, fun i _ hi => by omega, HJ1.out, HC1.out, HP1.out, hWs⟩
    case round =>
      obtain ⟨k, s, hk, rfl, hsk, hem, hJs, hCr, hPr, hWr⟩ := hrel
      have HEM := Lib.hid hem
      have HJs := Lib.hid hJs
      have HCr := Lib.hid hCr
      have HPr := Lib.hid hPr
      clear hem hJs hCr hPr HJ1 HC1 HP1 KS
      by_cases hlt : k < m
      · have hkd : decide ((k : Int) < (m : Int)) = true := by simp; omega
        have KW := Lib.hid (where_pg wr gp c P k (by omega) HPr.out HCr.out)
        by_cases hz : slotS P k = 0
        · have HE2 : Hid (∀ i, s ≤ i → i < k + 1 → slotS P i = 0) := Lib.hid (fun i h1 h2 => by
            by_cases hik : i = k
            · subst hik; exact hz
            · exact HEM.out i h1 (by omega))
          rw [hz] at KW
          clear hz
          gi_wp2_with fail
          refine ⟨trivial, (callsIn_wide.2 KW.out).mono ?_⟩
          rintro e w3 ⟨rfl, rfl⟩
          gi_wp2_with fail
          exact ⟨⟨k + 1, s, by omega, by go_num, by omega, HE2.out, HJ.out s wr wr.drew HJs.out (ext_grown (Ext.refl wr).drew none), HCr.out.drew, ⟨HPr.out.blk.drew, HPr.out.len⟩, hWr⟩, by simp [intOf]; omega⟩
        · obtain ⟨q1, q2, q3, q4⟩ := HSL.out k hlt hz
          have hzb : ((slotS P k : Int) == 0) = false := by rw [beq_eq_false_iff_ne]; omega
          have HNZ := Lib.hid hz
          have HIL : Hid (itemL P k = (P.drop (slotA P k)).take (slotS P k)) := Lib.hid rfl
          have hPd : Pg wr.drew gp P := ⟨HPr.out.blk.drew, HPr.out.len⟩
          have hlen := hPd.sub_len (slotA P k) (slotS P k) q4
          have HLN : Hid ((itemL P k).length = slotS P k) := Lib.hid (by rw [HIL.out]; exact hlen)
          have hby := hPd.by_ (slotA P k) (slotS P k) q4
          rw [← HIL.out] at hby
          have hBj := Bys.one (c := 1024 - slotA P k) hby (by rw [HLN.out]; omega) 24
          have KJ := Lib.hid (join_any _ [itemL P k] 1 (by simp) (by simp [HLN.out]; omega) _ hBj)
          rw [HLN.out, show [itemL P k].flatten = itemL P k by simp, show [itemL P k].length = 1 from rfl] at KJ
          have hsl := fun W => slice_pg gp (slotA P k) (slotA P k + slotS P k) (by omega) q4 (by omega) W
          rw [show slotA P k + slotS P k - slotA P k = slotS P k by omega, Int.natCast_add] at hsl
          have HXk := Lib.hid (fun v A => HX.out s k v A hsk hlt HEM.out hz)
          have HYk := Lib.hid (fun v A hJ hX => HY.out s #[.int .i64 (k : Int), v] (k + 1) A hJ (HXk.out v A hX))
          clear hz hlen hby hBj hPd HIL HNZ HX HY HLN
          generalize itemL P k = L at *
          generalize slotA P k = an at *
          generalize slotS P k = sn at *
          gi_wp2_with fail
          refine ⟨trivial, (callsIn_wide.2 KW.out).mono ?_⟩
          rintro e w3 ⟨rfl, rfl⟩
          clear KW
          have hnil := fun W => nil_yield 83 (by kernel_rfl) l W
          gi_wp2_with fail
          refine ⟨trivial, (callsIn_wide.2 KJ.out).mono ?_⟩
          rintro e w4 ⟨v, rfl, hO, hE4⟩
          have hsz4 : wr.heap.size + 1 = (wr.drew.alloc (.cells #[.slice (some ⟨gp, an, none⟩) sn (1024 - an)] 24)).heap.size := by simp
          have hcl := HCr.out.lt
          have HEw : Ext wr w4 := (((Ext.refl wr).drew).alloc (.cells #[.slice (some ⟨gp, an, none⟩) sn (1024 - an)] 24)).trans hE4
          have HOlt := Lib.hid hO.lt
          have HJ4 := HJ.out s wr w4 HJs.out (ext_grown HEw none)
          obtain ⟨fn, tmps, assign, body, hy, hR⟩ := HYk.out v w4 HJ4 (hO.down (by omega))
          have HR2 := Lib.hid hR
          have HC4 := Lib.hid (HCr.out.ext HEw)
          have HP4 := Lib.hid (HPr.out.ext HEw)
          have hw4 := HEw.size
          clear KJ hO hE4 HYk HXk hR HCr HPr HJs
          gi_wp2_with fail
          refine HR2.out.mono ?_
          rintro e w5 (⟨rfl, hJ5, hk5⟩ | ⟨rfl, hJx5⟩)
          · have HJ5 := Lib.hid hJ5
            have HK5 := Lib.hid hk5
            clear hJ5 hk5
            gi_wp2_with fail
            have hbk : ∀ g t cs, Blk w4 g t cs → (g = gp ∨ g = gfn ∨ g = c) → Blk w5 g t cs := fun g t cs hb hg => by
              refine (HK5.out.2 g hb.lt ?_).trans hb
              rcases hg with hg | hg | hg
              · exact .inl (.inl hg)
              · exact .inl (.inr hg)
              · refine .inr ⟨by omega, fun hf => ?_⟩
                have := (HOlt.out g hf).1
                omega
            exact ⟨⟨k + 1, k + 1, by omega, by go_num, Nat.le_refl _, fun i h1 h2 => (by omega), HJ5.out, hbk _ _ _ HC4.out (.inr (.inr rfl)), ⟨hbk _ _ _ HP4.out.blk (.inl rfl), HP4.out.len⟩, by have := HK5.out.1; omega⟩, by simp [intOf]; omega⟩
          · have HJx5 := Lib.hid hJx5
            clear hJx5
            gi_wp2_with fail
            refine bodyPost_ret (results_none rfl _ _ _) rfl ?_
            exact ⟨⟨_, rfl⟩, .inr ⟨k + 1, HSp.out _ (by omega), HJx5.out⟩⟩
      · obtain rfl : k = m := by omega
        gi_wp2
        go_end0
        exact ⟨⟨_, rfl⟩, .inl ⟨s, HS.out s hsk (fun i h1 h2 => HEM.out i h1 h2), HJs.out⟩⟩

end Go.Proofs.Ytgbfeagoadlhmaa
