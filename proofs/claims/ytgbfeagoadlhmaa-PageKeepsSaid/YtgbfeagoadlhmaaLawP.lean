
/-
  A page as an argument of a law; an array of three ints.
-/
import Derived.Test.YtgbfeagoadlhmaaLaw
import Derived.Test.YtgbfeagoadlhmaaPageL
set_option linter.unusedVariables false
set_option maxRecDepth 100000
set_option linter.unusedSimpArgs false
namespace Go.Proofs.Ytgbfeagoadlhmaa
open Go.ChangeShapes Go.WideShapes Go.ChangeAt Go.RowKit

theorem okWide_arr5 {P : Program} {W : World} {r : Reach} {b0 n : Nat} {t e : TypeId} {v : Value} (ht : P.underlying t = some (.array n e)) (h : Value.okWide P W r b0 t v) : ∃ xs : Array Value, v = .agg xs := by
  simp only [Value.okWide, ht] at h
  obtain ⟨cs, h1, _⟩ := h
  exact ⟨cs, h1⟩

/-- an array of whole numbers, opened -/
theorem open_arr_ints {H : Type} {enc : TypeId × Value → H} {P : Program} {W : World} {r : Reach} {base n : Nat} {t e : TypeId} {k : IntKind} {v : Value} {d : DataW H} {p : List MemPlace} (ht : P.underlying t = some (.array n e)) (he : P.underlying e = some (.int k)) (hc : P.cellsOf e = 1) (hn : P.cellsOf t = n)
    (hv : Value.okWide P W r base t v) (h : DataW.Trod enc P W 0 (fun _ => true) true t v d p) : ∃ zs : List Int, zs.length = n ∧ v = .agg (zs.map (Value.int k)).toArray ∧ ∀ z ∈ zs, (Lit.int k z).wf = true := by
  obtain ⟨cs, rfl⟩ := okWide_arr5 ht hv
  obtain ⟨fuel, hf⟩ := h
  obtain ⟨xs, m, _, _, hl, hx, hi⟩ := DataW.trod_array ht hf
  simp only [Value.cells] at hl hi
  rw [hn] at hl
  rw [hc] at hi
  obtain ⟨zs, hzl, hz⟩ := list_of (0 : Int) (fun i z => cs[i]? = some (.int k z) ∧ (Lit.int k z).wf = true) n (fun i hin => by
    have h1 := hi i hin
    rw [List.getElem?_eq_getElem (by omega)] at h1
    obtain ⟨z, h2, _, h3⟩ := DataW.trod_int he h1
    refine ⟨z, ?_, h3⟩
    rw [Nat.mul_one, List.drop_eq_getElem_cons (by omega)] at h2
    simp only [List.take_succ_cons, List.take_zero, List.cons.injEq, and_true] at h2
    rw [← Array.getElem?_toList, List.getElem?_eq_getElem (by omega), h2])
  refine ⟨zs, hzl, ?_, ?_⟩
  · congr 1
    apply Array.ext
    · simp; rw [← Array.length_toList]; omega
    · intro i h1 h2
      simp at h2
      have h3 := (hz i (by omega)).1
      rw [Array.getElem?_eq_getElem h1] at h3
      simp only [Option.some.injEq] at h3
      rw [h3]
      simp [List.getD_eq_getElem?_getD, h2]
  · intro z hzm
    obtain ⟨i, hi2, rfl⟩ := List.getElem_of_mem hzm
    have := (hz i (by omega)).2
    simpa [List.getD_eq_getElem?_getD, hi2] using this

theorem open_page {H : Type} {enc : TypeId × Value → H} {W : World} {base : Nat} {v : Value} {d : DataW H} {p : List MemPlace} (hv : Value.okWide Try.prog W .any base 23 v)
    (h : DataW.Trod enc Try.prog W 0 (fun _ => true) true 23 v d p) : ∃ P : List UInt8, P.length = 1024 ∧ v = .agg (cells8 P) := by
  obtain ⟨zs, h1, rfl, h2⟩ := open_arr_ints (n := 1024) (e := 5) (k := .u8) (by kernel_rfl) Try.underlying5 (by kernel_rfl) (by kernel_rfl) hv h
  refine ⟨toBytes zs, by simp [toBytes, h1], ?_⟩
  congr 2
  unfold toBytes
  rw [List.map_map]
  apply List.map_congr_left
  intro z hz
  have hb := wf_byte (h2 z hz)
  simp only [Function.comp, u8, UInt8.toNat_ofNat', Value.int.injEq, true_and]
  omega

def zpg : Value := .agg (cells8 zeroP)
def zpd {H : Type} : DataW H := .agg (List.replicate 1024 (.lit (.int .u8 0)))
theorem zpg_cells : zpg.cells.toList = List.replicate 1024 (Value.int .u8 0) := by
  simp [zpg, Value.cells, cells8, zeroP, u8]
theorem zpg_types : Try.prog.cellTypes Try.prog.depth 23 = some (List.replicate 1024 5) := by decide +kernel
theorem zpg_ok (W : World) (r : Reach) (base : Nat) : Value.okWide Try.prog W r base 23 zpg := by
  simp only [Value.okWide, Try.pgUnd]
  refine ⟨_, rfl, by rw [cells8_size, zeroP_length]; kernel_rfl, _, zpg_types, ⟨1, by simp [cells8_size, zeroP_length]⟩, fun i v hv => ⟨5, ?_, ?_⟩⟩
  · rw [List.getElem?_replicate, if_pos (by have := Nat.mod_lt i (show 0 < 1024 by omega); simpa using this)]
  · have hvz : v = .int .u8 0 := by
      rw [← Array.getElem?_toList] at hv
      have := zpg_cells
      simp only [zpg, Value.cells] at this
      rw [this, List.getElem?_replicate] at hv
      split at hv <;> simp_all
    subst hvz
    simp [Cell.okWide, Cell.ok, Try.underlying5, IntKind.has, IntKind.min, IntKind.max, IntKind.signed, IntKind.bits]
theorem mapM_same {α β : Type} {f : α → Option β} {c : β} : ∀ L : List α, (∀ a ∈ L, f a = some c) → L.mapM f = some (List.replicate L.length c)
  | [], _ => rfl
  | a :: L, h => by
    rw [List.mapM_cons, h a (by simp), mapM_same L (fun b hb => h b (by simp [hb]))]
    rfl
theorem zpg_trod {H : Type} {enc : TypeId × Value → H} (W : World) : DataW.Trod enc Try.prog W 0 (fun _ => true) true 23 zpg zpd [] := by
  obtain ⟨m, hm⟩ := shut_int (enc := enc) (P := Try.prog) (w := W) (base := 0) (spare := fun _ => true) (held := true) Try.underlying5 (show (Lit.int .u8 0).wf = true by decide)
  simp only [Value.cells] at hm
  refine ⟨m + 1, ?_⟩
  rw [zpg_cells]
  unfold DataW.trod
  rw [show Try.prog.underlying 23 = some (.array 1024 5) by kernel_rfl]
  have hce : Try.prog.cellsOf 5 = 1 := by kernel_rfl
  have hcp : Try.prog.cellsOf 23 = 1024 := by kernel_rfl
  have hM := mapM_same (f := fun i => DataW.trod enc Try.prog W 0 (fun _ => true) true m 5 (((List.replicate 1024 (Value.int .u8 0)).drop (i * 1)).take 1)) (c := (.lit (.int .u8 0), [])) (List.range 1024) (fun i hi => by
    have hi' : i < 1024 := by simpa using hi
    rw [Nat.mul_one, List.drop_replicate, List.take_replicate, show min 1 (1024 - i) = 1 by omega]
    exact hm)
  simp only [hce, hcp, List.length_replicate, bne_self_eq_false, Bool.false_eq_true, if_false, hM, Option.map_some, List.length_range]
  simp [zpd]
theorem zpd_weights {H : Type} : (zpd (H := H)).weights Try.prog 23 = [] := by
  unfold zpd DataW.weights
  rw [show Try.prog.underlying 23 = some (.array 1024 5) by kernel_rfl]
  show DataW.weightsAll Try.prog 5 (List.replicate 1024 _) = []
  have : ∀ n, DataW.weightsAll (H := H) Try.prog 5 (List.replicate n (.lit (.int .u8 0))) = [] := by
    intro n
    induction n with
    | zero => rfl
    | succ n ih => rw [List.replicate_succ]; show _ ++ _ = []; rw [ih]; rfl
  exact this 1024

/-- a call with pages of noughts -/
theorem witness_pages {H : Type} {enc : TypeId × Value → H} {os : Os} {f : FuncId} {fn : Func} {s : ChangeSpec} (args : Array Value) (ds : List (DataW H))
    (hv : (World.plainHolding Try.checked.prog os ⟨#[], args, []⟩).variablesB Try.checked.prog = true)
    (hr : ((World.plainHolding Try.checked.prog os ⟨#[], args, []⟩).heap.toList.drop Try.checked.prog.globals.size).take ((begin Try.checked.prog (fun _ _ => 0) default).world.heap.size - Try.checked.prog.globals.size) =
      (begin Try.checked.prog (fun _ _ => 0) default).world.heap.toList.drop Try.checked.prog.globals.size)
    (hin : Try.checked.prog.inits.idxOf? f = none) (hfn : Try.checked.prog.funcs[f]? = some fn) (hb : fn.body.isSome = true) (ho : fn.ours = false) (hnf : fn.nfree = 0) (hsz : args.size = fn.params.size)
    (hok : ∀ W, ∀ (j : Nat) t v, fn.params[j]? = some t → args[j]? = some v → Value.okWide Try.checked.prog W .any (World.holding Try.checked.prog os ⟨#[], args, []⟩).heap.size t v)
    (hvs : s.vars = []) (htr : ∀ W, DataW.TrodAll enc Try.checked.prog W 0 (fun _ => true) true fn.params.toList args.toList ds [])
    (hpl : Try.checked.prog.platform = "linux/amd64/v1") (hw : DataW.weightsEach Try.checked.prog (fn.params.toList ++ s.plain.varTypes Try.checked.prog) (ds ++ []) = []) :
    ∃ (w : World) (tape : Tape) (i : Input), w.os = os ∧ (w.forCall tape i).Shaped Try.checked.prog ∧ i.vars = [] ∧ Input.okWide Try.checked.prog (w.forCall tape i) .any w.heap.size f i ∧
      s.pre6 enc Try.checked.prog fn [] false (w.forCall tape i).memory i.args ∧ ({} : Assume).holds Try.checked.prog (lone (Frame.enter Try.checked.prog f i.args .normal) [] (w.forCall tape i)) := by
  have hWh : ∀ W, DataW.Whole enc Try.checked.prog fn.params.toList s.vars false W args.toList ds [] [] := fun W => ⟨[], [], htr W, by rw [hvs]; rfl, rfl, fun b off h => by simp at h, fun h => by cases h⟩
  refine ⟨World.holding Try.checked.prog os ⟨#[], args, []⟩, fun _ _ => 0, ⟨#[], args, []⟩, rfl, World.shaped_of_B hv hr, rfl, ⟨fun o ho => by simp at ho, fun g hg => by simp at hg, hin, fn, hfn, hb, ho, hnf, hsz, hok _⟩, ⟨⟨ds, [], [], hWh _, rfl⟩, hpl, ds, [], [], hWh _, ?_⟩, ?_⟩
  · have : (DataW.weightsEach Try.checked.prog (fn.params.toList ++ s.plain.varTypes Try.checked.prog) (ds ++ [])).all (· ≤ reachBytes) = true := by rw [hw]; rfl
    exact this
  · simp only [Assume.holds]
    exact ⟨by simp, by simp, by simp, by simp, by simp⟩

end Go.Proofs.Ytgbfeagoadlhmaa
