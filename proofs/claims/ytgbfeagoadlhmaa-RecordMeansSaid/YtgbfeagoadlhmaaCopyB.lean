
/-
  copy, whatever the two lengths are. Over any program.
-/
import Derived.Test.YtgbfeagoadlhmaaCopy
set_option linter.unusedVariables false
set_option linter.unusedSimpArgs false
namespace Go.Proofs.Ytgbfeagoadlhmaa
open Go.RowKit Pl
section
variable {P : Program} {e : TypeId} {w : World}

theorem run_copy8g {t : TypeId} (hb : Byt P t e) (ty : TypeId) {g : Nat} {T : TypeId} {D : List UInt8} (h : Blk w g T (cells8 D)) {A : Option Addr} {l : List UInt8} (hs : By w A l) (o dl dc m c : Nat) (hml : l.length = min m dl) (hfit : o + l.length ≤ D.length) (Ad : Option Addr) (hAd : 0 < l.length → Ad = some ⟨g, o, none⟩) :
    ∃ w', (Builtin.copy_ #[t, t] ty #[.slice Ad dl dc, .slice A m c]).run P w = .ok (.int .i64 (l.length : Int)) w' ∧ Blk w' g T (cells8 (over D o l)) ∧ Upd w w' g := by
  obtain ⟨i, hi, hz, hsz, hby⟩ := info_parts hb.info
  have hone : (P.info? e).map (·.size) = some 1 := by rw [hi]; simp [hsz]
  by_cases h0 : l.length = 0
  · have : l = [] := List.eq_nil_of_length_eq_zero h0
    subst this
    refine ⟨w, ?_, ?_, Upd.refl _ _⟩
    · rw [run_copy_none w t t ty e Ad A dl dc m c hb.und hone (by rw [List.length_nil] at hml; exact hml.symm)]
      rfl
    · simpa [over] using h
  · obtain ⟨b, off, rfl, hc⟩ := hs.at_ (by omega)
    rw [hAd (by omega)]
    have hby2 : By w (some ⟨b, off, none⟩) l := .inr ⟨b, off, rfl, hc⟩
    have hr := run_copy_row (P := P) w t t ty e g o dl dc ⟨b, off, none⟩ m c (cells8 D) T (l.map u8) hb.und hone h (by rw [List.length_map]; exact hml) hby2.news (by rw [cells8_size]; simp; omega) (oneCell_u8 l)
    refine ⟨_, hr.trans (by simp only [List.length_map]; rfl), ?_, Upd.row w g _⟩
    have hh := setRow_heap w g (cells8 D) ((cells8 D).toList.take o ++ l.map u8 ++ (cells8 D).toList.drop (o + (l.map u8).length)).toArray T (0, 0) h
    rw [List.length_map] at hh
    unfold Blk
    rw [hh]
    congr 2
    simp [cells8, over, List.map_take, List.map_drop]

theorem wpList_copy8g {t : TypeId} (hb : Byt P t e) {ops : Array Oper} {rest : List Oper} {op : Oper} {a : Act} {Q : Exit → Act → World → Prop} (hgd : op.guard = none) (d s : Operand)
    (ho : op.op = .call { callee := .builtin .copy, args := #[d, s], argTypes := #[t, t] }) {g : Nat} {T : TypeId} {D : List UInt8} (h : Blk w g T (cells8 D)) {A : Option Addr} {l : List UInt8} (hs : By w A l) (o dl dc m c : Nat) (hml : l.length = min m dl) (Ad : Option Addr)
    (hd : a.eval d = .slice Ad dl dc) (hx : a.eval s = .slice A m c) (hfit : o + l.length ≤ D.length) (hAd : 0 < l.length → Ad = some ⟨g, o, none⟩)
    (hk : ∀ w', Blk w' g T (cells8 (over D o l)) → Upd w w' g → wpList P ops Q rest (a.put op.dst (.int .i64 (l.length : Int))) w') : wpList P ops Q (op :: rest) a w := by
  refine wpList_plain hgd fun _ hK => ?_
  obtain ⟨w', hr, h2, h3⟩ := run_copy8g hb op.type h hs o dl dc m c hml hfit Ad hAd
  unfold Oper.wp execOp
  simp only [ho, resolve, invoke, builtin, Sem.run_bind, Sem.run_pure, Result.andThen_ok, List.map_toArray, List.map_cons, List.map_nil, hd, hx, hr]
  exact hK _ _ (hk w' h2 h3)
end

end Go.Proofs.Ytgbfeagoadlhmaa
