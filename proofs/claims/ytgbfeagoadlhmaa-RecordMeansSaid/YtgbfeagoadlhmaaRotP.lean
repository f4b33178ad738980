
/-
  Rot, plain: which errors a sum shows. No program in sight.
-/
import Derived.Test.YtgbfeagoadlhmaaCrcP
set_option linter.unusedVariables false
set_option linter.unusedSimpArgs false
namespace Go.Proofs.Ytgbfeagoadlhmaa.Pl

/-! ## the order of the register's shift -/
def shN (r : Nat) : Nat := (r / 2) ^^^ (r % 2 * 2197175160)
theorem sh_toNat (r : BitVec 32) : (sh r).toNat = shN r.toNat := by
  unfold sh shN
  have e : r.getLsbD 0 = decide (r.toNat % 2 = 1) := by rw [BitVec.getLsbD, Nat.testBit_zero]
  rw [BitVec.toNat_xor, BitVec.toNat_ushiftRight, Nat.shiftRight_eq_div_pow, e]
  rcases Nat.mod_two_eq_zero_or_one r.toNat with h | h
  · rw [h]; rfl
  · rw [h]; rfl
def itsN : Nat → Nat → Nat
  | 0, r => r
  | n + 1, r => itsN n (shN r)
theorem its_toNat : ∀ (n : Nat) (r : BitVec 32), (its n r).toNat = itsN n r.toNat
  | 0, r => rfl
  | n + 1, r => by simp only [its, itsN]; rw [its_toNat n, sh_toNat]
theorem itsN_add : ∀ (m n r : Nat), itsN (m + n) r = itsN n (itsN m r)
  | 0, n, r => by simp [itsN]
  | m + 1, n, r => by rw [show m + 1 + n = (m + n) + 1 by omega]; simp only [itsN]; exact itsN_add m n _
/-- n steps from r lead to t, and none of them to 1 -/
noncomputable def runB (n : Nat) : Nat → Nat → Bool := Nat.rec (fun r t => Nat.beq r t) (fun _ ih r t => (Nat.beq (shN r) 1).rec (ih (shN r) t) false) n
theorem runB_zero (r t : Nat) : runB 0 r t = Nat.beq r t := rfl
theorem runB_succ (n r t : Nat) : runB (n + 1) r t = (Nat.beq (shN r) 1).rec (runB n (shN r) t) false := rfl
theorem runB_says : ∀ (n r t : Nat), runB n r t = true → itsN n r = t ∧ ∀ s, 0 < s → s ≤ n → itsN s r ≠ 1
  | 0, r, t, h => ⟨by rw [runB_zero] at h; exact Nat.eq_of_beq_eq_true h, fun s h0 h1 => by omega⟩
  | n + 1, r, t, h => by
    rw [runB_succ] at h
    cases hb : Nat.beq (shN r) 1 with
    | true => rw [hb] at h; cases h
    | false =>
      rw [hb] at h
      obtain ⟨h1, h2⟩ := runB_says n (shN r) t h
      refine ⟨h1, fun s h0 hs => ?_⟩
      match s, h0 with
      | s + 1, _ =>
        simp only [itsN]
        by_cases hz : s = 0
        · subst hz
          intro e
          have := Nat.ne_of_beq_eq_false hb
          exact this e
        · exact h2 s (by omega) (by omega)
noncomputable def allB : List Nat → Bool
  | g :: h :: t => (runB 300 g h).rec false (allB (h :: t))
  | _ => true
theorem allB_says : ∀ (L : List Nat) (g : Nat), allB (g :: L) = true → ∀ s, 0 < s → s ≤ 300 * L.length → itsN s g ≠ 1
  | [], g, _, s, h0, h1 => by simp at h1; omega
  | h :: t, g, hA, s, h0, h1 => by
    unfold allB at hA
    cases hb : runB 300 g h with
    | false => rw [hb] at hA; cases hA
    | true =>
      rw [hb] at hA
      obtain ⟨e, h2⟩ := runB_says 300 g h hb
      by_cases hs : s ≤ 300
      · exact h2 s h0 hs
      · have := allB_says t h hA (s - 300) (by omega) (by simp at h1; omega)
        rw [show s = 300 + (s - 300) by omega, itsN_add, e]
        exact this
/-- each 300th state from 1 on -/
def marks : List Nat := [793500100, 1988048428, 44929475, 67575871, 312540051, 685980792, 289080780, 3519685495, 225752159, 2801565473, 3701307636, 4059740330,
  1693971040, 2743294818, 2537870999, 2477127472, 1115722913, 1223704076, 2859060766, 1420103753, 4291699246, 1808064158, 3063631255, 797767765,
  4092114134, 801517373, 3684056232, 1600271727, 3656008785, 193810867, 1324220758, 4001502135, 94670335, 587082976, 2561777189, 823757175,
  1817147992, 471302686, 1559012582, 206893133, 2431901312, 716170907, 2168508904, 1533459679, 3907242549, 2154875321, 658086647, 3050293800,
  4237720851, 597652785, 2648741945, 1506409234, 4196121432, 335284677, 2876920747, 1018917162, 1292230812, 531784989, 3747302378, 2565661964,
  2444451348, 2171158945, 3005017088, 474475824, 1687959676, 1445602535, 146390563, 2689143988, 1198784924, 2841647605, 123770419, 4146448354,
  4041325733, 673604079, 2627224333, 3137308596, 2156201410, 2291220905, 437252346, 3597962882, 2423807190, 337235921, 1705983386, 2969723588,
  2294699351, 2522304829, 423237649, 3144531773, 657500084, 380239823, 342199965, 3886591363, 4241840856, 3283162862, 2843935227, 688836174,
  3242852206, 4071032009, 847104457, 3995317953, 1527133294, 1740486692, 4151674877, 3576387797, 799198599, 2761455409, 437697706, 2176580067,
  15364344, 3376245826, 3024486485, 2482204203, 3393690583, 1503831822, 797660816, 2180283184, 162018952, 826823094, 3099164223, 3012011742,
  3547742064, 4165460099, 2189971818, 1523783419, 1219642601, 919519212, 4096663237, 2228415450, 3457775267, 837064225, 1682701810, 2173626471,
  928945430, 119028070, 3019516327, 814239654, 2130279336, 1609314361, 3441101322, 2882219923, 2454987190, 1733983042, 1602080448, 20658262,
  304172304, 3306592764, 1742631931, 816553854, 2631569897, 3974475317, 3572269948, 1542644893, 1093664306, 1867147765, 1584010572, 2972529515,
  1394982541, 1403567842, 2292242270, 3007152406, 216482649, 1741288046, 1493675963, 4088583290, 223333990, 1394049727, 1334422859, 1525666409,
  1745119562, 3604991008, 295374688, 3756244666, 2734853733, 3383034172, 447411189, 2422026831, 3667188686, 3187522219, 1320844799, 1151415862,
  3783316266, 526705270, 166747771, 3495703841, 3390400848, 817679798, 925709373, 2090978500, 156077822, 3311670805, 2533567768, 2224791620,
  4207041767, 810652002, 702215291, 4171895474, 2310547782, 117209062, 486435347, 4099616317, 2787879666, 3655804404, 2204962836, 524640223,
  730567186, 994267449, 3199039069, 1743697189, 4232540077, 1908412046, 158247873, 3442589268, 1280064336, 3335409559, 2315254956, 2099445294,
  1509149131, 32690386, 1263290207, 2649293857, 3299082567, 623015485, 1751353374, 3436039708, 4226393561, 3767112240, 2046575722, 2317214153,
  2479542229, 3170981916, 1684607424, 3676214192, 3947079092, 3297906090, 4219567727, 2314307880, 1234241502, 1984904134, 2119088984, 3950353958,
  1107995298]
theorem marks_ok : allB (1 :: marks) = true := by decide +kernel
theorem order_big (k : Nat) (h0 : 0 < k) (h1 : k ≤ 72300) : its k 1#32 ≠ 1#32 := by
  intro e
  have h := congrArg BitVec.toNat e
  rw [its_toNat] at h
  exact allB_says marks 1 marks_ok k h0 (by rw [show marks.length = 241 by decide +kernel]; omega) h

/-! ## nothing but nought becomes nought -/
theorem sh_top (r : BitVec 32) : (sh r).getLsbD 31 = r.getLsbD 0 := by
  unfold sh
  rw [BitVec.getLsbD_xor, BitVec.getLsbD_ushiftRight, BitVec.getLsbD_of_ge r (1 + 31) (by omega)]
  cases r.getLsbD 0 <;> simp [poly]
theorem sh_nought {r : BitVec 32} (h : sh r = 0#32) : r = 0#32 := by
  have h1 := sh_top r
  rw [h] at h1
  have h0 : r.getLsbD 0 = false := by simpa using h1.symm
  rw [sh_even r h0] at h
  apply BitVec.eq_of_getLsbD_eq
  intro i hi
  match i with
  | 0 => rw [h0]; simp
  | i + 1 =>
    have : (r >>> 1).getLsbD i = false := by rw [h]; simp
    rw [BitVec.getLsbD_ushiftRight, Nat.add_comm] at this
    rw [this]; simp
theorem its_nought : ∀ (n : Nat) {r : BitVec 32}, its n r = 0#32 → r = 0#32
  | 0, r, h => h
  | n + 1, r, h => sh_nought (its_nought n h)
theorem xor_nought {a b : BitVec 32} (h : a ^^^ b = 0#32) : a = b := by
  apply BitVec.eq_of_getLsbD_eq
  intro i hi
  have := congrArg (fun x => BitVec.getLsbD x i) h
  simp at this
  exact this
theorem its_inj (n : Nat) {a b : BitVec 32} (h : its n a = its n b) : a = b := by
  apply xor_nought
  apply its_nought n
  rw [its_xor, h]
  simp

/-! ## an odd number of bits -/
def xorTo (f : Nat → Bool) : Nat → Bool
  | 0 => false
  | n + 1 => xorTo f n ^^ f n
theorem xorTo_shift (f : Nat → Bool) : ∀ n, xorTo (fun i => f (1 + i)) n = (xorTo f (n + 1) ^^ f 0)
  | 0 => by simp [xorTo]
  | n + 1 => by
    have ih := xorTo_shift f n
    unfold xorTo
    rw [ih, Nat.add_comm 1 n]
    cases xorTo f (n + 1) <;> cases f 0 <;> cases f (n + 1) <;> rfl
theorem xorTo_add (f g : Nat → Bool) : ∀ n, xorTo (fun i => f i ^^ g i) n = (xorTo f n ^^ xorTo g n)
  | 0 => rfl
  | n + 1 => by
    unfold xorTo
    rw [xorTo_add f g n]
    cases xorTo f n <;> cases xorTo g n <;> cases f n <;> cases g n <;> rfl
def par (r : BitVec 32) : Bool := xorTo r.getLsbD 32
theorem par_xor (a b : BitVec 32) : par (a ^^^ b) = (par a ^^ par b) := by
  unfold par
  rw [← xorTo_add]
  congr 1
  funext i
  rw [BitVec.getLsbD_xor]
theorem par_shr (r : BitVec 32) : par (r >>> 1) = (par r ^^ r.getLsbD 0) := by
  unfold par
  rw [show (r >>> 1).getLsbD = fun i => r.getLsbD (1 + i) by funext i; rw [BitVec.getLsbD_ushiftRight], xorTo_shift]
  rw [show xorTo r.getLsbD (32 + 1) = (xorTo r.getLsbD 32 ^^ r.getLsbD 32) from rfl, BitVec.getLsbD_of_ge r 32 (by omega)]
  simp
theorem par_sh (r : BitVec 32) : par (sh r) = par r := by
  unfold sh
  rw [par_xor, par_shr]
  cases h : r.getLsbD 0 with
  | false => rw [if_neg (by simp), show par 0#32 = false by decide]; simp
  | true => rw [if_pos rfl, show par poly = true by decide]; simp
theorem par_its : ∀ (n : Nat) (r : BitVec 32), par (its n r) = par r
  | 0, r => rfl
  | n + 1, r => by simp only [its]; rw [par_its n, par_sh]

/-! ## a bit that is turned -/
/-- what a bit adds that has m bits from it on -/
def eb (m : Nat) : BitVec 32 := its m 1#32
theorem eb_ne (m : Nat) : eb m ≠ 0#32 := fun h => absurd (its_nought m h) (by decide)
theorem eb_par (m : Nat) : par (eb m) = true := by unfold eb; rw [par_its]; decide
theorem one_shl (t : Nat) (h : t < 32) : its t (1#32 <<< t) = 1#32 := by
  rw [its_even]
  · apply BitVec.eq_of_getLsbD_eq
    intro i hi
    rw [BitVec.getLsbD_ushiftRight, BitVec.getLsbD_shiftLeft]
    by_cases h1 : t + i < 32
    · simp [h1]
    · have : i ≠ 0 := by omega
      simp [h1, this]
  · intro i hi
    rw [BitVec.getLsbD_shiftLeft]
    simp [hi]
theorem its_bit (m t : Nat) (ht : t < 32) (hm : t ≤ m) : its m (1#32 <<< t) = eb (m - t) := by
  rw [show m = t + (m - t) by omega, its_add, one_shl t ht, show t + (m - t) - t = m - t by omega]; rfl
theorem eb_two {m1 m2 : Nat} (h : eb m1 = eb m2) (h1 : m1 ≤ 72300) (h2 : m2 ≤ 72300) : m1 = m2 := by
  unfold eb at h
  rcases Nat.lt_trichotomy m1 m2 with hl | he | hg
  · rw [show m2 = (m2 - m1) + m1 by omega, its_add] at h
    exact absurd (its_inj m1 h).symm (order_big (m2 - m1) (by omega) (by omega))
  · exact he
  · rw [show m1 = (m1 - m2) + m2 by omega, its_add] at h
    exact absurd (its_inj m2 h) (order_big (m1 - m2) (by omega) (by omega))

/-- a list with one bit turned -/
def flipB (c : UInt8) (j : Nat) : UInt8 := UInt8.ofNat (c.toNat ^^^ 2 ^ j)
def flipL (l : List UInt8) (k : Nat) : List UInt8 := l.set (k / 8) (flipB (l.getD (k / 8) 0) (k % 8))
theorem flipL_length (l : List UInt8) (k : Nat) : (flipL l k).length = l.length := by simp [flipL]
theorem flipB_nat (c : UInt8) (j : Nat) (h : j < 8) : (flipB c j).toNat = c.toNat ^^^ 2 ^ j := by
  have hc := c.toNat_lt
  have hp : 2 ^ j < 2 ^ 8 := Nat.pow_lt_pow_right (by decide) h
  unfold flipB
  rw [UInt8.toNat_ofNat', Nat.mod_eq_of_lt (Nat.xor_lt_two_pow (n := 8) (by omega) hp)]
theorem flipB_twice (c : UInt8) (j : Nat) (h : j < 8) : flipB (flipB c j) j = c := by
  apply UInt8.toNat.inj
  rw [flipB_nat _ _ h, flipB_nat _ _ h, Nat.xor_assoc, Nat.xor_self, Nat.xor_zero]
theorem b32_flip (c : UInt8) (j : Nat) (h : j < 8) : b32 (flipB c j) = b32 c ^^^ (1#32 <<< j) := by
  have hc := c.toNat_lt
  have hp : 2 ^ j < 2 ^ 8 := Nat.pow_lt_pow_right (by decide) h
  apply BitVec.eq_of_toNat_eq
  unfold b32
  rw [flipB_nat _ _ h, BitVec.toNat_xor, BitVec.toNat_ofNat, BitVec.toNat_ofNat, BitVec.toNat_shiftLeft, Nat.shiftLeft_eq]
  have h1 : c.toNat ^^^ 2 ^ j < 2 ^ 8 := Nat.xor_lt_two_pow (by omega) hp
  rw [Nat.mod_eq_of_lt (by omega), Nat.mod_eq_of_lt (by omega), Nat.mod_eq_of_lt]
  · simp
  · simp; omega
theorem reg_flip : ∀ (l : List UInt8) (k : Nat) (r : BitVec 32), k < 8 * l.length → reg r (flipL l k) = reg r l ^^^ eb (8 * l.length - k)
  | [], k, r, h => by simp at h
  | c :: t, k, r, h => by
    by_cases hk : k < 8
    · have e1 : flipL (c :: t) k = flipB c k :: t := by
        unfold flipL
        rw [Nat.div_eq_of_lt hk, Nat.mod_eq_of_lt hk]
        simp
      rw [e1, reg_cons, reg_cons]
      have e2 : tk r (flipB c k) = its 8 (1#32 <<< k) ^^^ tk r c := by
        unfold tk
        rw [b32_flip c k hk, ← its_xor]
        congr 1
        rw [← BitVec.xor_assoc, BitVec.xor_comm]
      rw [e2, reg_split, BitVec.xor_comm]
      congr 1
      unfold zer
      rw [← its_add, its_bit _ k (by omega) (by omega)]
      congr 1
      simp
      omega
    · have e1 : flipL (c :: t) k = c :: flipL t (k - 8) := by
        unfold flipL
        rw [show k / 8 = (k - 8) / 8 + 1 by omega, show k % 8 = (k - 8) % 8 by omega]
        simp
      rw [e1, reg_cons, reg_cons, reg_flip t (k - 8) _ (by simp at h; omega)]
      congr 2
      simp
      omega
theorem not_xor (a b : BitVec 32) : ~~~ (a ^^^ b) = ~~~ a ^^^ b := by
  ext i hi
  simp
theorem crc_flip (l : List UInt8) (k : Nat) (h : k < 8 * l.length) : crc (flipL l k) = crc l ^^^ eb (8 * l.length - k) := by
  unfold crc
  rw [reg_flip l k _ h, not_xor]
theorem flipL_twice (l : List UInt8) (k : Nat) (h : k < 8 * l.length) : flipL (flipL l k) k = l := by
  unfold flipL
  rw [List.set_set]
  have hk : k / 8 < l.length := by omega
  have e : (l.set (k / 8) (flipB (l.getD (k / 8) 0) (k % 8))).getD (k / 8) 0 = flipB (l.getD (k / 8) 0) (k % 8) := by
    simp [List.getD_eq_getElem?_getD, hk]
  rw [e, flipB_twice _ _ (by omega)]
  apply List.ext_getElem?
  intro i
  rw [List.getElem?_set]
  split
  · rename_i hi; subst hi; simp [hk, List.getD_eq_getElem?_getD]
  · rfl

/-! ## sums add up -/
def xorL : List UInt8 → List UInt8 → List UInt8 := List.zipWith (fun a b => UInt8.ofNat (a.toNat ^^^ b.toNat))
theorem xorL_length (a b : List UInt8) (h : a.length = b.length) : (xorL a b).length = a.length := by simp [xorL, h]
theorem b32_xor (a b : UInt8) : b32 (UInt8.ofNat (a.toNat ^^^ b.toNat)) = b32 a ^^^ b32 b := by
  have ha := a.toNat_lt
  have hb := b.toNat_lt
  have h1 : a.toNat ^^^ b.toNat < 2 ^ 8 := Nat.xor_lt_two_pow (by omega) (by omega)
  apply BitVec.eq_of_toNat_eq
  unfold b32
  rw [UInt8.toNat_ofNat', BitVec.toNat_xor, BitVec.toNat_ofNat, BitVec.toNat_ofNat, BitVec.toNat_ofNat, Nat.mod_eq_of_lt (by omega), Nat.mod_eq_of_lt (by omega), Nat.mod_eq_of_lt (by omega), Nat.mod_eq_of_lt (by omega)]
theorem reg_xorL : ∀ (a b : List UInt8) (p q : BitVec 32), a.length = b.length → reg (p ^^^ q) (xorL a b) = reg p a ^^^ reg q b
  | [], [], p, q, _ => rfl
  | [], _ :: _, p, q, h => by simp at h
  | _ :: _, [], p, q, h => by simp at h
  | x :: a, y :: b, p, q, h => by
    rw [show xorL (x :: a) (y :: b) = UInt8.ofNat (x.toNat ^^^ y.toNat) :: xorL a b from rfl, reg_cons, reg_cons, reg_cons]
    have e : tk (p ^^^ q) (UInt8.ofNat (x.toNat ^^^ y.toNat)) = tk p x ^^^ tk q y := by
      unfold tk
      rw [b32_xor, ← its_xor]
      congr 1
      ext i hi
      simp only [BitVec.getElem_xor]
      generalize p[i] = u1; generalize q[i] = u2; generalize (b32 x)[i] = u3; generalize (b32 y)[i] = u4
      cases u1 <;> cases u2 <;> cases u3 <;> cases u4 <;> rfl
    rw [e]
    exact reg_xorL a b _ _ (by simpa using h)
theorem crc_xor3 (a b c : List UInt8) (h1 : a.length = b.length) (h2 : a.length = c.length) : crc (xorL (xorL a b) c) = crc a ^^^ crc b ^^^ crc c := by
  unfold crc
  have e : ~~~0#32 = ((~~~0#32) ^^^ (~~~0#32)) ^^^ (~~~0#32) := by decide
  rw [show reg (~~~0#32) (xorL (xorL a b) c) = reg (((~~~0#32) ^^^ (~~~0#32)) ^^^ (~~~0#32)) (xorL (xorL a b) c) by rw [← e]]
  rw [reg_xorL _ _ _ _ (by rw [xorL_length a b h1]; exact h2), reg_xorL _ _ _ _ h1]
  ext i hi
  simp only [BitVec.getElem_xor, BitVec.getElem_not]
  generalize (reg (~~~0#32) a)[i] = u1; generalize (reg (~~~0#32) b)[i] = u2; generalize (reg (~~~0#32) c)[i] = u3
  cases u1 <;> cases u2 <;> cases u3 <;> rfl

/-! ## a burst -/
/-- a page whose bits from a place on are turned as a word's first k bits say -/
def burst (l : List UInt8) (p : Nat) (x : BitVec 32) : Nat → List UInt8
  | 0 => l
  | k + 1 => if x.getLsbD k then flipL (burst l p x k) (p + k) else burst l p x k
theorem burst_length (l : List UInt8) (p : Nat) (x : BitVec 32) : ∀ k, (burst l p x k).length = l.length
  | 0 => rfl
  | k + 1 => by
    unfold burst
    split
    · rw [flipL_length, burst_length l p x k]
    · exact burst_length l p x k
theorem crc_burst (l : List UInt8) (p : Nat) (x : BitVec 32) : ∀ k, k ≤ 32 → p + k ≤ 8 * l.length → crc (burst l p x k) = crc l ^^^ its (8 * l.length - p) (low x k)
  | 0, _, _ => by
    unfold burst low
    rw [its_zero, xor_zero]
  | k + 1, h1, h2 => by
    have ih := crc_burst l p x k (by omega) (by omega)
    unfold burst low
    split
    · rw [crc_flip _ _ (by rw [burst_length]; omega), ih, burst_length, its_xor, its_bit _ k (by omega) (by omega), BitVec.xor_assoc]
      congr 3
      omega
    · exact ih
theorem burst_none (l : List UInt8) (p : Nat) (x : BitVec 32) : ∀ k, k ≤ 32 → low x k = 0#32 → burst l p x k = l
  | 0, _, _ => rfl
  | k + 1, h1, h => by
    have hb := low_bit x k (by omega) (k + 1)
    rw [h] at hb
    have hk : x.getLsbD k = false := by simpa using hb.symm
    unfold low at h
    unfold burst
    rw [hk] at h ⊢
    simp only [Bool.false_eq_true, if_false] at h ⊢
    exact burst_none l p x k (by omega) h
theorem burst_shows (l : List UInt8) (p : Nat) (x : BitVec 32) (k : Nat) (h1 : k ≤ 32) (h2 : p + k ≤ 8 * l.length) (h : crc (burst l p x k) = crc l) : burst l p x k = l := by
  rw [crc_burst l p x k h1 h2] at h
  have h3 : its (8 * l.length - p) (low x k) = 0#32 := by
    have : (crc l ^^^ its (8 * l.length - p) (low x k)) ^^^ crc l = 0#32 := by rw [h]; simp
    rw [BitVec.xor_comm (crc l), BitVec.xor_assoc] at this
    simpa using this
  exact burst_none l p x k h1 (its_nought _ h3)

/-! ## one to three bits -/
theorem add_nought {a e : BitVec 32} (h : a ^^^ e = a) : e = 0#32 := by
  have : (a ^^^ e) ^^^ a = 0#32 := by rw [h]; simp
  rw [BitVec.xor_comm a e, BitVec.xor_assoc] at this
  simpa using this
theorem one_shows (l : List UInt8) (i : Nat) (hi : i < 8 * l.length) : crc (flipL l i) ≠ crc l := by
  rw [crc_flip l i hi]
  intro h
  exact eb_ne _ (add_nought h)
theorem two_shows (l : List UInt8) (i j : Nat) (hi : i < 8 * l.length) (hj : j < 8 * l.length) (hl : l.length ≤ 9000) (h : crc (flipL (flipL l i) j) = crc l) : flipL (flipL l i) j = l := by
  rw [crc_flip _ j (by rw [flipL_length]; exact hj), crc_flip l i hi, flipL_length, BitVec.xor_assoc] at h
  have h1 := eb_two (xor_nought (add_nought h)) (by omega) (by omega)
  obtain rfl : i = j := by omega
  exact flipL_twice l i hi
theorem three_shows (l : List UInt8) (i j k : Nat) (hi : i < 8 * l.length) (hj : j < 8 * l.length) (hk : k < 8 * l.length) : crc (flipL (flipL (flipL l i) j) k) ≠ crc l := by
  rw [crc_flip _ k (by rw [flipL_length, flipL_length]; exact hk), crc_flip _ j (by rw [flipL_length]; exact hj), crc_flip l i hi, BitVec.xor_assoc, BitVec.xor_assoc]
  intro h
  have h1 := congrArg par (add_nought h)
  rw [par_xor, par_xor, eb_par, eb_par, eb_par] at h1
  exact absurd h1 (by decide)

end Go.Proofs.Ytgbfeagoadlhmaa.Pl
