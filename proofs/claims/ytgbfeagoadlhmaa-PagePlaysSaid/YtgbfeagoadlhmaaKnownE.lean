
/-
  The chapter's rows on pages, plain.
-/
import Derived.Test.YtgbfeagoadlhmaaPageJ
set_option linter.unusedVariables false
set_option linter.unusedSimpArgs false
namespace Go.Proofs.Ytgbfeagoadlhmaa
open Go.RowKit Pl

def kp0 : List UInt8 := initP 3
def kp1 : List UInt8 := insR kp0 [97, 98]
def kp2 : List UInt8 := insR kp1 [99]
def kp3 : List UInt8 := dropR kp2 0
def kp4 : List UInt8 := insR kp3 [120, 121, 122]
set_option maxRecDepth 100000 in
theorem k5_1 : insE kp0 2 = 0 ∧ insN kp0 2 = 0 ∧ kp1.length = 1024 := by decide +kernel
set_option maxRecDepth 100000 in
theorem k5_2 : insE kp1 1 = 0 ∧ insN kp1 1 = 1 ∧ kp2.length = 1024 := by decide +kernel
set_option maxRecDepth 100000 in
theorem k5_3 : itemE kp2 0 = 0 ∧ kp3.length = 1024 := by decide +kernel
set_option maxRecDepth 100000 in
theorem k5_4 : insE kp3 3 = 0 ∧ insN kp3 3 = 0 ∧ kp4.length = 1024 := by decide +kernel
set_option maxRecDepth 100000 in
theorem k5_5 : RoomN kp4 = 988 ∧ at8 kp4 12 = 3 ∧ itemE kp4 1 = 0 ∧ itemB kp4 1 = [99] ∧ itemE kp4 2 = 6 ∧ setE kp4 1 1 = 0 ∧ setE kp4 1 2 = 2 := by decide +kernel
def kp5 : List UInt8 := setR kp4 1 [100]
def kp6 : List UInt8 := setR kp4 1 [100, 101]
set_option maxRecDepth 100000 in
theorem k5_7 : kp5.length = 1024 ∧ kp6.length = 1024 := by decide +kernel
theorem Df.self {P : List UInt8} {L f t : Nat} (h : Df P P L f t) : f = 1024 ∧ t = 1024 := by
  rcases h.1 with h1 | ⟨_, _, _, h1, _⟩
  · exact h1
  · exact absurd rfl h1
set_option maxRecDepth 100000 in
theorem k5_6 : rightB zeroP = false ∧ goodB zeroP = false := by decide +kernel

end Go.Proofs.Ytgbfeagoadlhmaa
