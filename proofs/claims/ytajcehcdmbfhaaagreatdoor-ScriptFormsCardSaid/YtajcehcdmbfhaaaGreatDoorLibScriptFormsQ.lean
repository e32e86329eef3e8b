/-
  Own library of this claim, part 31: texts one behind the other (SfA).
-/
import Derived.Test.YtajcehcdmbfhaaaGreatDoorLibD
set_option linter.unusedVariables false
set_option linter.unusedSimpArgs false

/-
  ScriptForms: the lines, and those that are none.
-/

namespace Go.Proofs.YtajcehcdmbfhaaaGreatDoor
open Go Go.Abs Go.RowKit
set_option maxRecDepth 100000

def lineF : Nat → List UInt8
  | 0 => [102,108,101,101,116,32,49]
  | 1 => [112,97,115,115,32,48,32,53]
  | 2 => [100,101,108,105,118,101,114,32,48]
  | 3 => [108,111,115,101,32,48]
  | 4 => [100,111,117,98,108,101,32,48]
  | 5 => [99,114,97,115,104,32,48,32,51]
  | 6 => [117,112,32,48]
  | 7 => [115,97,118,101,32,48]
  | 8 => [111,117,116,115,32,48]
  | 9 => [110,101,116]
  | 10 => [99,111,100,101]
  | _ => []
def mutF (s : List UInt8) : Nat → List UInt8
  | 0 => s ++ [32,49]
  | 1 => 120 :: s
  | 2 => s.take (s.length - 1) ++ [122]
  | _ => s ++ [10,110,101,116,32,110,101,116]
def firstF : List UInt8 := [102,108,101,101,116,32,49,10]
def textF (s : List UInt8) : List UInt8 := firstF ++ (s ++ [10])
def badF (k h : Nat) : List UInt8 := textF (mutF (lineF k) h)
theorem textF_ne (s : List UInt8) : textF s ≠ [] := by simp [textF, firstF]
theorem lines_drop : ∀ k : Nat, k < 11 → (List.drop k ([.str [102,108,101,101,116,32,49], .str [112,97,115,115,32,48,32,53], .str [100,101,108,105,118,101,114,32,48], .str [108,111,115,101,32,48], .str [100,111,117,98,108,101,32,48], .str [99,114,97,115,104,32,48,32,51], .str [117,112,32,48], .str [115,97,118,101,32,48], .str [111,117,116,115,32,48], .str [110,101,116], .str [99,111,100,101]] : List AV))[0]? = some (.str (lineF k))
  | 0, _ | 1, _ | 2, _ | 3, _ | 4, _ | 5, _ | 6, _ | 7, _ | 8, _ | 9, _ | 10, _ => rfl
  | n + 11, h => absurd h (by omega)
end Go.Proofs.YtajcehcdmbfhaaaGreatDoor
