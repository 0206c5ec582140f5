/-
  PROVED: contracts of the check of a great number's limbs, and the law on it.
  CONDITIONS: none.
-/
import Derived.Test.YtimjfcipkmcgmaaRows2
namespace Go.Proofs.Ytimjfcipkmcgmaa
open Go.ChangeShapes Go.WideShapes Go.ChangeAt Go.RowKit
set_option linter.unusedVariables false
def limbsIn (zs : List Int) (j : Nat) : Bool := (zs.take j).all fun z => inR z 0 16777215
def lastOk (zs : List Int) : Bool := zs.length == 0 || zs.getD (zs.length - 1) 0 != 0
def natOkB (zs : List Int) : Bool := decide (zs.length ≤ 48) && limbsIn zs zs.length && lastOk zs
theorem natOkB_nil : natOkB [] = true := by decide
theorem natOkB_long {zs : List Int} {n : Nat} (hz : zs.length = n) (h : ¬ n ≤ 48) : natOkB zs = false := by
  unfold natOkB
  rw [hz, decide_eq_false h]; rfl
theorem limbsIn_succ {zs : List Int} {j : Nat} (h : j < zs.length) : limbsIn zs (j + 1) = (limbsIn zs j && inR (zs.getD j 0) 0 16777215) := by
  unfold limbsIn
  rw [List.take_succ_eq_append_getElem h, List.all_append]
  simp [List.getD_eq_getElem?_getD, List.getElem?_eq_getElem h]
theorem natOkB_out {zs : List Int} {j : Nat} (h : j < zs.length) (hr : inR (zs.getD j 0) 0 16777215 = false) : natOkB zs = false := by
  have : limbsIn zs zs.length = false := by
    unfold limbsIn
    rw [List.take_of_length_le (by omega), List.all_eq_false]
    exact ⟨_, getD_mem h, by rw [hr]; simp⟩
  unfold natOkB
  rw [this]; simp
theorem natOkB_end {zs : List Int} {m : Nat} (hz : zs.length = m + 1) (hm : m + 1 ≤ 48) (h : limbsIn zs (m + 1) = true) : natOkB zs = (zs.getD m 0 != 0) := by
  unfold natOkB lastOk
  rw [hz, h, decide_eq_true hm]
  simp
end Go.Proofs.Ytimjfcipkmcgmaa
