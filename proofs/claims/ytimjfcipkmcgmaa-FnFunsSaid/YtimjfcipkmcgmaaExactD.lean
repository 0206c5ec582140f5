/-
  PROVED: what is exact, the reference's and the program's, case by case; the law on it.
  CONDITIONS: none.
-/
import Derived.Test.YtimjfcipkmcgmaaTurnV
import Derived.Test.YtimjfcipkmcgmaaDom
import Derived.Test.YtimjfcipkmcgmaaSmall
namespace Go.Proofs.Ytimjfcipkmcgmaa
open Go.ChangeShapes Go.WideShapes Go.ChangeAt Go.RowKit
set_option linter.unusedVariables false
def ExB (fn : Int) (turns : Bool) (f a b n k : Int) (ok : Bool) : Prop :=
  (∀ W : World, Calls Try.prog 10 #[.int .i64 fn, .bool turns, .int .i64 f, .int .i64 a, .int .i64 b] W fun e w' => e = .returned (.tuple #[.int .i64 n, .int .i64 k, .bool ok]) ∧ Below W.heap.size W w') ∧
  (∀ W : World, Calls Try.prog 9 #[.int .i64 fn, .bool turns, .int .i64 f, .int .i64 a, .int .i64 b] W fun e w' => e = .returned (.tuple #[.int .i64 n, .int .i64 k, .bool ok]) ∧ Below W.heap.size W w')
theorem trN_bd (fn D a : Int) : -1 ≤ trN fn D a ∧ trN fn D a ≤ 1 := by
  have hw : ∀ t, -1 ≤ waveI t ∧ waveI t ≤ 1 := by intro t; unfold waveI; split <;> (try split) <;> simp
  unfold trN wvN
  split
  · split
    · exact hw _
    · split
      · simp
      · split <;> exact hw _
  · simp
theorem trN_no {fn D a : Int} (h : trB fn D a = false) : trN fn D a = 0 := by
  unfold trB at h
  unfold trN
  split
  · rename_i h1
    rw [if_pos h1] at h
    unfold wvB at h
    unfold wvN
    split
    · rename_i h2; rw [if_pos h2] at h; cases h
    · rename_i h2
      rw [if_neg h2] at h
      split
      · rfl
      · rename_i h3; rw [if_neg h3] at h; cases h
  · rfl
end Go.Proofs.Ytimjfcipkmcgmaa
