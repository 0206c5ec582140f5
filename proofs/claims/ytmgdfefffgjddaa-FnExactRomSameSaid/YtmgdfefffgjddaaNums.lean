/-
  PROVED: contracts of the functions of plain numbers.
  CONDITIONS: none.
-/
import Derived.Test.YtmgdfefffgjddaaKit
namespace Go.Proofs.Ytmgdfefffgjddaa
open Go.ChangeShapes Go.WideShapes Go.ChangeAt Go.RowKit
set_option linter.unusedVariables false
def inR (n l m : Int) : Bool := decide (l ≤ n) && decide (n ≤ m)
theorem inR_iff (n l m : Int) : inR n l m = true ↔ l ≤ n ∧ n ≤ m := by simp [inR]
theorem inR_not (n l m : Int) : inR n l m = false ↔ ¬ (l ≤ n ∧ n ≤ m) := by rw [← inR_iff]; simp
set_option maxHeartbeats 400000 in
theorem inRange_any (n l m : Int) (w : World) : Calls Try.prog 57 #[.int .i64 n, .int .i64 l, .int .i64 m] w fun e w' => e = .returned (.bool (inR n l m)) ∧ w = w' := by
  go_enter Try.func57, Try.ntmps57
  go_wp2
  · go_ret
    exact ⟨ret_bool (by simp [inR, *]), rfl⟩
  · go_ret
    exact ⟨ret_bool (by simp [inR]; omega), rfl⟩
set_option maxHeartbeats 400000 in
theorem l1In_any (n l m : Int) (w : World) : Calls Try.prog 56 #[.int .i64 n, .int .i64 l, .int .i64 m] w fun e w' => e = .returned (.bool (inR n l m)) ∧ w = w' := by
  go_enter Try.func56, Try.ntmps56
  go_wp2
  · go_ret
    exact ⟨ret_bool (by simp [inR, *]), rfl⟩
  · go_ret
    exact ⟨ret_bool (by simp [inR]; omega), rfl⟩
end Go.Proofs.Ytmgdfefffgjddaa
