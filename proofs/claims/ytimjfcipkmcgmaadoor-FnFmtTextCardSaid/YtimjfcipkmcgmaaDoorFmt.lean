/-
  PROVED: contracts of the functions of formats.
  CONDITIONS: none.
-/
import Derived.Test.YtimjfcipkmcgmaaDoorNums
namespace Go.Proofs.YtimjfcipkmcgmaaDoor
open Go.ChangeShapes Go.WideShapes Go.ChangeAt Go.RowKit
set_option linter.unusedVariables false
def fmtOkB (n l : Int) : Bool := inR n 2 60 && inR l 0 n
abbrev fmtV (s : Bool) (n l : Int) : Value := .agg #[.bool s, .int .i64 n, .int .i64 l]
set_option maxHeartbeats 400000 in
theorem fmtOk_any (s : Bool) (n l : Int) (w : World) : Calls Tryd.prog 31 #[.agg #[.bool s, .int .i64 n, .int .i64 l]] w fun e w' => e = .returned (.bool (fmtOkB n l)) ∧ Below w.heap.size w w' := by
  go_enter Tryd.func31, Tryd.ntmps31
  go_wp2_with (go_at_call 39; refine (inRange_any _ _ _ _).mono ?_; rintro e w' ⟨rfl, rfl⟩)
  all_goals go_ret
  all_goals exact ⟨ret_bool (by simp [fmtOkB, *]), bl_alloc _ _⟩
theorem fmtOk_eq (s : Bool) (n l : Int) (w : World) {b : Bool} (h : fmtOkB n l = b) : Calls Tryd.prog 31 #[.agg #[.bool s, .int .i64 n, .int .i64 l]] w fun e w' => e = .returned (.bool b) ∧ Below w.heap.size w w' := by
  have := fmtOk_any s n l w
  rw [h] at this
  exact this
set_option maxHeartbeats 400000 in
theorem sfmtOk_any (s : Bool) (n l : Int) (w : World) : Calls Tryd.prog 14 #[.agg #[.bool s, .int .i64 n, .int .i64 l]] w fun e w' => e = .returned (.bool (fmtOkB n l)) ∧ Below w.heap.size w w' := by
  go_enter Tryd.func14, Tryd.ntmps14
  go_wp2_with (go_at_call 38; refine (l1In_any _ _ _ _).mono ?_; rintro e w' ⟨rfl, rfl⟩)
  all_goals go_ret
  all_goals exact ⟨ret_bool (by simp [fmtOkB, *]), bl_alloc _ _⟩
theorem sfmtOk_eq (s : Bool) (n l : Int) (w : World) {b : Bool} (h : fmtOkB n l = b) : Calls Tryd.prog 14 #[.agg #[.bool s, .int .i64 n, .int .i64 l]] w fun e w' => e = .returned (.bool b) ∧ Below w.heap.size w w' := by
  have := sfmtOk_any s n l w
  rw [h] at this
  exact this
end Go.Proofs.YtimjfcipkmcgmaaDoor
