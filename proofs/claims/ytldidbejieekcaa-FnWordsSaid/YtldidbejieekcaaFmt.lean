/-
  PROVED: contracts of the functions of formats.
  CONDITIONS: none.
-/
import Derived.Test.YtldidbejieekcaaNums
namespace Go.Proofs.Ytldidbejieekcaa
open Go.ChangeShapes Go.WideShapes Go.ChangeAt Go.RowKit
set_option linter.unusedVariables false
def fmtOkB (n l : Int) : Bool := inR n 2 60 && inR l 0 n
abbrev fmtV (s : Bool) (n l : Int) : Value := .agg #[.bool s, .int .i64 n, .int .i64 l]
set_option maxHeartbeats 400000 in
theorem fmtOk_any (s : Bool) (n l : Int) (w : World) : Calls Try.prog 39 #[.agg #[.bool s, .int .i64 n, .int .i64 l]] w fun e w' => e = .returned (.bool (fmtOkB n l)) ∧ Below w.heap.size w w' := by
  go_enter Try.func39, Try.ntmps39
  go_wp2_with (go_at_call 45; refine (inRange_any _ _ _ _).mono ?_; rintro e w' ⟨rfl, rfl⟩)
  all_goals go_ret
  all_goals exact ⟨ret_bool (by simp [fmtOkB, *]), bl_alloc _ _⟩
theorem fmtOk_eq (s : Bool) (n l : Int) (w : World) {b : Bool} (h : fmtOkB n l = b) : Calls Try.prog 39 #[.agg #[.bool s, .int .i64 n, .int .i64 l]] w fun e w' => e = .returned (.bool b) ∧ Below w.heap.size w w' := by
  have := fmtOk_any s n l w
  rw [h] at this
  exact this
set_option maxHeartbeats 400000 in
theorem sfmtOk_any (s : Bool) (n l : Int) (w : World) : Calls Try.prog 36 #[.agg #[.bool s, .int .i64 n, .int .i64 l]] w fun e w' => e = .returned (.bool (fmtOkB n l)) ∧ Below w.heap.size w w' := by
  go_enter Try.func36, Try.ntmps36
  go_wp2_with (go_at_call 38; refine (l1In_any _ _ _ _).mono ?_; rintro e w' ⟨rfl, rfl⟩)
  all_goals go_ret
  all_goals exact ⟨ret_bool (by simp [fmtOkB, *]), bl_alloc _ _⟩
theorem sfmtOk_eq (s : Bool) (n l : Int) (w : World) {b : Bool} (h : fmtOkB n l = b) : Calls Try.prog 36 #[.agg #[.bool s, .int .i64 n, .int .i64 l]] w fun e w' => e = .returned (.bool b) ∧ Below w.heap.size w w' := by
  have := sfmtOk_any s n l w
  rw [h] at this
  exact this
set_option maxHeartbeats 400000 in
theorem toFmt_eq (s : Bool) (n l : Int) (w : World) : Calls Try.prog 21 #[.agg #[.bool s, .int .i64 n, .int .i64 l]] w fun e w' => e = .returned (.agg #[.bool s, .int .i64 n, .int .i64 l]) ∧
    ((w.alloc (.cells #[.bool s, .int .i64 n, .int .i64 l] 23)).alloc (.cells #[.bool s, .int .i64 n, .int .i64 l] 27)).alloc (.cells #[.bool s, .int .i64 n, .int .i64 l] 27) = w' := by
  go_enter Try.func21, Try.ntmps21
  go_wp2
  exact bodyPost_ret (v := .agg #[.bool s, .int .i64 n, .int .i64 l]) (by simp [results, Try.results21, go_sem]) rfl ⟨rfl, rfl⟩
theorem toFmt_any (s : Bool) (n l : Int) (w : World) : Calls Try.prog 21 #[.agg #[.bool s, .int .i64 n, .int .i64 l]] w fun e w' => e = .returned (.agg #[.bool s, .int .i64 n, .int .i64 l]) ∧ Below w.heap.size w w' :=
  (toFmt_eq s n l w).mono fun e w' h => ⟨h.1, by rw [← h.2]; exact bl_al (bl_al (bl_alloc _ _) _) _⟩
end Go.Proofs.Ytldidbejieekcaa
