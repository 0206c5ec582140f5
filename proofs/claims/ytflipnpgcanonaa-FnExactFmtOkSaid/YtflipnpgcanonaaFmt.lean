/-
  PROVED: contracts of the functions of formats.
  CONDITIONS: none.
-/
import Derived.Test.YtflipnpgcanonaaNums
namespace Go.Proofs.Ytflipnpgcanonaa
open Go.ChangeShapes Go.WideShapes Go.ChangeAt Go.RowKit
set_option linter.unusedVariables false
def fmtOkB (n l : Int) : Bool := inR n 2 60 && inR l 0 n
abbrev fmtV (s : Bool) (n l : Int) : Value := .agg #[.bool s, .int .i64 n, .int .i64 l]
set_option maxHeartbeats 400000 in
theorem fmtOk_any (s : Bool) (n l : Int) (w : World) : Calls Try.prog 11 #[.agg #[.bool s, .int .i64 n, .int .i64 l]] w fun e w' => e = .returned (.bool (fmtOkB n l)) ∧ Below w.heap.size w w' := by
  go_enter Try.func11, Try.ntmps11
  go_wp2_with (go_at_call 21; refine (inRange_any _ _ _ _).mono ?_; rintro e w' ⟨rfl, rfl⟩)
  all_goals go_ret
  all_goals exact ⟨ret_bool (by simp [fmtOkB, *]), bl_alloc _ _⟩
set_option maxHeartbeats 400000 in
theorem sfmtOk_any (s : Bool) (n l : Int) (w : World) : Calls Try.prog 9 #[.agg #[.bool s, .int .i64 n, .int .i64 l]] w fun e w' => e = .returned (.bool (fmtOkB n l)) ∧ Below w.heap.size w w' := by
  go_enter Try.func9, Try.ntmps9
  go_wp2_with (go_at_call 20; refine (l1In_any _ _ _ _).mono ?_; rintro e w' ⟨rfl, rfl⟩)
  all_goals go_ret
  all_goals exact ⟨ret_bool (by simp [fmtOkB, *]), bl_alloc _ _⟩
set_option maxHeartbeats 400000 in
theorem toFmt_any (s : Bool) (n l : Int) (w : World) : Calls Try.prog 10 #[.agg #[.bool s, .int .i64 n, .int .i64 l]] w fun e w' => e = .returned (.agg #[.bool s, .int .i64 n, .int .i64 l]) ∧ Below w.heap.size w w' := by
  go_enter Try.func10, Try.ntmps10
  go_wp2
  exact bodyPost_ret (v := .agg #[.bool s, .int .i64 n, .int .i64 l]) (by simp [results, Try.results10, go_sem]) rfl ⟨rfl, bl_al (bl_al (bl_alloc _ _) _) _⟩
set_option maxHeartbeats 400000 in
theorem walkFnExactFmtOk (a0 : Bool) (a1 : Int) (a2 : Int) (w : World) (w1 : (Lit.int .i64 a1).wf = true) (w2 : (Lit.int .i64 a2).wf = true) :
    Calls Try.prog 4 #[.agg #[.bool a0, .int .i64 a1, .int .i64 a2]] w fun e w' => e = .returned (.bool true) ∧ Below w.heap.size w w' := by
  clear w1 w2
  have hB := Below.refl (w.alloc (.cells #[.bool a0, .int .i64 a1, .int .i64 a2] 24)).heap.size (w.alloc (.cells #[.bool a0, .int .i64 a1, .int .i64 a2] 24))
  go_enter Try.func4, Try.ntmps4
  go_wp2_with (first
    | (go_at_call 10; refine (toFmt_any _ _ _ _).mono ?_; rintro e w1 ⟨rfl, hb⟩; have hB := bl_step hB hb; obtain ⟨hc, hz⟩ := kept_box hB; clear hb)
    | (go_at_call 9; refine (sfmtOk_any _ _ _ _).mono ?_; rintro e w1 ⟨rfl, hb⟩; have hB := bl_step hB hb; obtain ⟨hc, hz⟩ := kept_box hB; clear hb)
    | (go_at_call 11; refine (fmtOk_any _ _ _ _).mono ?_; rintro e w1 ⟨rfl, hb⟩; have hB := bl_step hB hb; obtain ⟨hc, hz⟩ := kept_box hB; clear hb))
  go_ret
  exact ⟨rfl, bl_step (bl_alloc _ _) hB⟩
end Go.Proofs.Ytflipnpgcanonaa
