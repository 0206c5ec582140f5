/-
  PROVED: contracts of small functions of numbers: modes, policies, steps, how many arguments a function takes.
  CONDITIONS: none.
-/
import Derived.Test.YtldidbejieekcaaNums
namespace Go.Proofs.Ytldidbejieekcaa
open Go.ChangeShapes Go.WideShapes Go.ChangeAt Go.RowKit
set_option linter.unusedVariables false
set_option maxHeartbeats 400000 in
theorem isMode_any (n : Int) (w : World) : Calls Try.prog 40 #[.int .i64 n] w fun e w' => e = .returned (.bool (inR n 0 4)) ∧ w = w' := by
  go_enter Try.func40, Try.ntmps40
  go_wp2_with (go_at_call 45; refine (inRange_any _ _ _ _).mono ?_; rintro e w' ⟨rfl, rfl⟩)
  go_ret
  exact ⟨rfl, rfl⟩
set_option maxHeartbeats 400000 in
theorem isPolicy_any (n : Int) (w : World) : Calls Try.prog 41 #[.int .i64 n] w fun e w' => e = .returned (.bool (inR n 0 2)) ∧ w = w' := by
  go_enter Try.func41, Try.ntmps41
  go_wp2_with (go_at_call 45; refine (inRange_any _ _ _ _).mono ?_; rintro e w' ⟨rfl, rfl⟩)
  go_ret
  exact ⟨rfl, rfl⟩
set_option maxHeartbeats 400000 in
theorem l5Mode_any (n : Int) (w : World) : Calls Try.prog 37 #[.int .i64 n] w fun e w' => e = .returned (.bool (inR n 0 4)) ∧ w = w' := by
  go_enter Try.func37, Try.ntmps37
  go_wp2_with (go_at_call 38; refine (l1In_any _ _ _ _).mono ?_; rintro e w' ⟨rfl, rfl⟩)
  go_ret
  exact ⟨rfl, rfl⟩
set_option maxHeartbeats 400000 in
theorem isFun_any0 (n : Int) (w : World) : Calls Try.prog 53 #[.int .i64 n] w fun e w' => e = .returned (.bool (inR n 0 14)) ∧ w = w' := by
  go_enter Try.func53, Try.ntmps53
  go_wp2_with (go_at_call 45; refine (inRange_any _ _ _ _).mono ?_; rintro e w' ⟨rfl, rfl⟩)
  go_ret
  exact ⟨rfl, rfl⟩
def turnB (n : Int) : Int := if n = 0 then 1 else if n = 1 then 0 else if 2 ≤ n ∧ n ≤ 4 then n else -1
theorem turnB_out {n : Int} (h : ¬ (0 ≤ n ∧ n ≤ 4)) : turnB n = -1 := by unfold turnB; rw [if_neg (by omega), if_neg (by omega), if_neg (by omega)]
def takesB (n : Int) : Int := if n = 0 ∨ n = 1 ∨ n = 3 ∨ n = 10 then 2 else if 0 ≤ n ∧ n ≤ 14 then 1 else 0
theorem takesB_two {n : Int} (h : n = 0 ∨ n = 1 ∨ n = 3 ∨ n = 10) : takesB n = 2 := by unfold takesB; rw [if_pos h]
theorem takesB_one {n : Int} (h : ¬ (n = 0 ∨ n = 1 ∨ n = 3 ∨ n = 10)) (h2 : 0 ≤ n ∧ n ≤ 14) : takesB n = 1 := by unfold takesB; rw [if_neg h, if_pos h2]
theorem takesB_none {n : Int} (h2 : ¬ (0 ≤ n ∧ n ≤ 14)) : takesB n = 0 := by unfold takesB; rw [if_neg (by omega), if_neg h2]
def stepsB (n : Int) : Int := if inR n 1 200 = true then (if n + 2 < 120 then n + 2 else 120) else 0
end Go.Proofs.Ytldidbejieekcaa
