/-
  PROVED: contracts of small functions of numbers: modes, policies, steps, how many arguments a function takes.
  CONDITIONS: none.
-/
import Derived.Test.YtimjfcipkmcgmaaNums
namespace Go.Proofs.Ytimjfcipkmcgmaa
open Go.ChangeShapes Go.WideShapes Go.ChangeAt Go.RowKit
set_option linter.unusedVariables false
set_option maxHeartbeats 400000 in
theorem l1Bit_any (b : Bool) (w : World) : Calls Try.prog 27 #[.bool b] w fun e w' => e = .returned (.int .i64 (if b = true then 1 else 0)) ∧ w = w' := by
  cases b
  all_goals
    go_enter Try.func27, Try.ntmps27
    go_wp2
    go_ret
    exact ⟨rfl, rfl⟩
set_option maxHeartbeats 400000 in
theorem isFun_any0 (n : Int) (w : World) : Calls Try.prog 23 #[.int .i64 n] w fun e w' => e = .returned (.bool (inR n 0 14)) ∧ w = w' := by
  go_enter Try.func23, Try.ntmps23
  go_wp2_with (go_at_call 39; refine (inRange_any _ _ _ _).mono ?_; rintro e w' ⟨rfl, rfl⟩)
  go_ret
  exact ⟨rfl, rfl⟩
def turnB (n : Int) : Int := if n = 0 then 1 else if n = 1 then 0 else if 2 ≤ n ∧ n ≤ 4 then n else -1
theorem turnB_out {n : Int} (h : ¬ (0 ≤ n ∧ n ≤ 4)) : turnB n = -1 := by unfold turnB; rw [if_neg (by omega), if_neg (by omega), if_neg (by omega)]
def takesB (n : Int) : Int := if n = 0 ∨ n = 1 ∨ n = 3 ∨ n = 10 then 2 else if 0 ≤ n ∧ n ≤ 14 then 1 else 0
theorem takesB_two {n : Int} (h : n = 0 ∨ n = 1 ∨ n = 3 ∨ n = 10) : takesB n = 2 := by unfold takesB; rw [if_pos h]
theorem takesB_one {n : Int} (h : ¬ (n = 0 ∨ n = 1 ∨ n = 3 ∨ n = 10)) (h2 : 0 ≤ n ∧ n ≤ 14) : takesB n = 1 := by unfold takesB; rw [if_neg h, if_pos h2]
theorem takesB_none {n : Int} (h2 : ¬ (0 ≤ n ∧ n ≤ 14)) : takesB n = 0 := by unfold takesB; rw [if_neg (by omega), if_neg h2]
set_option maxHeartbeats 400000 in
theorem iTakes_any (n : Int) (w : World) : Calls Try.prog 12 #[.int .i64 n] w fun e w' => e = .returned (.int .i64 (takesB n)) ∧ w = w' := by
  by_cases h : n = 0 ∨ n = 1 ∨ n = 3 ∨ n = 10
  · rw [takesB_two h]
    rcases h with rfl | rfl | rfl | rfl
    all_goals
      go_enter Try.func12, Try.ntmps12
      go_wp2_with (go_at_call 23; refine (isFun_any0 _ _).mono ?_; rintro e w' ⟨rfl, rfl⟩)
      all_goals first | (go_ret; exact ⟨rfl, rfl⟩) | (exfalso; simp_all [inR])
  · have h0 : ¬ n = 0 := by omega
    have h1 : (n == 1) = false := by rw [beq_eq_false_iff_ne]; omega
    have h3 : (n == 3) = false := by rw [beq_eq_false_iff_ne]; omega
    have h10 : (n == 10) = false := by rw [beq_eq_false_iff_ne]; omega
    by_cases h2 : 0 ≤ n ∧ n ≤ 14
    · have hin : inR n 0 14 = true := by rw [inR_iff]; exact h2
      rw [takesB_one h h2]
      go_enter Try.func12, Try.ntmps12
      go_wp2_with (go_at_call 23; refine (isFun_any0 _ _).mono ?_; rintro e w' ⟨rfl, rfl⟩)
      go_ret
      exact ⟨rfl, rfl⟩
    · have hin : inR n 0 14 = false := by rw [inR_not]; exact h2
      rw [takesB_none h2]
      go_enter Try.func12, Try.ntmps12
      go_wp2_with (go_at_call 23; refine (isFun_any0 _ _).mono ?_; rintro e w' ⟨rfl, rfl⟩)
      go_ret
      exact ⟨rfl, rfl⟩
def stepsB (n : Int) : Int := if inR n 1 200 = true then (if n + 2 < 120 then n + 2 else 120) else 0
end Go.Proofs.Ytimjfcipkmcgmaa
