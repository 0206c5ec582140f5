/-
  PROVED: contracts of small functions of numbers: modes, policies, steps, how many arguments a function takes.
  CONDITIONS: none.
-/
import Derived.Test.YtflipnpgcanonaaNums
namespace Go.Proofs.Ytflipnpgcanonaa
open Go.ChangeShapes Go.WideShapes Go.ChangeAt Go.RowKit
set_option linter.unusedVariables false
def turnB (n : Int) : Int := if n = 0 then 1 else if n = 1 then 0 else if 2 ≤ n ∧ n ≤ 4 then n else -1
theorem turnB_out {n : Int} (h : ¬ (0 ≤ n ∧ n ≤ 4)) : turnB n = -1 := by unfold turnB; rw [if_neg (by omega), if_neg (by omega), if_neg (by omega)]
def takesB (n : Int) : Int := if n = 0 ∨ n = 1 ∨ n = 3 ∨ n = 10 then 2 else if 0 ≤ n ∧ n ≤ 14 then 1 else 0
theorem takesB_two {n : Int} (h : n = 0 ∨ n = 1 ∨ n = 3 ∨ n = 10) : takesB n = 2 := by unfold takesB; rw [if_pos h]
theorem takesB_one {n : Int} (h : ¬ (n = 0 ∨ n = 1 ∨ n = 3 ∨ n = 10)) (h2 : 0 ≤ n ∧ n ≤ 14) : takesB n = 1 := by unfold takesB; rw [if_neg h, if_pos h2]
theorem takesB_none {n : Int} (h2 : ¬ (0 ≤ n ∧ n ≤ 14)) : takesB n = 0 := by unfold takesB; rw [if_neg (by omega), if_neg h2]
def stepsB (n : Int) : Int := if inR n 1 200 = true then (if n + 2 < 120 then n + 2 else 120) else 0
set_option maxHeartbeats 400000 in
theorem iStepsFor_any (n : Int) (w : World) : Calls Try.prog 19 #[.int .i64 n] w fun e w' => e = .returned (.int .i64 (stepsB n)) ∧ w = w' := by
  by_cases h : 1 ≤ n ∧ n ≤ 200
  · obtain ⟨h1, h2⟩ := h
    have hin : inR n 1 200 = true := by rw [inR_iff]; exact ⟨h1, h2⟩
    unfold stepsB
    rw [if_pos hin]
    by_cases h3 : n + 2 < 120
    · rw [if_pos h3]
      go_enter Try.func19, Try.ntmps19
      go_wp2_with (go_at_call 21; refine (inRange_any _ _ _ _).mono ?_; rintro e w' ⟨rfl, rfl⟩)
      all_goals go_ret
      all_goals exact ⟨ret_int (by first | rfl | omega | (simp; omega)), rfl⟩
    · rw [if_neg h3]
      go_enter Try.func19, Try.ntmps19
      go_wp2_with (go_at_call 21; refine (inRange_any _ _ _ _).mono ?_; rintro e w' ⟨rfl, rfl⟩)
      all_goals go_ret
      all_goals exact ⟨ret_int (by first | rfl | omega | (simp; omega)), rfl⟩
  · have hin : inR n 1 200 = false := by rw [inR_not]; exact h
    unfold stepsB
    rw [if_neg (by simp [hin])]
    go_enter Try.func19, Try.ntmps19
    go_wp2_with (go_at_call 21; refine (inRange_any _ _ _ _).mono ?_; rintro e w' ⟨rfl, rfl⟩)
    go_ret
    exact ⟨rfl, rfl⟩
set_option maxHeartbeats 400000 in
theorem l1Min_any (a b : Int) (w : World) : Calls Try.prog 27 #[.int .i64 a, .int .i64 b] w fun e w' => e = .returned (.int .i64 (if a < b then a else b)) ∧ w = w' := by
  by_cases h : a < b
  · rw [if_pos h]
    go_enter Try.func27, Try.ntmps27
    go_wp2
    go_ret
    exact ⟨rfl, rfl⟩
  · rw [if_neg h]
    go_enter Try.func27, Try.ntmps27
    go_wp2
    go_ret
    exact ⟨rfl, rfl⟩
set_option maxHeartbeats 400000 in
theorem sStepsFor_any (n : Int) (w : World) : Calls Try.prog 18 #[.int .i64 n] w fun e w' => e = .returned (.int .i64 (stepsB n)) ∧ w = w' := by
  by_cases h : 1 ≤ n ∧ n ≤ 200
  · obtain ⟨h1, h2⟩ := h
    have hin : inR n 1 200 = true := by rw [inR_iff]; exact ⟨h1, h2⟩
    unfold stepsB
    rw [if_pos hin]
    generalize hm : (if n + 2 < 120 then n + 2 else 120) = m
    have HM := Lib.hid hm; clear hm
    go_enter Try.func18, Try.ntmps18
    go_wp2_with (first
      | (go_at_call 20; refine (l1In_any _ _ _ _).mono ?_; rintro e w' ⟨rfl, rfl⟩)
      | (go_at_call 27; refine (l1Min_any _ _ _).mono ?_; rintro e w' ⟨rfl, rfl⟩))
    all_goals go_ret
    all_goals exact ⟨ret_int (by rw [← HM.out]; first | rfl | (rw [if_pos (by omega)]; done) | (rw [if_pos (by omega)]; rfl) | (rw [if_neg (by omega)]; done) | (rw [if_neg (by omega)]; rfl)), rfl⟩
  · have hin : inR n 1 200 = false := by rw [inR_not]; exact h
    unfold stepsB
    rw [if_neg (by simp [hin])]
    go_enter Try.func18, Try.ntmps18
    go_wp2_with (go_at_call 20; refine (l1In_any _ _ _ _).mono ?_; rintro e w' ⟨rfl, rfl⟩)
    go_ret
    exact ⟨rfl, rfl⟩
set_option maxHeartbeats 400000 in
theorem walkFnExactStepsFor (a0 : Int) (w : World) (w0 : (Lit.int .i64 a0).wf = true) :
    Calls Try.prog 8 #[.int .i64 a0] w fun e w' => e = .returned (.bool true) ∧ Below w.heap.size w w' := by
  clear w0
  go_enter Try.func8, Try.ntmps8
  go_wp2_with (first
    | (go_at_call 18; refine (sStepsFor_any _ _).mono ?_; rintro e w1 ⟨rfl, rfl⟩)
    | (go_at_call 19; refine (iStepsFor_any _ _).mono ?_; rintro e w2 ⟨rfl, rfl⟩))
  go_ret
  exact ⟨rfl, Below.refl _ _⟩
end Go.Proofs.Ytflipnpgcanonaa
