/-
  PROVED: contracts of the functions of eighths of a turn.
  CONDITIONS: none.
-/
import Derived.Test.YtimjfcipkmcgmaaTurnP
import Derived.Deep.RegionWith
namespace Go.Proofs.Ytimjfcipkmcgmaa
open Go.ChangeShapes Go.WideShapes Go.ChangeAt Go.RowKit
set_option linter.unusedVariables false
set_option maxHeartbeats 400000 in
theorem l20Sign_any (a : Int) (w : World) : Calls Try.prog 53 #[.int .i64 a] w fun e w' => e = .returned (.int .i64 (sgnI a)) ∧ w = w' := by
  by_cases h : a < 0
  · rw [show sgnI a = -1 from if_pos h]
    go_enter Try.func53, Try.ntmps53
    go_wp2
    go_ret
    exact ⟨rfl, rfl⟩
  · rw [show sgnI a = 1 from if_neg h]
    go_enter Try.func53, Try.ntmps53
    go_wp2
    go_ret
    exact ⟨rfl, rfl⟩
set_option maxHeartbeats 1000000 in
theorem l20Wave_any (n : Int) (w : World) (h0 : 0 ≤ n) (h1 : n ≤ 4) : Calls Try.prog 54 #[.int .i64 n] w fun e w' => e = .returned (.int .i64 (waveI (n % 4))) ∧ Below w.heap.size w w' := by
  have hn : n = 0 ∨ n = 1 ∨ n = 2 ∨ n = 3 ∨ n = 4 := by omega
  clear h0 h1
  rcases hn with rfl | rfl | rfl | rfl | rfl
  all_goals
    go_enter Try.func54, Try.ntmps54
    go_wp2
    go_ret
    exact ⟨rfl, bl_alloc _ _⟩
set_option maxHeartbeats 2000000 in
theorem waveOf_any (fn n : Int) (w : World) (hf : fn = 6 ∨ fn = 7 ∨ fn = 8) (h0 : 0 ≤ n) (h1 : n ≤ 7) : Calls Try.prog 48 #[.int .i64 fn, .int .i64 n] w fun e w' => e = .returned (.tuple #[.int .i64 (wvN fn n), .bool (wvB fn n)]) ∧ Below w.heap.size w w' := by
  have hn : n = 0 ∨ n = 1 ∨ n = 2 ∨ n = 3 ∨ n = 4 ∨ n = 5 ∨ n = 6 ∨ n = 7 := by omega
  clear h0 h1
  rcases hf with rfl | rfl | rfl <;> rcases hn with rfl | rfl | rfl | rfl | rfl | rfl | rfl | rfl
  all_goals
    go_enter Try.func48, Try.ntmps48
    go_wp2
    go_ret2
    exact ⟨rfl, bl_alloc _ _⟩
end Go.Proofs.Ytimjfcipkmcgmaa
