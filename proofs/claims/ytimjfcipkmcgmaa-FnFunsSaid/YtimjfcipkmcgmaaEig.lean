/-
  PROVED: the contract of the eighths of a turn.
  CONDITIONS: none.
-/
import Derived.Test.YtimjfcipkmcgmaaPart
import Derived.Test.YtimjfcipkmcgmaaSmall
namespace Go.Proofs.Ytimjfcipkmcgmaa
open Go.ChangeShapes Go.WideShapes Go.ChangeAt Go.RowKit
set_option linter.unusedVariables false
theorem pw_cast (F : Nat) : pw (F : Int) = ((2 ^ F : Nat) : Int) := by rw [pw_nat]; simp
theorem two_bd {F : Nat} (h : F ≤ 60) : 1 ≤ 2 ^ F ∧ 2 ^ F ≤ 1152921504606846976 := by
  have h1 : 2 ^ F ≤ 2 ^ 60 := Nat.pow_le_pow_right (by decide) h
  have e : (2 : Nat) ^ 60 = 1152921504606846976 := by decide
  exact ⟨Nat.one_le_two_pow, by omega⟩
theorem shl_two {F : Nat} (h : F ≤ 60) : wrap64 (2 ^ F) = ((2 ^ F : Nat) : Int) := by
  have := shl_one (F : Int) (by omega)
  rw [Int.toNat_natCast, pw_cast] at this
  exact this
set_option maxHeartbeats 1000000 in
theorem eighths_pos (a D : Int) (F : Nat) (w : World) (hF : F ≤ 60) (hD : D = ((2 ^ F : Nat) : Int)) (ha : 0 ≤ a) (ha2 : a ≤ 2305843009213693952) :
    Calls Try.prog 33 #[.int .i64 F, .int .i64 a] w fun e w' => e = .returned (.tuple #[.int .i64 (a % D * 8 / D), .bool (a % D * 8 % D == 0)]) ∧ ∃ n, w' = w.drewN n := by
  obtain ⟨hD1, hD2⟩ := two_bd hF
  have hs := shl_two hF
  rw [← hD] at hs
  have hd1 : 1 ≤ D := by omega
  have hd9 : D ≤ 1152921504606846976 := by omega
  clear hD hD1 hD2
  have hr0 : 0 ≤ a % D := Int.emod_nonneg _ (by omega)
  have hr2 : a % D < D := Int.emod_lt_of_pos _ (by omega)
  have hw1 : IntKind.i64.wrap (a % D * 8) = a % D * 8 := IntWalk.i64_in _ (by omega)
  have hq1 : 0 ≤ a % D * 8 / D := Int.ediv_nonneg (by omega) (by omega)
  have hq2 : a % D * 8 / D ≤ a % D * 8 := Int.ediv_le_self _ (by omega)
  have hw2 : IntKind.i64.wrap (a % D * 8 / D) = a % D * 8 / D := IntWalk.i64_in _ (by omega)
  have hd2 : (D == 0) = false := by rw [beq_eq_false_iff_ne]; omega
  have hd3 : ¬ D = 0 := by omega
  go_enter Try.func33, Try.ntmps33
  go_wp2_with fail
  go_quiet (fail)
  go_wp2
  go_ret2
  exact ⟨rfl, nq, rfl⟩
set_option maxHeartbeats 1000000 in
theorem eighths_neg (a D : Int) (F : Nat) (w : World) (hF : F ≤ 60) (hD : D = ((2 ^ F : Nat) : Int)) (ha : a < 0) (ha2 : -2305843009213693952 ≤ a) :
    Calls Try.prog 33 #[.int .i64 F, .int .i64 a] w fun e w' => e = .returned (.tuple #[.int .i64 (a % D * 8 / D), .bool (a % D * 8 % D == 0)]) ∧ ∃ n, w' = w.drewN n := by
  obtain ⟨hD1, hD2⟩ := two_bd hF
  have hs := shl_two hF
  rw [← hD] at hs
  have hd1 : 1 ≤ D := by omega
  have hd9 : D ≤ 1152921504606846976 := by omega
  clear hD hD1 hD2
  have hr0 : 0 ≤ a % D := Int.emod_nonneg _ (by omega)
  have hr2 : a % D < D := Int.emod_lt_of_pos _ (by omega)
  have hw1 : IntKind.i64.wrap (a % D * 8) = a % D * 8 := IntWalk.i64_in _ (by omega)
  have hq1 : 0 ≤ a % D * 8 / D := Int.ediv_nonneg (by omega) (by omega)
  have hq2 : a % D * 8 / D ≤ a % D * 8 := Int.ediv_le_self _ (by omega)
  have hw2 : IntKind.i64.wrap (a % D * 8 / D) = a % D * 8 / D := IntWalk.i64_in _ (by omega)
  have hd2 : (D == 0) = false := by rw [beq_eq_false_iff_ne]; omega
  have hd3 : ¬ D = 0 := by omega
  by_cases hz : a % D = 0
  · have ht : a.tmod D = 0 := Int.tmod_eq_zero_of_dvd (Int.dvd_of_emod_eq_zero hz)
    have hr : (a % D * 8 / D = 0) ∧ (a % D * 8 % D == 0) = true := by rw [hz]; simp
    rw [hr.1, hr.2]
    clear hr hz hr0 hr2 hw1 hw2 hq1 hq2
    have hw3 : IntKind.i64.wrap 0 = 0 := rfl
    go_enter Try.func33, Try.ntmps33
    go_wp2_with fail
    go_quiet (fail)
    go_wp2
    go_ret2
    exact ⟨rfl, nq, rfl⟩
  · have ht : a.tmod D = a % D - D := by
      rw [Int.tmod_eq_emod, if_neg (by
        rintro (h | h)
        · omega
        · exact hz (Int.emod_eq_zero_of_dvd h))]
      omega
    have hn : a % D - D < 0 := by omega
    have hs4 : a % D - D + D = a % D := by omega
    have HZ := Lib.hid hz; clear hz
    go_enter Try.func33, Try.ntmps33
    go_wp2_with fail
    go_quiet (fail)
    go_wp2
    go_ret2
    exact ⟨rfl, nq, rfl⟩
theorem eighths_any (a D : Int) (F : Nat) (w : World) (hF : F ≤ 60) (hD : D = ((2 ^ F : Nat) : Int)) (ha : -2305843009213693952 ≤ a) (ha2 : a ≤ 2305843009213693952) :
    Calls Try.prog 33 #[.int .i64 F, .int .i64 a] w fun e w' => e = .returned (.tuple #[.int .i64 (a % D * 8 / D), .bool (a % D * 8 % D == 0)]) ∧ ∃ n, w' = w.drewN n := by
  by_cases h : 0 ≤ a
  · exact eighths_pos a D F w hF hD h ha2
  · exact eighths_neg a D F w hF hD (by omega) ha
end Go.Proofs.Ytimjfcipkmcgmaa
