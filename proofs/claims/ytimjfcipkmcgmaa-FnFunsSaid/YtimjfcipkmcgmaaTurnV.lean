/-
  PROVED: contracts of the parts of a turn.
  CONDITIONS: none.
-/
import Derived.Test.YtimjfcipkmcgmaaWave
import Derived.Deep.RegionWith
namespace Go.Proofs.Ytimjfcipkmcgmaa
open Go.ChangeShapes Go.WideShapes Go.ChangeAt Go.RowKit
set_option linter.unusedVariables false
set_option maxHeartbeats 2000000 in
theorem l20Turn_6 (a : Int) (F : Nat) (D : Int) (w : World) (hF : F ≤ 60) (hD : D = ((2 ^ F : Nat) : Int)) (hD0 : 0 < D) (ha1 : -2305843009213693952 ≤ a) (ha2 : a ≤ 2305843009213693952) : Calls Try.prog 30 #[.int .i64 6, .int .i64 F, .int .i64 a] w fun e w' => e = .returned (.tuple #[.int .i64 (trN 6 D a), .bool (trB 6 D a)]) ∧ Below w.heap.size w w' := by
  have HC4 := Lib.hid (fun W : World => l20Part_any a F 4 4 W ha1 ha2 hF (by omega) (by omega) (.inr rfl))
  have HC8 := Lib.hid (fun W : World => l20Part_any a F 8 4 W ha1 ha2 hF (by omega) (by omega) (.inr rfl))
  obtain ⟨H1, H2⟩ := turn6 a F D hD hD0
  have HS := sgnI_or a
  have HSG := Lib.hid (fun W : World => l20Sign_any a W)
  have HP := partN_or a.natAbs F 4
  generalize partN a.natAbs F 4 4 = p at *
  generalize partN a.natAbs F 8 4 = p2 at *
  generalize sgnI a = sg at *
  generalize partB a.natAbs F 8 = pb2 at *
  generalize hpb : partB a.natAbs F 4 = pb at *
  cases pb
  · obtain ⟨e1, e2⟩ := H2 rfl
    rw [e1, e2]
    clear H1 H2 HS HP
    go_enter Try.func30, Try.ntmps30
    go_wp2_with fail
    refine (HC4.out _).mono ?_
    rintro e w1 ⟨rfl, hb1⟩
    go_wp2_with fail
    refine (HC8.out _).mono ?_
    rintro e w2 ⟨rfl, hb2⟩
    have T := bl_step hb1 hb2
    cases pb2
    all_goals
      go_wp2_with fail
      go_ret2
      exact ⟨rfl, T⟩
  · obtain ⟨e1, e2⟩ := H1 rfl
    rw [← e1, e2]
    clear H1 H2 e1 e2 hpb
    go_enter Try.func30, Try.ntmps30
    go_wp2_with fail
    refine (HC4.out _).mono ?_
    rintro e w1 ⟨rfl, hb1⟩
    go_wp2_with fail
    refine (HC8.out _).mono ?_
    rintro e w2 ⟨rfl, hb2⟩
    have T := bl_step hb1 hb2
    have hp0 : 0 ≤ p := by omega
    have hp1 : p ≤ 3 := by omega
    have HWB := wave_bd HS p
    obtain ⟨hwb0, hwb1⟩ := HWB
    clear HS HP
    go_wp2_with (first | (go_at_call 53; refine (HSG.out _).mono ?_; rintro e w3 ⟨rfl, rfl⟩) | (go_at_call 54; refine (l20Wave_any _ _ (by omega) (by omega)).mono ?_; rintro e w4 ⟨rfl, hb4⟩))
    go_ret2
    exact ⟨rfl, bl_step T hb4⟩
set_option maxHeartbeats 2000000 in
theorem l20Turn_7 (a : Int) (F : Nat) (D : Int) (w : World) (hF : F ≤ 60) (hD : D = ((2 ^ F : Nat) : Int)) (hD0 : 0 < D) (ha1 : -2305843009213693952 ≤ a) (ha2 : a ≤ 2305843009213693952) : Calls Try.prog 30 #[.int .i64 7, .int .i64 F, .int .i64 a] w fun e w' => e = .returned (.tuple #[.int .i64 (trN 7 D a), .bool (trB 7 D a)]) ∧ Below w.heap.size w w' := by
  have HC4 := Lib.hid (fun W : World => l20Part_any a F 4 4 W ha1 ha2 hF (by omega) (by omega) (.inr rfl))
  have HC8 := Lib.hid (fun W : World => l20Part_any a F 8 4 W ha1 ha2 hF (by omega) (by omega) (.inr rfl))
  obtain ⟨H1, H2⟩ := turn7 a F D hD hD0
  have HS := sgnI_or a
  have HSG := Lib.hid (fun W : World => l20Sign_any a W)
  have HP := partN_or a.natAbs F 4
  generalize partN a.natAbs F 4 4 = p at *
  generalize partN a.natAbs F 8 4 = p2 at *
  generalize sgnI a = sg at *
  generalize partB a.natAbs F 8 = pb2 at *
  generalize hpb : partB a.natAbs F 4 = pb at *
  cases pb
  · obtain ⟨e1, e2⟩ := H2 rfl
    rw [e1, e2]
    clear H1 H2 HS HP
    go_enter Try.func30, Try.ntmps30
    go_wp2_with fail
    refine (HC4.out _).mono ?_
    rintro e w1 ⟨rfl, hb1⟩
    go_wp2_with fail
    refine (HC8.out _).mono ?_
    rintro e w2 ⟨rfl, hb2⟩
    have T := bl_step hb1 hb2
    cases pb2
    all_goals
      go_wp2_with fail
      go_ret2
      exact ⟨rfl, T⟩
  · obtain ⟨e1, e2⟩ := H1 rfl
    rw [← e1, e2]
    clear H1 H2 e1 e2 hpb
    go_enter Try.func30, Try.ntmps30
    go_wp2_with fail
    refine (HC4.out _).mono ?_
    rintro e w1 ⟨rfl, hb1⟩
    go_wp2_with fail
    refine (HC8.out _).mono ?_
    rintro e w2 ⟨rfl, hb2⟩
    have T := bl_step hb1 hb2
    have hp0 : 0 ≤ p := by omega
    have hp1 : p ≤ 3 := by omega
    clear HS HP
    go_wp2_with (first | (go_at_call 53; refine (HSG.out _).mono ?_; rintro e w3 ⟨rfl, rfl⟩) | (go_at_call 54; refine (l20Wave_any _ _ (by omega) (by omega)).mono ?_; rintro e w4 ⟨rfl, hb4⟩))
    go_ret2
    exact ⟨rfl, bl_step T hb4⟩
set_option maxHeartbeats 2000000 in
theorem l20Turn_8 (a : Int) (F : Nat) (D : Int) (w : World) (hF : F ≤ 60) (hD : D = ((2 ^ F : Nat) : Int)) (hD0 : 0 < D) (ha1 : -2305843009213693952 ≤ a) (ha2 : a ≤ 2305843009213693952) : Calls Try.prog 30 #[.int .i64 8, .int .i64 F, .int .i64 a] w fun e w' => e = .returned (.tuple #[.int .i64 (trN 8 D a), .bool (trB 8 D a)]) ∧ Below w.heap.size w w' := by
  have HC4 := Lib.hid (fun W : World => l20Part_any a F 4 4 W ha1 ha2 hF (by omega) (by omega) (.inr rfl))
  have HC8 := Lib.hid (fun W : World => l20Part_any a F 8 4 W ha1 ha2 hF (by omega) (by omega) (.inr rfl))
  obtain ⟨H1, H2⟩ := turn8 a F D hD hD0
  have HS := sgnI_or a
  have HSG := Lib.hid (fun W : World => l20Sign_any a W)
  have HP := partN_or a.natAbs F 8
  generalize partN a.natAbs F 8 4 = p at *
  generalize partN a.natAbs F 4 4 = p2 at *
  generalize sgnI a = sg at *
  generalize partB a.natAbs F 4 = pb2 at *
  generalize hpb : partB a.natAbs F 8 = pb at *
  cases pb
  · obtain ⟨e1, e2⟩ := H2 rfl
    rw [e1, e2]
    clear H1 H2 HS HP
    go_enter Try.func30, Try.ntmps30
    go_wp2_with fail
    refine (HC4.out _).mono ?_
    rintro e w1 ⟨rfl, hb1⟩
    go_wp2_with fail
    refine (HC8.out _).mono ?_
    rintro e w2 ⟨rfl, hb2⟩
    have T := bl_step hb1 hb2
    cases pb2
    all_goals
      go_wp2_with fail
      go_ret2
      exact ⟨rfl, T⟩
  · obtain ⟨e1, e2⟩ := H1 rfl
    rw [← e1, e2]
    clear H1 H2 e1 e2 hpb
    go_enter Try.func30, Try.ntmps30
    go_wp2_with fail
    refine (HC4.out _).mono ?_
    rintro e w1 ⟨rfl, hb1⟩
    go_wp2_with fail
    refine (HC8.out _).mono ?_
    rintro e w2 ⟨rfl, hb2⟩
    have T := bl_step hb1 hb2
    have hsb0 : -1 ≤ sg := by omega
    have hsb1 : sg ≤ 1 := by omega
    clear HS
    rcases HP with rfl | rfl | rfl | rfl
    all_goals
      go_wp2_with fail
      go_region_with ((go_at_call 53; refine (HSG.out _).mono ?_; rintro e w3 ⟨rfl, rfl⟩))
      all_goals go_wp2
      all_goals go_ret2
      all_goals exact ⟨ret_ib (by simp [waveI]; first | rfl | exact IntWalk.i64_in _ ⟨by omega, by omega⟩) rfl, by first | exact (bl_al T _) | exact (bl_al (bl_dr T) _) | exact (bl_dr (bl_al T _))⟩
set_option maxHeartbeats 2000000 in
theorem l20Turn_none (fn : Int) (a : Int) (F : Nat) (D : Int) (w : World) (hF : F ≤ 60) (hD : D = ((2 ^ F : Nat) : Int)) (hD0 : 0 < D) (ha1 : -2305843009213693952 ≤ a) (ha2 : a ≤ 2305843009213693952) (h6 : (fn == 6) = false) (h7 : (fn == 7) = false) (h8 : (fn == 8) = false) : Calls Try.prog 30 #[.int .i64 fn, .int .i64 F, .int .i64 a] w fun e w' => e = .returned (.tuple #[.int .i64 0, .bool false]) ∧ Below w.heap.size w w' := by
  have HC4 := Lib.hid (fun W : World => l20Part_any a F 4 4 W ha1 ha2 hF (by omega) (by omega) (.inr rfl))
  have HC8 := Lib.hid (fun W : World => l20Part_any a F 8 4 W ha1 ha2 hF (by omega) (by omega) (.inr rfl))
  generalize partN a.natAbs F 4 4 = p at *
  generalize partN a.natAbs F 8 4 = p2 at *
  generalize partB a.natAbs F 4 = pb at *
  generalize partB a.natAbs F 8 = pb2 at *
  go_enter Try.func30, Try.ntmps30
  go_wp2_with fail
  refine (HC4.out _).mono ?_
  rintro e w1 ⟨rfl, hb1⟩
  go_wp2_with fail
  refine (HC8.out _).mono ?_
  rintro e w2 ⟨rfl, hb2⟩
  have T := bl_step hb1 hb2
  cases pb <;> cases pb2
  all_goals
    go_wp2_with fail
    go_ret2
    exact ⟨rfl, T⟩
end Go.Proofs.Ytimjfcipkmcgmaa
