/-
  PROVED: what is exact, the reference's and the program's, case by case (the third part).
  CONDITIONS: none.
-/
import Derived.Test.YtimjfcipkmcgmaaExactD
namespace Go.Proofs.Ytimjfcipkmcgmaa
open Go.ChangeShapes Go.WideShapes Go.ChangeAt Go.RowKit
set_option linter.unusedVariables false
set_option maxHeartbeats 2000000 in
theorem ex_6_0 (a b D : Int) (F : Nat) (hF : F ≤ 60) (hD : D = ((2 ^ F : Nat) : Int)) (hdom : domB 6 false F a b = true) (h0 : a ≠ 0) : ExB 6 false F a b 0 0 false := by
  have hargs : argsB 6 F a b = true := by
    cases h : argsB 6 F a b
    · rw [domB_no h] at hdom; cases hdom
    · rfl
  have hr := hargs
  unfold argsB at hr
  simp only [Bool.and_eq_true] at hr
  obtain ⟨⟨hr1, hr2, hr3⟩, hr4, _⟩ := hr
  have ha := (argIn_iff _).1 hr2
  have hb := (argIn_iff _).1 hr4
  obtain ⟨ha1, ha2⟩ := ha
  obtain ⟨hbb1, hbb2⟩ := hb
  obtain ⟨hD1, hD2⟩ := two_bd hF
  have HD := Lib.hid (fun W : World => sInDomain_any 6 false F a b W)
  have HDI := Lib.hid (fun W : World => iInDomain_any 6 false F a b W)
  rw [hdom] at HD HDI
  have hs := shl_two hF
  have HPW : Hid (∀ W : World, Calls Try.prog 28 #[.int .i64 F] W fun e w' => e = .returned (.int .i64 D) ∧ W = w') := fun W => by
    have := l2Pow_any (F : Int) W (by omega)
    rwa [pw_cast, ← hD] at this
  have HSG := Lib.hid (fun W : World => l20Sign_any a W)
  rw [← hD] at hs
  have hp : 1 ≤ D := by omega
  have hp2 : D ≤ 1152921504606846976 := by omega
  have HDD := Lib.hid hD
  clear hD hD1 hD2 hr1 hr2 hr3 hr4 hargs hdom
  have z0 : (a == 0) = false := by rw [beq_eq_false_iff_ne]; exact h0
  refine ⟨fun w => ?_, fun w => ?_⟩
  · go_enter Try.func10, Try.ntmps10
    go_wp2_with (first | (go_at_call 26; refine (HD.out _).mono ?_; rintro e w1 ⟨rfl, hb1⟩) | (go_at_call 27; refine (l1Bit_any _ _).mono ?_; rintro e w2 ⟨rfl, rfl⟩) | (go_at_call 28; refine (HPW.out _).mono ?_; rintro e w3 ⟨rfl, rfl⟩) | (go_at_call 53; refine (HSG.out _).mono ?_; rintro e w4 ⟨rfl, rfl⟩) | (go_at_call 30; refine (HTN.out _).mono ?_; rintro e w5 ⟨rfl, hb5⟩) | go_in)
    go_ret3
    exact ⟨rfl, by first | exact hb1 | exact bl_step hb1 hb5⟩
  · go_enter Try.func9, Try.ntmps9
    go_wp2_with (first | (go_at_call 13; refine (HDI.out _).mono ?_; rintro e w1 ⟨rfl, hb1⟩) | (go_at_call 25; refine (HOT.out _).mono ?_; rintro e w9 ⟨rfl, hb5⟩) | go_in)
    go_ret3
    exact ⟨rfl, by first | exact hb1 | exact bl_step hb1 hb5⟩
set_option maxHeartbeats 2000000 in
theorem ex_6_1 (a b D : Int) (F : Nat) (hF : F ≤ 60) (hD : D = ((2 ^ F : Nat) : Int)) (hdom : domB 6 true F a b = true) (h0 : a ≠ 0) : ExB 6 true F a b (trN 6 D a) 0 (trB 6 D a) := by
  have hargs : argsB 6 F a b = true := by
    cases h : argsB 6 F a b
    · rw [domB_no h] at hdom; cases hdom
    · rfl
  have hr := hargs
  unfold argsB at hr
  simp only [Bool.and_eq_true] at hr
  obtain ⟨⟨hr1, hr2, hr3⟩, hr4, _⟩ := hr
  have ha := (argIn_iff _).1 hr2
  have hb := (argIn_iff _).1 hr4
  obtain ⟨ha1, ha2⟩ := ha
  obtain ⟨hbb1, hbb2⟩ := hb
  obtain ⟨hD1, hD2⟩ := two_bd hF
  have HD := Lib.hid (fun W : World => sInDomain_any 6 true F a b W)
  have HDI := Lib.hid (fun W : World => iInDomain_any 6 true F a b W)
  rw [hdom] at HD HDI
  have hs := shl_two hF
  have HPW : Hid (∀ W : World, Calls Try.prog 28 #[.int .i64 F] W fun e w' => e = .returned (.int .i64 D) ∧ W = w') := fun W => by
    have := l2Pow_any (F : Int) W (by omega)
    rwa [pw_cast, ← hD] at this
  have HSG := Lib.hid (fun W : World => l20Sign_any a W)
  rw [← hD] at hs
  have hp : 1 ≤ D := by omega
  have hp2 : D ≤ 1152921504606846976 := by omega
  have HDD := Lib.hid hD
  clear hD hD1 hD2 hr1 hr2 hr3 hr4 hargs hdom
  have z0 : (a == 0) = false := by rw [beq_eq_false_iff_ne]; exact h0
  have HTN := Lib.hid (fun W : World => l20Turn_6 a F D W hF HDD.out (by omega) ha1 ha2)
  have HEI := Lib.hid (fun W : World => eighths_any a D F W hF HDD.out ha1 ha2)
  have hq1 : 0 ≤ a % D * 8 / D := Int.ediv_nonneg (by have := Int.emod_nonneg a (show D ≠ 0 by omega); omega) (by omega)
  have hq2 : a % D * 8 / D ≤ 7 := by
    have h1 := Int.emod_lt_of_pos a (show 0 < D by omega)
    have h2 : a % D * 8 / D < 8 := Int.ediv_lt_of_lt_mul (by omega) (by omega)
    omega
  have HWV := Lib.hid (fun W : World => waveOf_any 6 (a % D * 8 / D) W (by omega) hq1 hq2)
  have HE : Hid (trN 6 D a = (if (a % D * 8 % D == 0) = true then wvN 6 (a % D * 8 / D) else 0) ∧ trB 6 D a = (if (a % D * 8 % D == 0) = true then wvB 6 (a % D * 8 / D) else false)) := ⟨rfl, rfl⟩
  generalize trN 6 D a = rn at *
  generalize trB 6 D a = rb at *
  generalize a % D * 8 / D = n8 at *
  generalize (a % D * 8 % D == 0) = wb at *
  clear hq1 hq2
  have HOT : Hid (∀ W : World, Calls Try.prog 25 #[.int .i64 6, .int .i64 F, .int .i64 a, .int .i64 b] W fun e w' => e = .returned (.tuple #[.int .i64 rn, .int .i64 0, .bool rb]) ∧ Below W.heap.size W w') := by
    intro w
    obtain ⟨e1, e2⟩ := HE.out
    rw [e1, e2]
    cases wb
    · simp only [Bool.false_eq_true, if_false]
      go_enter Try.func25, Try.ntmps25
      go_wp2_with (first | (go_at_call 33; refine (HEI.out _).mono ?_; rintro e w2 ⟨rfl, nq, rfl⟩) | (go_at_call 48; refine (HWV.out _).mono ?_; rintro e w3 ⟨rfl, hb3⟩) | go_in)
      go_ret3
      exact ⟨rfl, by first | exact Below.refl _ _ | exact bl_step (bl_drewN _ _) hb3 | exact bl_drewN _ _⟩
    · simp only [if_true]
      go_enter Try.func25, Try.ntmps25
      go_wp2_with (first | (go_at_call 33; refine (HEI.out _).mono ?_; rintro e w2 ⟨rfl, nq, rfl⟩) | (go_at_call 48; refine (HWV.out _).mono ?_; rintro e w3 ⟨rfl, hb3⟩) | go_in)
      go_ret3
      exact ⟨rfl, by first | exact Below.refl _ _ | exact bl_step (bl_drewN _ _) hb3 | exact bl_drewN _ _⟩
  refine ⟨fun w => ?_, fun w => ?_⟩
  · go_enter Try.func10, Try.ntmps10
    go_wp2_with (first | (go_at_call 26; refine (HD.out _).mono ?_; rintro e w1 ⟨rfl, hb1⟩) | (go_at_call 27; refine (l1Bit_any _ _).mono ?_; rintro e w2 ⟨rfl, rfl⟩) | (go_at_call 28; refine (HPW.out _).mono ?_; rintro e w3 ⟨rfl, rfl⟩) | (go_at_call 53; refine (HSG.out _).mono ?_; rintro e w4 ⟨rfl, rfl⟩) | (go_at_call 30; refine (HTN.out _).mono ?_; rintro e w5 ⟨rfl, hb5⟩) | go_in)
    go_ret3
    exact ⟨rfl, by first | exact hb1 | exact bl_step hb1 hb5⟩
  · go_enter Try.func9, Try.ntmps9
    go_wp2_with (first | (go_at_call 13; refine (HDI.out _).mono ?_; rintro e w1 ⟨rfl, hb1⟩) | (go_at_call 25; refine (HOT.out _).mono ?_; rintro e w9 ⟨rfl, hb5⟩) | go_in)
    go_ret3
    exact ⟨rfl, by first | exact hb1 | exact bl_step hb1 hb5⟩
set_option maxHeartbeats 2000000 in
theorem ex_7_0 (a b D : Int) (F : Nat) (hF : F ≤ 60) (hD : D = ((2 ^ F : Nat) : Int)) (hdom : domB 7 false F a b = true) (h0 : a ≠ 0) : ExB 7 false F a b 0 0 false := by
  have hargs : argsB 7 F a b = true := by
    cases h : argsB 7 F a b
    · rw [domB_no h] at hdom; cases hdom
    · rfl
  have hr := hargs
  unfold argsB at hr
  simp only [Bool.and_eq_true] at hr
  obtain ⟨⟨hr1, hr2, hr3⟩, hr4, _⟩ := hr
  have ha := (argIn_iff _).1 hr2
  have hb := (argIn_iff _).1 hr4
  obtain ⟨ha1, ha2⟩ := ha
  obtain ⟨hbb1, hbb2⟩ := hb
  obtain ⟨hD1, hD2⟩ := two_bd hF
  have HD := Lib.hid (fun W : World => sInDomain_any 7 false F a b W)
  have HDI := Lib.hid (fun W : World => iInDomain_any 7 false F a b W)
  rw [hdom] at HD HDI
  have hs := shl_two hF
  have HPW : Hid (∀ W : World, Calls Try.prog 28 #[.int .i64 F] W fun e w' => e = .returned (.int .i64 D) ∧ W = w') := fun W => by
    have := l2Pow_any (F : Int) W (by omega)
    rwa [pw_cast, ← hD] at this
  have HSG := Lib.hid (fun W : World => l20Sign_any a W)
  rw [← hD] at hs
  have hp : 1 ≤ D := by omega
  have hp2 : D ≤ 1152921504606846976 := by omega
  have HDD := Lib.hid hD
  clear hD hD1 hD2 hr1 hr2 hr3 hr4 hargs hdom
  have z0 : (a == 0) = false := by rw [beq_eq_false_iff_ne]; exact h0
  refine ⟨fun w => ?_, fun w => ?_⟩
  · go_enter Try.func10, Try.ntmps10
    go_wp2_with (first | (go_at_call 26; refine (HD.out _).mono ?_; rintro e w1 ⟨rfl, hb1⟩) | (go_at_call 27; refine (l1Bit_any _ _).mono ?_; rintro e w2 ⟨rfl, rfl⟩) | (go_at_call 28; refine (HPW.out _).mono ?_; rintro e w3 ⟨rfl, rfl⟩) | (go_at_call 53; refine (HSG.out _).mono ?_; rintro e w4 ⟨rfl, rfl⟩) | (go_at_call 30; refine (HTN.out _).mono ?_; rintro e w5 ⟨rfl, hb5⟩) | go_in)
    go_ret3
    exact ⟨rfl, by first | exact hb1 | exact bl_step hb1 hb5⟩
  · go_enter Try.func9, Try.ntmps9
    go_wp2_with (first | (go_at_call 13; refine (HDI.out _).mono ?_; rintro e w1 ⟨rfl, hb1⟩) | (go_at_call 25; refine (HOT.out _).mono ?_; rintro e w9 ⟨rfl, hb5⟩) | go_in)
    go_ret3
    exact ⟨rfl, by first | exact hb1 | exact bl_step hb1 hb5⟩
set_option maxHeartbeats 2000000 in
theorem ex_7_1 (a b D : Int) (F : Nat) (hF : F ≤ 60) (hD : D = ((2 ^ F : Nat) : Int)) (hdom : domB 7 true F a b = true) (h0 : a ≠ 0) : ExB 7 true F a b (trN 7 D a) 0 (trB 7 D a) := by
  have hargs : argsB 7 F a b = true := by
    cases h : argsB 7 F a b
    · rw [domB_no h] at hdom; cases hdom
    · rfl
  have hr := hargs
  unfold argsB at hr
  simp only [Bool.and_eq_true] at hr
  obtain ⟨⟨hr1, hr2, hr3⟩, hr4, _⟩ := hr
  have ha := (argIn_iff _).1 hr2
  have hb := (argIn_iff _).1 hr4
  obtain ⟨ha1, ha2⟩ := ha
  obtain ⟨hbb1, hbb2⟩ := hb
  obtain ⟨hD1, hD2⟩ := two_bd hF
  have HD := Lib.hid (fun W : World => sInDomain_any 7 true F a b W)
  have HDI := Lib.hid (fun W : World => iInDomain_any 7 true F a b W)
  rw [hdom] at HD HDI
  have hs := shl_two hF
  have HPW : Hid (∀ W : World, Calls Try.prog 28 #[.int .i64 F] W fun e w' => e = .returned (.int .i64 D) ∧ W = w') := fun W => by
    have := l2Pow_any (F : Int) W (by omega)
    rwa [pw_cast, ← hD] at this
  have HSG := Lib.hid (fun W : World => l20Sign_any a W)
  rw [← hD] at hs
  have hp : 1 ≤ D := by omega
  have hp2 : D ≤ 1152921504606846976 := by omega
  have HDD := Lib.hid hD
  clear hD hD1 hD2 hr1 hr2 hr3 hr4 hargs hdom
  have z0 : (a == 0) = false := by rw [beq_eq_false_iff_ne]; exact h0
  have HTN := Lib.hid (fun W : World => l20Turn_7 a F D W hF HDD.out (by omega) ha1 ha2)
  have HEI := Lib.hid (fun W : World => eighths_any a D F W hF HDD.out ha1 ha2)
  have hq1 : 0 ≤ a % D * 8 / D := Int.ediv_nonneg (by have := Int.emod_nonneg a (show D ≠ 0 by omega); omega) (by omega)
  have hq2 : a % D * 8 / D ≤ 7 := by
    have h1 := Int.emod_lt_of_pos a (show 0 < D by omega)
    have h2 : a % D * 8 / D < 8 := Int.ediv_lt_of_lt_mul (by omega) (by omega)
    omega
  have HWV := Lib.hid (fun W : World => waveOf_any 7 (a % D * 8 / D) W (by omega) hq1 hq2)
  have HE : Hid (trN 7 D a = (if (a % D * 8 % D == 0) = true then wvN 7 (a % D * 8 / D) else 0) ∧ trB 7 D a = (if (a % D * 8 % D == 0) = true then wvB 7 (a % D * 8 / D) else false)) := ⟨rfl, rfl⟩
  generalize trN 7 D a = rn at *
  generalize trB 7 D a = rb at *
  generalize a % D * 8 / D = n8 at *
  generalize (a % D * 8 % D == 0) = wb at *
  clear hq1 hq2
  have HOT : Hid (∀ W : World, Calls Try.prog 25 #[.int .i64 7, .int .i64 F, .int .i64 a, .int .i64 b] W fun e w' => e = .returned (.tuple #[.int .i64 rn, .int .i64 0, .bool rb]) ∧ Below W.heap.size W w') := by
    intro w
    obtain ⟨e1, e2⟩ := HE.out
    rw [e1, e2]
    cases wb
    · simp only [Bool.false_eq_true, if_false]
      go_enter Try.func25, Try.ntmps25
      go_wp2_with (first | (go_at_call 33; refine (HEI.out _).mono ?_; rintro e w2 ⟨rfl, nq, rfl⟩) | (go_at_call 48; refine (HWV.out _).mono ?_; rintro e w3 ⟨rfl, hb3⟩) | go_in)
      go_ret3
      exact ⟨rfl, by first | exact Below.refl _ _ | exact bl_step (bl_drewN _ _) hb3 | exact bl_drewN _ _⟩
    · simp only [if_true]
      go_enter Try.func25, Try.ntmps25
      go_wp2_with (first | (go_at_call 33; refine (HEI.out _).mono ?_; rintro e w2 ⟨rfl, nq, rfl⟩) | (go_at_call 48; refine (HWV.out _).mono ?_; rintro e w3 ⟨rfl, hb3⟩) | go_in)
      go_ret3
      exact ⟨rfl, by first | exact Below.refl _ _ | exact bl_step (bl_drewN _ _) hb3 | exact bl_drewN _ _⟩
  refine ⟨fun w => ?_, fun w => ?_⟩
  · go_enter Try.func10, Try.ntmps10
    go_wp2_with (first | (go_at_call 26; refine (HD.out _).mono ?_; rintro e w1 ⟨rfl, hb1⟩) | (go_at_call 27; refine (l1Bit_any _ _).mono ?_; rintro e w2 ⟨rfl, rfl⟩) | (go_at_call 28; refine (HPW.out _).mono ?_; rintro e w3 ⟨rfl, rfl⟩) | (go_at_call 53; refine (HSG.out _).mono ?_; rintro e w4 ⟨rfl, rfl⟩) | (go_at_call 30; refine (HTN.out _).mono ?_; rintro e w5 ⟨rfl, hb5⟩) | go_in)
    go_ret3
    exact ⟨rfl, by first | exact hb1 | exact bl_step hb1 hb5⟩
  · go_enter Try.func9, Try.ntmps9
    go_wp2_with (first | (go_at_call 13; refine (HDI.out _).mono ?_; rintro e w1 ⟨rfl, hb1⟩) | (go_at_call 25; refine (HOT.out _).mono ?_; rintro e w9 ⟨rfl, hb5⟩) | go_in)
    go_ret3
    exact ⟨rfl, by first | exact hb1 | exact bl_step hb1 hb5⟩
set_option maxHeartbeats 2000000 in
theorem ex_8_0 (a b D : Int) (F : Nat) (hF : F ≤ 60) (hD : D = ((2 ^ F : Nat) : Int)) (hdom : domB 8 false F a b = true) (h0 : a ≠ 0) : ExB 8 false F a b 0 0 false := by
  have hargs : argsB 8 F a b = true := by
    cases h : argsB 8 F a b
    · rw [domB_no h] at hdom; cases hdom
    · rfl
  have hr := hargs
  unfold argsB at hr
  simp only [Bool.and_eq_true] at hr
  obtain ⟨⟨hr1, hr2, hr3⟩, hr4, _⟩ := hr
  have ha := (argIn_iff _).1 hr2
  have hb := (argIn_iff _).1 hr4
  obtain ⟨ha1, ha2⟩ := ha
  obtain ⟨hbb1, hbb2⟩ := hb
  obtain ⟨hD1, hD2⟩ := two_bd hF
  have HD := Lib.hid (fun W : World => sInDomain_any 8 false F a b W)
  have HDI := Lib.hid (fun W : World => iInDomain_any 8 false F a b W)
  rw [hdom] at HD HDI
  have hs := shl_two hF
  have HPW : Hid (∀ W : World, Calls Try.prog 28 #[.int .i64 F] W fun e w' => e = .returned (.int .i64 D) ∧ W = w') := fun W => by
    have := l2Pow_any (F : Int) W (by omega)
    rwa [pw_cast, ← hD] at this
  have HSG := Lib.hid (fun W : World => l20Sign_any a W)
  rw [← hD] at hs
  have hp : 1 ≤ D := by omega
  have hp2 : D ≤ 1152921504606846976 := by omega
  have HDD := Lib.hid hD
  clear hD hD1 hD2 hr1 hr2 hr3 hr4 hargs hdom
  have z0 : (a == 0) = false := by rw [beq_eq_false_iff_ne]; exact h0
  refine ⟨fun w => ?_, fun w => ?_⟩
  · go_enter Try.func10, Try.ntmps10
    go_wp2_with (first | (go_at_call 26; refine (HD.out _).mono ?_; rintro e w1 ⟨rfl, hb1⟩) | (go_at_call 27; refine (l1Bit_any _ _).mono ?_; rintro e w2 ⟨rfl, rfl⟩) | (go_at_call 28; refine (HPW.out _).mono ?_; rintro e w3 ⟨rfl, rfl⟩) | (go_at_call 53; refine (HSG.out _).mono ?_; rintro e w4 ⟨rfl, rfl⟩) | (go_at_call 30; refine (HTN.out _).mono ?_; rintro e w5 ⟨rfl, hb5⟩) | go_in)
    go_ret3
    exact ⟨rfl, by first | exact hb1 | exact bl_step hb1 hb5⟩
  · go_enter Try.func9, Try.ntmps9
    go_wp2_with (first | (go_at_call 13; refine (HDI.out _).mono ?_; rintro e w1 ⟨rfl, hb1⟩) | (go_at_call 25; refine (HOT.out _).mono ?_; rintro e w9 ⟨rfl, hb5⟩) | go_in)
    go_ret3
    exact ⟨rfl, by first | exact hb1 | exact bl_step hb1 hb5⟩
set_option maxHeartbeats 2000000 in
theorem ex_8_1 (a b D : Int) (F : Nat) (hF : F ≤ 60) (hD : D = ((2 ^ F : Nat) : Int)) (hdom : domB 8 true F a b = true) (h0 : a ≠ 0) : ExB 8 true F a b (trN 8 D a) 0 (trB 8 D a) := by
  have hargs : argsB 8 F a b = true := by
    cases h : argsB 8 F a b
    · rw [domB_no h] at hdom; cases hdom
    · rfl
  have hr := hargs
  unfold argsB at hr
  simp only [Bool.and_eq_true] at hr
  obtain ⟨⟨hr1, hr2, hr3⟩, hr4, _⟩ := hr
  have ha := (argIn_iff _).1 hr2
  have hb := (argIn_iff _).1 hr4
  obtain ⟨ha1, ha2⟩ := ha
  obtain ⟨hbb1, hbb2⟩ := hb
  obtain ⟨hD1, hD2⟩ := two_bd hF
  have HD := Lib.hid (fun W : World => sInDomain_any 8 true F a b W)
  have HDI := Lib.hid (fun W : World => iInDomain_any 8 true F a b W)
  rw [hdom] at HD HDI
  have hs := shl_two hF
  have HPW : Hid (∀ W : World, Calls Try.prog 28 #[.int .i64 F] W fun e w' => e = .returned (.int .i64 D) ∧ W = w') := fun W => by
    have := l2Pow_any (F : Int) W (by omega)
    rwa [pw_cast, ← hD] at this
  have HSG := Lib.hid (fun W : World => l20Sign_any a W)
  rw [← hD] at hs
  have hp : 1 ≤ D := by omega
  have hp2 : D ≤ 1152921504606846976 := by omega
  have HDD := Lib.hid hD
  clear hD hD1 hD2 hr1 hr2 hr3 hr4 hargs hdom
  have z0 : (a == 0) = false := by rw [beq_eq_false_iff_ne]; exact h0
  have HTN := Lib.hid (fun W : World => l20Turn_8 a F D W hF HDD.out (by omega) ha1 ha2)
  have HEI := Lib.hid (fun W : World => eighths_any a D F W hF HDD.out ha1 ha2)
  have hq1 : 0 ≤ a % D * 8 / D := Int.ediv_nonneg (by have := Int.emod_nonneg a (show D ≠ 0 by omega); omega) (by omega)
  have hq2 : a % D * 8 / D ≤ 7 := by
    have h1 := Int.emod_lt_of_pos a (show 0 < D by omega)
    have h2 : a % D * 8 / D < 8 := Int.ediv_lt_of_lt_mul (by omega) (by omega)
    omega
  have HWV := Lib.hid (fun W : World => waveOf_any 8 (a % D * 8 / D) W (by omega) hq1 hq2)
  have HE : Hid (trN 8 D a = (if (a % D * 8 % D == 0) = true then wvN 8 (a % D * 8 / D) else 0) ∧ trB 8 D a = (if (a % D * 8 % D == 0) = true then wvB 8 (a % D * 8 / D) else false)) := ⟨rfl, rfl⟩
  generalize trN 8 D a = rn at *
  generalize trB 8 D a = rb at *
  generalize a % D * 8 / D = n8 at *
  generalize (a % D * 8 % D == 0) = wb at *
  clear hq1 hq2
  have HOT : Hid (∀ W : World, Calls Try.prog 25 #[.int .i64 8, .int .i64 F, .int .i64 a, .int .i64 b] W fun e w' => e = .returned (.tuple #[.int .i64 rn, .int .i64 0, .bool rb]) ∧ Below W.heap.size W w') := by
    intro w
    obtain ⟨e1, e2⟩ := HE.out
    rw [e1, e2]
    cases wb
    · simp only [Bool.false_eq_true, if_false]
      go_enter Try.func25, Try.ntmps25
      go_wp2_with (first | (go_at_call 33; refine (HEI.out _).mono ?_; rintro e w2 ⟨rfl, nq, rfl⟩) | (go_at_call 48; refine (HWV.out _).mono ?_; rintro e w3 ⟨rfl, hb3⟩) | go_in)
      go_ret3
      exact ⟨rfl, by first | exact Below.refl _ _ | exact bl_step (bl_drewN _ _) hb3 | exact bl_drewN _ _⟩
    · simp only [if_true]
      go_enter Try.func25, Try.ntmps25
      go_wp2_with (first | (go_at_call 33; refine (HEI.out _).mono ?_; rintro e w2 ⟨rfl, nq, rfl⟩) | (go_at_call 48; refine (HWV.out _).mono ?_; rintro e w3 ⟨rfl, hb3⟩) | go_in)
      go_ret3
      exact ⟨rfl, by first | exact Below.refl _ _ | exact bl_step (bl_drewN _ _) hb3 | exact bl_drewN _ _⟩
  refine ⟨fun w => ?_, fun w => ?_⟩
  · go_enter Try.func10, Try.ntmps10
    go_wp2_with (first | (go_at_call 26; refine (HD.out _).mono ?_; rintro e w1 ⟨rfl, hb1⟩) | (go_at_call 27; refine (l1Bit_any _ _).mono ?_; rintro e w2 ⟨rfl, rfl⟩) | (go_at_call 28; refine (HPW.out _).mono ?_; rintro e w3 ⟨rfl, rfl⟩) | (go_at_call 53; refine (HSG.out _).mono ?_; rintro e w4 ⟨rfl, rfl⟩) | (go_at_call 30; refine (HTN.out _).mono ?_; rintro e w5 ⟨rfl, hb5⟩) | go_in)
    go_ret3
    exact ⟨rfl, by first | exact hb1 | exact bl_step hb1 hb5⟩
  · go_enter Try.func9, Try.ntmps9
    go_wp2_with (first | (go_at_call 13; refine (HDI.out _).mono ?_; rintro e w1 ⟨rfl, hb1⟩) | (go_at_call 25; refine (HOT.out _).mono ?_; rintro e w9 ⟨rfl, hb5⟩) | go_in)
    go_ret3
    exact ⟨rfl, by first | exact hb1 | exact bl_step hb1 hb5⟩
end Go.Proofs.Ytimjfcipkmcgmaa
