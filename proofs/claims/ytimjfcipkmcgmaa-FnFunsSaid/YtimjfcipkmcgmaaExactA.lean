/-
  PROVED: what is exact, the reference's and the program's, case by case (the first part).
  CONDITIONS: none.
-/
import Derived.Test.YtimjfcipkmcgmaaExactD
namespace Go.Proofs.Ytimjfcipkmcgmaa
open Go.ChangeShapes Go.WideShapes Go.ChangeAt Go.RowKit
set_option linter.unusedVariables false
set_option maxHeartbeats 2000000 in
theorem ex_0_0 (a b D : Int) (F : Nat) (hF : F ≤ 60) (hD : D = ((2 ^ F : Nat) : Int)) (hdom : domB 0 false F a b = true)  : ExB 0 false F a b 0 0 false := by
  have hargs : argsB 0 F a b = true := by
    cases h : argsB 0 F a b
    · rw [domB_no h] at hdom; cases hdom
    · rfl
  have hr := hargs
  unfold argsB at hr
  simp only [Bool.and_eq_true] at hr
  obtain ⟨⟨hr1, hr2, hr3⟩, hr4, _⟩ := hr
  have ha := (argIn_iff _).1 hr2
  have hb := (argIn_iff _).1 hr4
  obtain ⟨ha1, ha2⟩ := ha
  obtain ⟨hbb1, hbb2⟩ := hb
  obtain ⟨hD1, hD2⟩ := two_bd hF
  have HD := Lib.hid (fun W : World => sInDomain_any 0 false F a b W)
  have HDI := Lib.hid (fun W : World => iInDomain_any 0 false F a b W)
  rw [hdom] at HD HDI
  have hs := shl_two hF
  have HPW : Hid (∀ W : World, Calls Try.prog 28 #[.int .i64 F] W fun e w' => e = .returned (.int .i64 D) ∧ W = w') := fun W => by
    have := l2Pow_any (F : Int) W (by omega)
    rwa [pw_cast, ← hD] at this
  have HSG := Lib.hid (fun W : World => l20Sign_any a W)
  rw [← hD] at hs
  have hp : 1 ≤ D := by omega
  have hp2 : D ≤ 1152921504606846976 := by omega
  have HDD := Lib.hid hD
  clear hD hD1 hD2 hr1 hr2 hr3 hr4 hargs hdom
  refine ⟨fun w => ?_, fun w => ?_⟩
  · go_enter Try.func10, Try.ntmps10
    go_wp2_with (first | (go_at_call 26; refine (HD.out _).mono ?_; rintro e w1 ⟨rfl, hb1⟩) | (go_at_call 27; refine (l1Bit_any _ _).mono ?_; rintro e w2 ⟨rfl, rfl⟩) | (go_at_call 28; refine (HPW.out _).mono ?_; rintro e w3 ⟨rfl, rfl⟩) | (go_at_call 53; refine (HSG.out _).mono ?_; rintro e w4 ⟨rfl, rfl⟩) | (go_at_call 30; refine (HTN.out _).mono ?_; rintro e w5 ⟨rfl, hb5⟩) | go_in)
    go_ret3
    exact ⟨rfl, by first | exact hb1 | exact bl_step hb1 hb5⟩
  · go_enter Try.func9, Try.ntmps9
    go_wp2_with (first | (go_at_call 13; refine (HDI.out _).mono ?_; rintro e w1 ⟨rfl, hb1⟩) | (go_at_call 25; refine (HOT.out _).mono ?_; rintro e w9 ⟨rfl, hb5⟩) | go_in)
    go_ret3
    exact ⟨rfl, by first | exact hb1 | exact bl_step hb1 hb5⟩
set_option maxHeartbeats 2000000 in
theorem ex_0_1 (a b D : Int) (F : Nat) (hF : F ≤ 60) (hD : D = ((2 ^ F : Nat) : Int)) (hdom : domB 0 true F a b = true)  : ExB 0 true F a b 0 0 false := by
  have hargs : argsB 0 F a b = true := by
    cases h : argsB 0 F a b
    · rw [domB_no h] at hdom; cases hdom
    · rfl
  have hr := hargs
  unfold argsB at hr
  simp only [Bool.and_eq_true] at hr
  obtain ⟨⟨hr1, hr2, hr3⟩, hr4, _⟩ := hr
  have ha := (argIn_iff _).1 hr2
  have hb := (argIn_iff _).1 hr4
  obtain ⟨ha1, ha2⟩ := ha
  obtain ⟨hbb1, hbb2⟩ := hb
  obtain ⟨hD1, hD2⟩ := two_bd hF
  have HD := Lib.hid (fun W : World => sInDomain_any 0 true F a b W)
  have HDI := Lib.hid (fun W : World => iInDomain_any 0 true F a b W)
  rw [hdom] at HD HDI
  have hs := shl_two hF
  have HPW : Hid (∀ W : World, Calls Try.prog 28 #[.int .i64 F] W fun e w' => e = .returned (.int .i64 D) ∧ W = w') := fun W => by
    have := l2Pow_any (F : Int) W (by omega)
    rwa [pw_cast, ← hD] at this
  have HSG := Lib.hid (fun W : World => l20Sign_any a W)
  rw [← hD] at hs
  have hp : 1 ≤ D := by omega
  have hp2 : D ≤ 1152921504606846976 := by omega
  have HDD := Lib.hid hD
  clear hD hD1 hD2 hr1 hr2 hr3 hr4 hargs hdom
  have HOT : Hid (∀ W : World, Calls Try.prog 25 #[.int .i64 0, .int .i64 F, .int .i64 a, .int .i64 b] W fun e w' => e = .returned (.tuple #[.int .i64 0, .int .i64 0, .bool false]) ∧ Below W.heap.size W w') := by
    intro w
    go_enter Try.func25, Try.ntmps25
    go_wp2_with (first | (go_at_call 33; refine (HEI.out _).mono ?_; rintro e w2 ⟨rfl, nq, rfl⟩) | (go_at_call 48; refine (HWV.out _).mono ?_; rintro e w3 ⟨rfl, hb3⟩) | go_in)
    go_ret3
    exact ⟨rfl, by first | exact Below.refl _ _ | exact bl_step (bl_drewN _ _) hb3 | exact bl_drewN _ _⟩
  refine ⟨fun w => ?_, fun w => ?_⟩
  · go_enter Try.func10, Try.ntmps10
    go_wp2_with (first | (go_at_call 26; refine (HD.out _).mono ?_; rintro e w1 ⟨rfl, hb1⟩) | (go_at_call 27; refine (l1Bit_any _ _).mono ?_; rintro e w2 ⟨rfl, rfl⟩) | (go_at_call 28; refine (HPW.out _).mono ?_; rintro e w3 ⟨rfl, rfl⟩) | (go_at_call 53; refine (HSG.out _).mono ?_; rintro e w4 ⟨rfl, rfl⟩) | (go_at_call 30; refine (HTN.out _).mono ?_; rintro e w5 ⟨rfl, hb5⟩) | go_in)
    go_ret3
    exact ⟨rfl, by first | exact hb1 | exact bl_step hb1 hb5⟩
  · go_enter Try.func9, Try.ntmps9
    go_wp2_with (first | (go_at_call 13; refine (HDI.out _).mono ?_; rintro e w1 ⟨rfl, hb1⟩) | (go_at_call 25; refine (HOT.out _).mono ?_; rintro e w9 ⟨rfl, hb5⟩) | go_in)
    go_ret3
    exact ⟨rfl, by first | exact hb1 | exact bl_step hb1 hb5⟩
set_option maxHeartbeats 2000000 in
theorem ex_1_0 (a b D : Int) (F : Nat) (hF : F ≤ 60) (hD : D = ((2 ^ F : Nat) : Int)) (hdom : domB 1 false F a b = true)  : ExB 1 false F a b 0 0 false := by
  have hargs : argsB 1 F a b = true := by
    cases h : argsB 1 F a b
    · rw [domB_no h] at hdom; cases hdom
    · rfl
  have hr := hargs
  unfold argsB at hr
  simp only [Bool.and_eq_true] at hr
  obtain ⟨⟨hr1, hr2, hr3⟩, hr4, _⟩ := hr
  have ha := (argIn_iff _).1 hr2
  have hb := (argIn_iff _).1 hr4
  obtain ⟨ha1, ha2⟩ := ha
  obtain ⟨hbb1, hbb2⟩ := hb
  obtain ⟨hD1, hD2⟩ := two_bd hF
  have HD := Lib.hid (fun W : World => sInDomain_any 1 false F a b W)
  have HDI := Lib.hid (fun W : World => iInDomain_any 1 false F a b W)
  rw [hdom] at HD HDI
  have hs := shl_two hF
  have HPW : Hid (∀ W : World, Calls Try.prog 28 #[.int .i64 F] W fun e w' => e = .returned (.int .i64 D) ∧ W = w') := fun W => by
    have := l2Pow_any (F : Int) W (by omega)
    rwa [pw_cast, ← hD] at this
  have HSG := Lib.hid (fun W : World => l20Sign_any a W)
  rw [← hD] at hs
  have hp : 1 ≤ D := by omega
  have hp2 : D ≤ 1152921504606846976 := by omega
  have HDD := Lib.hid hD
  clear hD hD1 hD2 hr1 hr2 hr3 hr4 hargs hdom
  refine ⟨fun w => ?_, fun w => ?_⟩
  · go_enter Try.func10, Try.ntmps10
    go_wp2_with (first | (go_at_call 26; refine (HD.out _).mono ?_; rintro e w1 ⟨rfl, hb1⟩) | (go_at_call 27; refine (l1Bit_any _ _).mono ?_; rintro e w2 ⟨rfl, rfl⟩) | (go_at_call 28; refine (HPW.out _).mono ?_; rintro e w3 ⟨rfl, rfl⟩) | (go_at_call 53; refine (HSG.out _).mono ?_; rintro e w4 ⟨rfl, rfl⟩) | (go_at_call 30; refine (HTN.out _).mono ?_; rintro e w5 ⟨rfl, hb5⟩) | go_in)
    go_ret3
    exact ⟨rfl, by first | exact hb1 | exact bl_step hb1 hb5⟩
  · go_enter Try.func9, Try.ntmps9
    go_wp2_with (first | (go_at_call 13; refine (HDI.out _).mono ?_; rintro e w1 ⟨rfl, hb1⟩) | (go_at_call 25; refine (HOT.out _).mono ?_; rintro e w9 ⟨rfl, hb5⟩) | go_in)
    go_ret3
    exact ⟨rfl, by first | exact hb1 | exact bl_step hb1 hb5⟩
set_option maxHeartbeats 2000000 in
theorem ex_1_1 (a b D : Int) (F : Nat) (hF : F ≤ 60) (hD : D = ((2 ^ F : Nat) : Int)) (hdom : domB 1 true F a b = true)  : ExB 1 true F a b 0 0 false := by
  have hargs : argsB 1 F a b = true := by
    cases h : argsB 1 F a b
    · rw [domB_no h] at hdom; cases hdom
    · rfl
  have hr := hargs
  unfold argsB at hr
  simp only [Bool.and_eq_true] at hr
  obtain ⟨⟨hr1, hr2, hr3⟩, hr4, _⟩ := hr
  have ha := (argIn_iff _).1 hr2
  have hb := (argIn_iff _).1 hr4
  obtain ⟨ha1, ha2⟩ := ha
  obtain ⟨hbb1, hbb2⟩ := hb
  obtain ⟨hD1, hD2⟩ := two_bd hF
  have HD := Lib.hid (fun W : World => sInDomain_any 1 true F a b W)
  have HDI := Lib.hid (fun W : World => iInDomain_any 1 true F a b W)
  rw [hdom] at HD HDI
  have hs := shl_two hF
  have HPW : Hid (∀ W : World, Calls Try.prog 28 #[.int .i64 F] W fun e w' => e = .returned (.int .i64 D) ∧ W = w') := fun W => by
    have := l2Pow_any (F : Int) W (by omega)
    rwa [pw_cast, ← hD] at this
  have HSG := Lib.hid (fun W : World => l20Sign_any a W)
  rw [← hD] at hs
  have hp : 1 ≤ D := by omega
  have hp2 : D ≤ 1152921504606846976 := by omega
  have HDD := Lib.hid hD
  clear hD hD1 hD2 hr1 hr2 hr3 hr4 hargs hdom
  have HOT : Hid (∀ W : World, Calls Try.prog 25 #[.int .i64 1, .int .i64 F, .int .i64 a, .int .i64 b] W fun e w' => e = .returned (.tuple #[.int .i64 0, .int .i64 0, .bool false]) ∧ Below W.heap.size W w') := by
    intro w
    go_enter Try.func25, Try.ntmps25
    go_wp2_with (first | (go_at_call 33; refine (HEI.out _).mono ?_; rintro e w2 ⟨rfl, nq, rfl⟩) | (go_at_call 48; refine (HWV.out _).mono ?_; rintro e w3 ⟨rfl, hb3⟩) | go_in)
    go_ret3
    exact ⟨rfl, by first | exact Below.refl _ _ | exact bl_step (bl_drewN _ _) hb3 | exact bl_drewN _ _⟩
  refine ⟨fun w => ?_, fun w => ?_⟩
  · go_enter Try.func10, Try.ntmps10
    go_wp2_with (first | (go_at_call 26; refine (HD.out _).mono ?_; rintro e w1 ⟨rfl, hb1⟩) | (go_at_call 27; refine (l1Bit_any _ _).mono ?_; rintro e w2 ⟨rfl, rfl⟩) | (go_at_call 28; refine (HPW.out _).mono ?_; rintro e w3 ⟨rfl, rfl⟩) | (go_at_call 53; refine (HSG.out _).mono ?_; rintro e w4 ⟨rfl, rfl⟩) | (go_at_call 30; refine (HTN.out _).mono ?_; rintro e w5 ⟨rfl, hb5⟩) | go_in)
    go_ret3
    exact ⟨rfl, by first | exact hb1 | exact bl_step hb1 hb5⟩
  · go_enter Try.func9, Try.ntmps9
    go_wp2_with (first | (go_at_call 13; refine (HDI.out _).mono ?_; rintro e w1 ⟨rfl, hb1⟩) | (go_at_call 25; refine (HOT.out _).mono ?_; rintro e w9 ⟨rfl, hb5⟩) | go_in)
    go_ret3
    exact ⟨rfl, by first | exact hb1 | exact bl_step hb1 hb5⟩
set_option maxHeartbeats 2000000 in
theorem ex_2_0 (a b D : Int) (F : Nat) (hF : F ≤ 60) (hD : D = ((2 ^ F : Nat) : Int)) (hdom : domB 2 false F a b = true)  : ExB 2 false F a b 0 0 false := by
  have hargs : argsB 2 F a b = true := by
    cases h : argsB 2 F a b
    · rw [domB_no h] at hdom; cases hdom
    · rfl
  have hr := hargs
  unfold argsB at hr
  simp only [Bool.and_eq_true] at hr
  obtain ⟨⟨hr1, hr2, hr3⟩, hr4, _⟩ := hr
  have ha := (argIn_iff _).1 hr2
  have hb := (argIn_iff _).1 hr4
  obtain ⟨ha1, ha2⟩ := ha
  obtain ⟨hbb1, hbb2⟩ := hb
  obtain ⟨hD1, hD2⟩ := two_bd hF
  have HD := Lib.hid (fun W : World => sInDomain_any 2 false F a b W)
  have HDI := Lib.hid (fun W : World => iInDomain_any 2 false F a b W)
  rw [hdom] at HD HDI
  have hs := shl_two hF
  have HPW : Hid (∀ W : World, Calls Try.prog 28 #[.int .i64 F] W fun e w' => e = .returned (.int .i64 D) ∧ W = w') := fun W => by
    have := l2Pow_any (F : Int) W (by omega)
    rwa [pw_cast, ← hD] at this
  have HSG := Lib.hid (fun W : World => l20Sign_any a W)
  rw [← hD] at hs
  have hp : 1 ≤ D := by omega
  have hp2 : D ≤ 1152921504606846976 := by omega
  have HDD := Lib.hid hD
  clear hD hD1 hD2 hr1 hr2 hr3 hr4 hargs hdom
  refine ⟨fun w => ?_, fun w => ?_⟩
  · go_enter Try.func10, Try.ntmps10
    go_wp2_with (first | (go_at_call 26; refine (HD.out _).mono ?_; rintro e w1 ⟨rfl, hb1⟩) | (go_at_call 27; refine (l1Bit_any _ _).mono ?_; rintro e w2 ⟨rfl, rfl⟩) | (go_at_call 28; refine (HPW.out _).mono ?_; rintro e w3 ⟨rfl, rfl⟩) | (go_at_call 53; refine (HSG.out _).mono ?_; rintro e w4 ⟨rfl, rfl⟩) | (go_at_call 30; refine (HTN.out _).mono ?_; rintro e w5 ⟨rfl, hb5⟩) | go_in)
    go_ret3
    exact ⟨rfl, by first | exact hb1 | exact bl_step hb1 hb5⟩
  · go_enter Try.func9, Try.ntmps9
    go_wp2_with (first | (go_at_call 13; refine (HDI.out _).mono ?_; rintro e w1 ⟨rfl, hb1⟩) | (go_at_call 25; refine (HOT.out _).mono ?_; rintro e w9 ⟨rfl, hb5⟩) | go_in)
    go_ret3
    exact ⟨rfl, by first | exact hb1 | exact bl_step hb1 hb5⟩
set_option maxHeartbeats 2000000 in
theorem ex_2_1 (a b D : Int) (F : Nat) (hF : F ≤ 60) (hD : D = ((2 ^ F : Nat) : Int)) (hdom : domB 2 true F a b = true)  : ExB 2 true F a b 0 0 false := by
  have hargs : argsB 2 F a b = true := by
    cases h : argsB 2 F a b
    · rw [domB_no h] at hdom; cases hdom
    · rfl
  have hr := hargs
  unfold argsB at hr
  simp only [Bool.and_eq_true] at hr
  obtain ⟨⟨hr1, hr2, hr3⟩, hr4, _⟩ := hr
  have ha := (argIn_iff _).1 hr2
  have hb := (argIn_iff _).1 hr4
  obtain ⟨ha1, ha2⟩ := ha
  obtain ⟨hbb1, hbb2⟩ := hb
  obtain ⟨hD1, hD2⟩ := two_bd hF
  have HD := Lib.hid (fun W : World => sInDomain_any 2 true F a b W)
  have HDI := Lib.hid (fun W : World => iInDomain_any 2 true F a b W)
  rw [hdom] at HD HDI
  have hs := shl_two hF
  have HPW : Hid (∀ W : World, Calls Try.prog 28 #[.int .i64 F] W fun e w' => e = .returned (.int .i64 D) ∧ W = w') := fun W => by
    have := l2Pow_any (F : Int) W (by omega)
    rwa [pw_cast, ← hD] at this
  have HSG := Lib.hid (fun W : World => l20Sign_any a W)
  rw [← hD] at hs
  have hp : 1 ≤ D := by omega
  have hp2 : D ≤ 1152921504606846976 := by omega
  have HDD := Lib.hid hD
  clear hD hD1 hD2 hr1 hr2 hr3 hr4 hargs hdom
  have HOT : Hid (∀ W : World, Calls Try.prog 25 #[.int .i64 2, .int .i64 F, .int .i64 a, .int .i64 b] W fun e w' => e = .returned (.tuple #[.int .i64 0, .int .i64 0, .bool false]) ∧ Below W.heap.size W w') := by
    intro w
    go_enter Try.func25, Try.ntmps25
    go_wp2_with (first | (go_at_call 33; refine (HEI.out _).mono ?_; rintro e w2 ⟨rfl, nq, rfl⟩) | (go_at_call 48; refine (HWV.out _).mono ?_; rintro e w3 ⟨rfl, hb3⟩) | go_in)
    go_ret3
    exact ⟨rfl, by first | exact Below.refl _ _ | exact bl_step (bl_drewN _ _) hb3 | exact bl_drewN _ _⟩
  refine ⟨fun w => ?_, fun w => ?_⟩
  · go_enter Try.func10, Try.ntmps10
    go_wp2_with (first | (go_at_call 26; refine (HD.out _).mono ?_; rintro e w1 ⟨rfl, hb1⟩) | (go_at_call 27; refine (l1Bit_any _ _).mono ?_; rintro e w2 ⟨rfl, rfl⟩) | (go_at_call 28; refine (HPW.out _).mono ?_; rintro e w3 ⟨rfl, rfl⟩) | (go_at_call 53; refine (HSG.out _).mono ?_; rintro e w4 ⟨rfl, rfl⟩) | (go_at_call 30; refine (HTN.out _).mono ?_; rintro e w5 ⟨rfl, hb5⟩) | go_in)
    go_ret3
    exact ⟨rfl, by first | exact hb1 | exact bl_step hb1 hb5⟩
  · go_enter Try.func9, Try.ntmps9
    go_wp2_with (first | (go_at_call 13; refine (HDI.out _).mono ?_; rintro e w1 ⟨rfl, hb1⟩) | (go_at_call 25; refine (HOT.out _).mono ?_; rintro e w9 ⟨rfl, hb5⟩) | go_in)
    go_ret3
    exact ⟨rfl, by first | exact hb1 | exact bl_step hb1 hb5⟩
set_option maxHeartbeats 2000000 in
theorem ex_3_0 (a b D : Int) (F : Nat) (hF : F ≤ 60) (hD : D = ((2 ^ F : Nat) : Int)) (hdom : domB 3 false F a b = true)  : ExB 3 false F a b 0 0 false := by
  have hargs : argsB 3 F a b = true := by
    cases h : argsB 3 F a b
    · rw [domB_no h] at hdom; cases hdom
    · rfl
  have hr := hargs
  unfold argsB at hr
  simp only [Bool.and_eq_true] at hr
  obtain ⟨⟨hr1, hr2, hr3⟩, hr4, _⟩ := hr
  have ha := (argIn_iff _).1 hr2
  have hb := (argIn_iff _).1 hr4
  obtain ⟨ha1, ha2⟩ := ha
  obtain ⟨hbb1, hbb2⟩ := hb
  obtain ⟨hD1, hD2⟩ := two_bd hF
  have HD := Lib.hid (fun W : World => sInDomain_any 3 false F a b W)
  have HDI := Lib.hid (fun W : World => iInDomain_any 3 false F a b W)
  rw [hdom] at HD HDI
  have hs := shl_two hF
  have HPW : Hid (∀ W : World, Calls Try.prog 28 #[.int .i64 F] W fun e w' => e = .returned (.int .i64 D) ∧ W = w') := fun W => by
    have := l2Pow_any (F : Int) W (by omega)
    rwa [pw_cast, ← hD] at this
  have HSG := Lib.hid (fun W : World => l20Sign_any a W)
  rw [← hD] at hs
  have hp : 1 ≤ D := by omega
  have hp2 : D ≤ 1152921504606846976 := by omega
  have HDD := Lib.hid hD
  clear hD hD1 hD2 hr1 hr2 hr3 hr4 hargs hdom
  refine ⟨fun w => ?_, fun w => ?_⟩
  · go_enter Try.func10, Try.ntmps10
    go_wp2_with (first | (go_at_call 26; refine (HD.out _).mono ?_; rintro e w1 ⟨rfl, hb1⟩) | (go_at_call 27; refine (l1Bit_any _ _).mono ?_; rintro e w2 ⟨rfl, rfl⟩) | (go_at_call 28; refine (HPW.out _).mono ?_; rintro e w3 ⟨rfl, rfl⟩) | (go_at_call 53; refine (HSG.out _).mono ?_; rintro e w4 ⟨rfl, rfl⟩) | (go_at_call 30; refine (HTN.out _).mono ?_; rintro e w5 ⟨rfl, hb5⟩) | go_in)
    go_ret3
    exact ⟨rfl, by first | exact hb1 | exact bl_step hb1 hb5⟩
  · go_enter Try.func9, Try.ntmps9
    go_wp2_with (first | (go_at_call 13; refine (HDI.out _).mono ?_; rintro e w1 ⟨rfl, hb1⟩) | (go_at_call 25; refine (HOT.out _).mono ?_; rintro e w9 ⟨rfl, hb5⟩) | go_in)
    go_ret3
    exact ⟨rfl, by first | exact hb1 | exact bl_step hb1 hb5⟩
set_option maxHeartbeats 2000000 in
theorem ex_3_1 (a b D : Int) (F : Nat) (hF : F ≤ 60) (hD : D = ((2 ^ F : Nat) : Int)) (hdom : domB 3 true F a b = true)  : ExB 3 true F a b 0 0 false := by
  have hargs : argsB 3 F a b = true := by
    cases h : argsB 3 F a b
    · rw [domB_no h] at hdom; cases hdom
    · rfl
  have hr := hargs
  unfold argsB at hr
  simp only [Bool.and_eq_true] at hr
  obtain ⟨⟨hr1, hr2, hr3⟩, hr4, _⟩ := hr
  have ha := (argIn_iff _).1 hr2
  have hb := (argIn_iff _).1 hr4
  obtain ⟨ha1, ha2⟩ := ha
  obtain ⟨hbb1, hbb2⟩ := hb
  obtain ⟨hD1, hD2⟩ := two_bd hF
  have HD := Lib.hid (fun W : World => sInDomain_any 3 true F a b W)
  have HDI := Lib.hid (fun W : World => iInDomain_any 3 true F a b W)
  rw [hdom] at HD HDI
  have hs := shl_two hF
  have HPW : Hid (∀ W : World, Calls Try.prog 28 #[.int .i64 F] W fun e w' => e = .returned (.int .i64 D) ∧ W = w') := fun W => by
    have := l2Pow_any (F : Int) W (by omega)
    rwa [pw_cast, ← hD] at this
  have HSG := Lib.hid (fun W : World => l20Sign_any a W)
  rw [← hD] at hs
  have hp : 1 ≤ D := by omega
  have hp2 : D ≤ 1152921504606846976 := by omega
  have HDD := Lib.hid hD
  clear hD hD1 hD2 hr1 hr2 hr3 hr4 hargs hdom
  have HOT : Hid (∀ W : World, Calls Try.prog 25 #[.int .i64 3, .int .i64 F, .int .i64 a, .int .i64 b] W fun e w' => e = .returned (.tuple #[.int .i64 0, .int .i64 0, .bool false]) ∧ Below W.heap.size W w') := by
    intro w
    go_enter Try.func25, Try.ntmps25
    go_wp2_with (first | (go_at_call 33; refine (HEI.out _).mono ?_; rintro e w2 ⟨rfl, nq, rfl⟩) | (go_at_call 48; refine (HWV.out _).mono ?_; rintro e w3 ⟨rfl, hb3⟩) | go_in)
    go_ret3
    exact ⟨rfl, by first | exact Below.refl _ _ | exact bl_step (bl_drewN _ _) hb3 | exact bl_drewN _ _⟩
  refine ⟨fun w => ?_, fun w => ?_⟩
  · go_enter Try.func10, Try.ntmps10
    go_wp2_with (first | (go_at_call 26; refine (HD.out _).mono ?_; rintro e w1 ⟨rfl, hb1⟩) | (go_at_call 27; refine (l1Bit_any _ _).mono ?_; rintro e w2 ⟨rfl, rfl⟩) | (go_at_call 28; refine (HPW.out _).mono ?_; rintro e w3 ⟨rfl, rfl⟩) | (go_at_call 53; refine (HSG.out _).mono ?_; rintro e w4 ⟨rfl, rfl⟩) | (go_at_call 30; refine (HTN.out _).mono ?_; rintro e w5 ⟨rfl, hb5⟩) | go_in)
    go_ret3
    exact ⟨rfl, by first | exact hb1 | exact bl_step hb1 hb5⟩
  · go_enter Try.func9, Try.ntmps9
    go_wp2_with (first | (go_at_call 13; refine (HDI.out _).mono ?_; rintro e w1 ⟨rfl, hb1⟩) | (go_at_call 25; refine (HOT.out _).mono ?_; rintro e w9 ⟨rfl, hb5⟩) | go_in)
    go_ret3
    exact ⟨rfl, by first | exact hb1 | exact bl_step hb1 hb5⟩
set_option maxHeartbeats 2000000 in
theorem ex_4_zero (a b D : Int) (F : Nat) (turns : Bool) (hF : F ≤ 60) (hD : D = ((2 ^ F : Nat) : Int)) (hdom : domB 4 turns F a b = true) (h0 : a = 0) : ExB 4 turns F a b 1 0 true := by
  have hargs : argsB 4 F a b = true := by
    cases h : argsB 4 F a b
    · rw [domB_no h] at hdom; cases hdom
    · rfl
  have hr := hargs
  unfold argsB at hr
  simp only [Bool.and_eq_true] at hr
  obtain ⟨⟨hr1, hr2, hr3⟩, hr4, _⟩ := hr
  have ha := (argIn_iff _).1 hr2
  have hb := (argIn_iff _).1 hr4
  obtain ⟨ha1, ha2⟩ := ha
  obtain ⟨hbb1, hbb2⟩ := hb
  obtain ⟨hD1, hD2⟩ := two_bd hF
  have HD := Lib.hid (fun W : World => sInDomain_any 4 turns F a b W)
  have HDI := Lib.hid (fun W : World => iInDomain_any 4 turns F a b W)
  rw [hdom] at HD HDI
  have hs := shl_two hF
  have HPW : Hid (∀ W : World, Calls Try.prog 28 #[.int .i64 F] W fun e w' => e = .returned (.int .i64 D) ∧ W = w') := fun W => by
    have := l2Pow_any (F : Int) W (by omega)
    rwa [pw_cast, ← hD] at this
  have HSG := Lib.hid (fun W : World => l20Sign_any a W)
  rw [← hD] at hs
  have hp : 1 ≤ D := by omega
  have hp2 : D ≤ 1152921504606846976 := by omega
  have HDD := Lib.hid hD
  clear hD hD1 hD2 hr1 hr2 hr3 hr4 hargs hdom
  subst h0
  refine ⟨fun w => ?_, fun w => ?_⟩
  · go_enter Try.func10, Try.ntmps10
    go_wp2_with (first | (go_at_call 26; refine (HD.out _).mono ?_; rintro e w1 ⟨rfl, hb1⟩) | (go_at_call 27; refine (l1Bit_any _ _).mono ?_; rintro e w2 ⟨rfl, rfl⟩) | (go_at_call 28; refine (HPW.out _).mono ?_; rintro e w3 ⟨rfl, rfl⟩) | (go_at_call 53; refine (HSG.out _).mono ?_; rintro e w4 ⟨rfl, rfl⟩) | (go_at_call 30; refine (HTN.out _).mono ?_; rintro e w5 ⟨rfl, hb5⟩) | go_in)
    go_ret3
    exact ⟨rfl, by first | exact hb1 | exact bl_step hb1 hb5⟩
  · go_enter Try.func9, Try.ntmps9
    go_wp2_with (first | (go_at_call 13; refine (HDI.out _).mono ?_; rintro e w1 ⟨rfl, hb1⟩) | (go_at_call 25; refine (HOT.out _).mono ?_; rintro e w9 ⟨rfl, hb5⟩) | go_in)
    go_ret3
    exact ⟨rfl, by first | exact hb1 | exact bl_step hb1 hb5⟩
set_option maxHeartbeats 2000000 in
theorem ex_6_zero (a b D : Int) (F : Nat) (turns : Bool) (hF : F ≤ 60) (hD : D = ((2 ^ F : Nat) : Int)) (hdom : domB 6 turns F a b = true) (h0 : a = 0) : ExB 6 turns F a b 0 0 true := by
  have hargs : argsB 6 F a b = true := by
    cases h : argsB 6 F a b
    · rw [domB_no h] at hdom; cases hdom
    · rfl
  have hr := hargs
  unfold argsB at hr
  simp only [Bool.and_eq_true] at hr
  obtain ⟨⟨hr1, hr2, hr3⟩, hr4, _⟩ := hr
  have ha := (argIn_iff _).1 hr2
  have hb := (argIn_iff _).1 hr4
  obtain ⟨ha1, ha2⟩ := ha
  obtain ⟨hbb1, hbb2⟩ := hb
  obtain ⟨hD1, hD2⟩ := two_bd hF
  have HD := Lib.hid (fun W : World => sInDomain_any 6 turns F a b W)
  have HDI := Lib.hid (fun W : World => iInDomain_any 6 turns F a b W)
  rw [hdom] at HD HDI
  have hs := shl_two hF
  have HPW : Hid (∀ W : World, Calls Try.prog 28 #[.int .i64 F] W fun e w' => e = .returned (.int .i64 D) ∧ W = w') := fun W => by
    have := l2Pow_any (F : Int) W (by omega)
    rwa [pw_cast, ← hD] at this
  have HSG := Lib.hid (fun W : World => l20Sign_any a W)
  rw [← hD] at hs
  have hp : 1 ≤ D := by omega
  have hp2 : D ≤ 1152921504606846976 := by omega
  have HDD := Lib.hid hD
  clear hD hD1 hD2 hr1 hr2 hr3 hr4 hargs hdom
  subst h0
  refine ⟨fun w => ?_, fun w => ?_⟩
  · go_enter Try.func10, Try.ntmps10
    go_wp2_with (first | (go_at_call 26; refine (HD.out _).mono ?_; rintro e w1 ⟨rfl, hb1⟩) | (go_at_call 27; refine (l1Bit_any _ _).mono ?_; rintro e w2 ⟨rfl, rfl⟩) | (go_at_call 28; refine (HPW.out _).mono ?_; rintro e w3 ⟨rfl, rfl⟩) | (go_at_call 53; refine (HSG.out _).mono ?_; rintro e w4 ⟨rfl, rfl⟩) | (go_at_call 30; refine (HTN.out _).mono ?_; rintro e w5 ⟨rfl, hb5⟩) | go_in)
    go_ret3
    exact ⟨rfl, by first | exact hb1 | exact bl_step hb1 hb5⟩
  · go_enter Try.func9, Try.ntmps9
    go_wp2_with (first | (go_at_call 13; refine (HDI.out _).mono ?_; rintro e w1 ⟨rfl, hb1⟩) | (go_at_call 25; refine (HOT.out _).mono ?_; rintro e w9 ⟨rfl, hb5⟩) | go_in)
    go_ret3
    exact ⟨rfl, by first | exact hb1 | exact bl_step hb1 hb5⟩
set_option maxHeartbeats 2000000 in
theorem ex_7_zero (a b D : Int) (F : Nat) (turns : Bool) (hF : F ≤ 60) (hD : D = ((2 ^ F : Nat) : Int)) (hdom : domB 7 turns F a b = true) (h0 : a = 0) : ExB 7 turns F a b 1 0 true := by
  have hargs : argsB 7 F a b = true := by
    cases h : argsB 7 F a b
    · rw [domB_no h] at hdom; cases hdom
    · rfl
  have hr := hargs
  unfold argsB at hr
  simp only [Bool.and_eq_true] at hr
  obtain ⟨⟨hr1, hr2, hr3⟩, hr4, _⟩ := hr
  have ha := (argIn_iff _).1 hr2
  have hb := (argIn_iff _).1 hr4
  obtain ⟨ha1, ha2⟩ := ha
  obtain ⟨hbb1, hbb2⟩ := hb
  obtain ⟨hD1, hD2⟩ := two_bd hF
  have HD := Lib.hid (fun W : World => sInDomain_any 7 turns F a b W)
  have HDI := Lib.hid (fun W : World => iInDomain_any 7 turns F a b W)
  rw [hdom] at HD HDI
  have hs := shl_two hF
  have HPW : Hid (∀ W : World, Calls Try.prog 28 #[.int .i64 F] W fun e w' => e = .returned (.int .i64 D) ∧ W = w') := fun W => by
    have := l2Pow_any (F : Int) W (by omega)
    rwa [pw_cast, ← hD] at this
  have HSG := Lib.hid (fun W : World => l20Sign_any a W)
  rw [← hD] at hs
  have hp : 1 ≤ D := by omega
  have hp2 : D ≤ 1152921504606846976 := by omega
  have HDD := Lib.hid hD
  clear hD hD1 hD2 hr1 hr2 hr3 hr4 hargs hdom
  subst h0
  refine ⟨fun w => ?_, fun w => ?_⟩
  · go_enter Try.func10, Try.ntmps10
    go_wp2_with (first | (go_at_call 26; refine (HD.out _).mono ?_; rintro e w1 ⟨rfl, hb1⟩) | (go_at_call 27; refine (l1Bit_any _ _).mono ?_; rintro e w2 ⟨rfl, rfl⟩) | (go_at_call 28; refine (HPW.out _).mono ?_; rintro e w3 ⟨rfl, rfl⟩) | (go_at_call 53; refine (HSG.out _).mono ?_; rintro e w4 ⟨rfl, rfl⟩) | (go_at_call 30; refine (HTN.out _).mono ?_; rintro e w5 ⟨rfl, hb5⟩) | go_in)
    go_ret3
    exact ⟨rfl, by first | exact hb1 | exact bl_step hb1 hb5⟩
  · go_enter Try.func9, Try.ntmps9
    go_wp2_with (first | (go_at_call 13; refine (HDI.out _).mono ?_; rintro e w1 ⟨rfl, hb1⟩) | (go_at_call 25; refine (HOT.out _).mono ?_; rintro e w9 ⟨rfl, hb5⟩) | go_in)
    go_ret3
    exact ⟨rfl, by first | exact hb1 | exact bl_step hb1 hb5⟩
set_option maxHeartbeats 2000000 in
theorem ex_8_zero (a b D : Int) (F : Nat) (turns : Bool) (hF : F ≤ 60) (hD : D = ((2 ^ F : Nat) : Int)) (hdom : domB 8 turns F a b = true) (h0 : a = 0) : ExB 8 turns F a b 0 0 true := by
  have hargs : argsB 8 F a b = true := by
    cases h : argsB 8 F a b
    · rw [domB_no h] at hdom; cases hdom
    · rfl
  have hr := hargs
  unfold argsB at hr
  simp only [Bool.and_eq_true] at hr
  obtain ⟨⟨hr1, hr2, hr3⟩, hr4, _⟩ := hr
  have ha := (argIn_iff _).1 hr2
  have hb := (argIn_iff _).1 hr4
  obtain ⟨ha1, ha2⟩ := ha
  obtain ⟨hbb1, hbb2⟩ := hb
  obtain ⟨hD1, hD2⟩ := two_bd hF
  have HD := Lib.hid (fun W : World => sInDomain_any 8 turns F a b W)
  have HDI := Lib.hid (fun W : World => iInDomain_any 8 turns F a b W)
  rw [hdom] at HD HDI
  have hs := shl_two hF
  have HPW : Hid (∀ W : World, Calls Try.prog 28 #[.int .i64 F] W fun e w' => e = .returned (.int .i64 D) ∧ W = w') := fun W => by
    have := l2Pow_any (F : Int) W (by omega)
    rwa [pw_cast, ← hD] at this
  have HSG := Lib.hid (fun W : World => l20Sign_any a W)
  rw [← hD] at hs
  have hp : 1 ≤ D := by omega
  have hp2 : D ≤ 1152921504606846976 := by omega
  have HDD := Lib.hid hD
  clear hD hD1 hD2 hr1 hr2 hr3 hr4 hargs hdom
  subst h0
  refine ⟨fun w => ?_, fun w => ?_⟩
  · go_enter Try.func10, Try.ntmps10
    go_wp2_with (first | (go_at_call 26; refine (HD.out _).mono ?_; rintro e w1 ⟨rfl, hb1⟩) | (go_at_call 27; refine (l1Bit_any _ _).mono ?_; rintro e w2 ⟨rfl, rfl⟩) | (go_at_call 28; refine (HPW.out _).mono ?_; rintro e w3 ⟨rfl, rfl⟩) | (go_at_call 53; refine (HSG.out _).mono ?_; rintro e w4 ⟨rfl, rfl⟩) | (go_at_call 30; refine (HTN.out _).mono ?_; rintro e w5 ⟨rfl, hb5⟩) | go_in)
    go_ret3
    exact ⟨rfl, by first | exact hb1 | exact bl_step hb1 hb5⟩
  · go_enter Try.func9, Try.ntmps9
    go_wp2_with (first | (go_at_call 13; refine (HDI.out _).mono ?_; rintro e w1 ⟨rfl, hb1⟩) | (go_at_call 25; refine (HOT.out _).mono ?_; rintro e w9 ⟨rfl, hb5⟩) | go_in)
    go_ret3
    exact ⟨rfl, by first | exact hb1 | exact bl_step hb1 hb5⟩
set_option maxHeartbeats 2000000 in
theorem ex_9_zero (a b D : Int) (F : Nat) (turns : Bool) (hF : F ≤ 60) (hD : D = ((2 ^ F : Nat) : Int)) (hdom : domB 9 turns F a b = true) (h0 : a = 0) : ExB 9 turns F a b 0 0 true := by
  have hargs : argsB 9 F a b = true := by
    cases h : argsB 9 F a b
    · rw [domB_no h] at hdom; cases hdom
    · rfl
  have hr := hargs
  unfold argsB at hr
  simp only [Bool.and_eq_true] at hr
  obtain ⟨⟨hr1, hr2, hr3⟩, hr4, _⟩ := hr
  have ha := (argIn_iff _).1 hr2
  have hb := (argIn_iff _).1 hr4
  obtain ⟨ha1, ha2⟩ := ha
  obtain ⟨hbb1, hbb2⟩ := hb
  obtain ⟨hD1, hD2⟩ := two_bd hF
  have HD := Lib.hid (fun W : World => sInDomain_any 9 turns F a b W)
  have HDI := Lib.hid (fun W : World => iInDomain_any 9 turns F a b W)
  rw [hdom] at HD HDI
  have hs := shl_two hF
  have HPW : Hid (∀ W : World, Calls Try.prog 28 #[.int .i64 F] W fun e w' => e = .returned (.int .i64 D) ∧ W = w') := fun W => by
    have := l2Pow_any (F : Int) W (by omega)
    rwa [pw_cast, ← hD] at this
  have HSG := Lib.hid (fun W : World => l20Sign_any a W)
  rw [← hD] at hs
  have hp : 1 ≤ D := by omega
  have hp2 : D ≤ 1152921504606846976 := by omega
  have HDD := Lib.hid hD
  clear hD hD1 hD2 hr1 hr2 hr3 hr4 hargs hdom
  subst h0
  refine ⟨fun w => ?_, fun w => ?_⟩
  · go_enter Try.func10, Try.ntmps10
    go_wp2_with (first | (go_at_call 26; refine (HD.out _).mono ?_; rintro e w1 ⟨rfl, hb1⟩) | (go_at_call 27; refine (l1Bit_any _ _).mono ?_; rintro e w2 ⟨rfl, rfl⟩) | (go_at_call 28; refine (HPW.out _).mono ?_; rintro e w3 ⟨rfl, rfl⟩) | (go_at_call 53; refine (HSG.out _).mono ?_; rintro e w4 ⟨rfl, rfl⟩) | (go_at_call 30; refine (HTN.out _).mono ?_; rintro e w5 ⟨rfl, hb5⟩) | go_in)
    go_ret3
    exact ⟨rfl, by first | exact hb1 | exact bl_step hb1 hb5⟩
  · go_enter Try.func9, Try.ntmps9
    go_wp2_with (first | (go_at_call 13; refine (HDI.out _).mono ?_; rintro e w1 ⟨rfl, hb1⟩) | (go_at_call 25; refine (HOT.out _).mono ?_; rintro e w9 ⟨rfl, hb5⟩) | go_in)
    go_ret3
    exact ⟨rfl, by first | exact hb1 | exact bl_step hb1 hb5⟩
set_option maxHeartbeats 2000000 in
theorem ex_11_zero (a b D : Int) (F : Nat) (turns : Bool) (hF : F ≤ 60) (hD : D = ((2 ^ F : Nat) : Int)) (hdom : domB 11 turns F a b = true) (h0 : a = 0) : ExB 11 turns F a b 0 0 true := by
  have hargs : argsB 11 F a b = true := by
    cases h : argsB 11 F a b
    · rw [domB_no h] at hdom; cases hdom
    · rfl
  have hr := hargs
  unfold argsB at hr
  simp only [Bool.and_eq_true] at hr
  obtain ⟨⟨hr1, hr2, hr3⟩, hr4, _⟩ := hr
  have ha := (argIn_iff _).1 hr2
  have hb := (argIn_iff _).1 hr4
  obtain ⟨ha1, ha2⟩ := ha
  obtain ⟨hbb1, hbb2⟩ := hb
  obtain ⟨hD1, hD2⟩ := two_bd hF
  have HD := Lib.hid (fun W : World => sInDomain_any 11 turns F a b W)
  have HDI := Lib.hid (fun W : World => iInDomain_any 11 turns F a b W)
  rw [hdom] at HD HDI
  have hs := shl_two hF
  have HPW : Hid (∀ W : World, Calls Try.prog 28 #[.int .i64 F] W fun e w' => e = .returned (.int .i64 D) ∧ W = w') := fun W => by
    have := l2Pow_any (F : Int) W (by omega)
    rwa [pw_cast, ← hD] at this
  have HSG := Lib.hid (fun W : World => l20Sign_any a W)
  rw [← hD] at hs
  have hp : 1 ≤ D := by omega
  have hp2 : D ≤ 1152921504606846976 := by omega
  have HDD := Lib.hid hD
  clear hD hD1 hD2 hr1 hr2 hr3 hr4 hargs hdom
  subst h0
  refine ⟨fun w => ?_, fun w => ?_⟩
  · go_enter Try.func10, Try.ntmps10
    go_wp2_with (first | (go_at_call 26; refine (HD.out _).mono ?_; rintro e w1 ⟨rfl, hb1⟩) | (go_at_call 27; refine (l1Bit_any _ _).mono ?_; rintro e w2 ⟨rfl, rfl⟩) | (go_at_call 28; refine (HPW.out _).mono ?_; rintro e w3 ⟨rfl, rfl⟩) | (go_at_call 53; refine (HSG.out _).mono ?_; rintro e w4 ⟨rfl, rfl⟩) | (go_at_call 30; refine (HTN.out _).mono ?_; rintro e w5 ⟨rfl, hb5⟩) | go_in)
    go_ret3
    exact ⟨rfl, by first | exact hb1 | exact bl_step hb1 hb5⟩
  · go_enter Try.func9, Try.ntmps9
    go_wp2_with (first | (go_at_call 13; refine (HDI.out _).mono ?_; rintro e w1 ⟨rfl, hb1⟩) | (go_at_call 25; refine (HOT.out _).mono ?_; rintro e w9 ⟨rfl, hb5⟩) | go_in)
    go_ret3
    exact ⟨rfl, by first | exact hb1 | exact bl_step hb1 hb5⟩
set_option maxHeartbeats 2000000 in
theorem ex_12_zero (a b D : Int) (F : Nat) (turns : Bool) (hF : F ≤ 60) (hD : D = ((2 ^ F : Nat) : Int)) (hdom : domB 12 turns F a b = true) (h0 : a = 0) : ExB 12 turns F a b 1 0 true := by
  have hargs : argsB 12 F a b = true := by
    cases h : argsB 12 F a b
    · rw [domB_no h] at hdom; cases hdom
    · rfl
  have hr := hargs
  unfold argsB at hr
  simp only [Bool.and_eq_true] at hr
  obtain ⟨⟨hr1, hr2, hr3⟩, hr4, _⟩ := hr
  have ha := (argIn_iff _).1 hr2
  have hb := (argIn_iff _).1 hr4
  obtain ⟨ha1, ha2⟩ := ha
  obtain ⟨hbb1, hbb2⟩ := hb
  obtain ⟨hD1, hD2⟩ := two_bd hF
  have HD := Lib.hid (fun W : World => sInDomain_any 12 turns F a b W)
  have HDI := Lib.hid (fun W : World => iInDomain_any 12 turns F a b W)
  rw [hdom] at HD HDI
  have hs := shl_two hF
  have HPW : Hid (∀ W : World, Calls Try.prog 28 #[.int .i64 F] W fun e w' => e = .returned (.int .i64 D) ∧ W = w') := fun W => by
    have := l2Pow_any (F : Int) W (by omega)
    rwa [pw_cast, ← hD] at this
  have HSG := Lib.hid (fun W : World => l20Sign_any a W)
  rw [← hD] at hs
  have hp : 1 ≤ D := by omega
  have hp2 : D ≤ 1152921504606846976 := by omega
  have HDD := Lib.hid hD
  clear hD hD1 hD2 hr1 hr2 hr3 hr4 hargs hdom
  subst h0
  refine ⟨fun w => ?_, fun w => ?_⟩
  · go_enter Try.func10, Try.ntmps10
    go_wp2_with (first | (go_at_call 26; refine (HD.out _).mono ?_; rintro e w1 ⟨rfl, hb1⟩) | (go_at_call 27; refine (l1Bit_any _ _).mono ?_; rintro e w2 ⟨rfl, rfl⟩) | (go_at_call 28; refine (HPW.out _).mono ?_; rintro e w3 ⟨rfl, rfl⟩) | (go_at_call 53; refine (HSG.out _).mono ?_; rintro e w4 ⟨rfl, rfl⟩) | (go_at_call 30; refine (HTN.out _).mono ?_; rintro e w5 ⟨rfl, hb5⟩) | go_in)
    go_ret3
    exact ⟨rfl, by first | exact hb1 | exact bl_step hb1 hb5⟩
  · go_enter Try.func9, Try.ntmps9
    go_wp2_with (first | (go_at_call 13; refine (HDI.out _).mono ?_; rintro e w1 ⟨rfl, hb1⟩) | (go_at_call 25; refine (HOT.out _).mono ?_; rintro e w9 ⟨rfl, hb5⟩) | go_in)
    go_ret3
    exact ⟨rfl, by first | exact hb1 | exact bl_step hb1 hb5⟩
set_option maxHeartbeats 2000000 in
theorem ex_13_zero (a b D : Int) (F : Nat) (turns : Bool) (hF : F ≤ 60) (hD : D = ((2 ^ F : Nat) : Int)) (hdom : domB 13 turns F a b = true) (h0 : a = 0) : ExB 13 turns F a b 0 0 true := by
  have hargs : argsB 13 F a b = true := by
    cases h : argsB 13 F a b
    · rw [domB_no h] at hdom; cases hdom
    · rfl
  have hr := hargs
  unfold argsB at hr
  simp only [Bool.and_eq_true] at hr
  obtain ⟨⟨hr1, hr2, hr3⟩, hr4, _⟩ := hr
  have ha := (argIn_iff _).1 hr2
  have hb := (argIn_iff _).1 hr4
  obtain ⟨ha1, ha2⟩ := ha
  obtain ⟨hbb1, hbb2⟩ := hb
  obtain ⟨hD1, hD2⟩ := two_bd hF
  have HD := Lib.hid (fun W : World => sInDomain_any 13 turns F a b W)
  have HDI := Lib.hid (fun W : World => iInDomain_any 13 turns F a b W)
  rw [hdom] at HD HDI
  have hs := shl_two hF
  have HPW : Hid (∀ W : World, Calls Try.prog 28 #[.int .i64 F] W fun e w' => e = .returned (.int .i64 D) ∧ W = w') := fun W => by
    have := l2Pow_any (F : Int) W (by omega)
    rwa [pw_cast, ← hD] at this
  have HSG := Lib.hid (fun W : World => l20Sign_any a W)
  rw [← hD] at hs
  have hp : 1 ≤ D := by omega
  have hp2 : D ≤ 1152921504606846976 := by omega
  have HDD := Lib.hid hD
  clear hD hD1 hD2 hr1 hr2 hr3 hr4 hargs hdom
  subst h0
  refine ⟨fun w => ?_, fun w => ?_⟩
  · go_enter Try.func10, Try.ntmps10
    go_wp2_with (first | (go_at_call 26; refine (HD.out _).mono ?_; rintro e w1 ⟨rfl, hb1⟩) | (go_at_call 27; refine (l1Bit_any _ _).mono ?_; rintro e w2 ⟨rfl, rfl⟩) | (go_at_call 28; refine (HPW.out _).mono ?_; rintro e w3 ⟨rfl, rfl⟩) | (go_at_call 53; refine (HSG.out _).mono ?_; rintro e w4 ⟨rfl, rfl⟩) | (go_at_call 30; refine (HTN.out _).mono ?_; rintro e w5 ⟨rfl, hb5⟩) | go_in)
    go_ret3
    exact ⟨rfl, by first | exact hb1 | exact bl_step hb1 hb5⟩
  · go_enter Try.func9, Try.ntmps9
    go_wp2_with (first | (go_at_call 13; refine (HDI.out _).mono ?_; rintro e w1 ⟨rfl, hb1⟩) | (go_at_call 25; refine (HOT.out _).mono ?_; rintro e w9 ⟨rfl, hb5⟩) | go_in)
    go_ret3
    exact ⟨rfl, by first | exact hb1 | exact bl_step hb1 hb5⟩
set_option maxHeartbeats 2000000 in
theorem ex_14_zero (a b D : Int) (F : Nat) (turns : Bool) (hF : F ≤ 60) (hD : D = ((2 ^ F : Nat) : Int)) (hdom : domB 14 turns F a b = true) (h0 : a = 0) : ExB 14 turns F a b 0 0 true := by
  have hargs : argsB 14 F a b = true := by
    cases h : argsB 14 F a b
    · rw [domB_no h] at hdom; cases hdom
    · rfl
  have hr := hargs
  unfold argsB at hr
  simp only [Bool.and_eq_true] at hr
  obtain ⟨⟨hr1, hr2, hr3⟩, hr4, _⟩ := hr
  have ha := (argIn_iff _).1 hr2
  have hb := (argIn_iff _).1 hr4
  obtain ⟨ha1, ha2⟩ := ha
  obtain ⟨hbb1, hbb2⟩ := hb
  obtain ⟨hD1, hD2⟩ := two_bd hF
  have HD := Lib.hid (fun W : World => sInDomain_any 14 turns F a b W)
  have HDI := Lib.hid (fun W : World => iInDomain_any 14 turns F a b W)
  rw [hdom] at HD HDI
  have hs := shl_two hF
  have HPW : Hid (∀ W : World, Calls Try.prog 28 #[.int .i64 F] W fun e w' => e = .returned (.int .i64 D) ∧ W = w') := fun W => by
    have := l2Pow_any (F : Int) W (by omega)
    rwa [pw_cast, ← hD] at this
  have HSG := Lib.hid (fun W : World => l20Sign_any a W)
  rw [← hD] at hs
  have hp : 1 ≤ D := by omega
  have hp2 : D ≤ 1152921504606846976 := by omega
  have HDD := Lib.hid hD
  clear hD hD1 hD2 hr1 hr2 hr3 hr4 hargs hdom
  subst h0
  refine ⟨fun w => ?_, fun w => ?_⟩
  · go_enter Try.func10, Try.ntmps10
    go_wp2_with (first | (go_at_call 26; refine (HD.out _).mono ?_; rintro e w1 ⟨rfl, hb1⟩) | (go_at_call 27; refine (l1Bit_any _ _).mono ?_; rintro e w2 ⟨rfl, rfl⟩) | (go_at_call 28; refine (HPW.out _).mono ?_; rintro e w3 ⟨rfl, rfl⟩) | (go_at_call 53; refine (HSG.out _).mono ?_; rintro e w4 ⟨rfl, rfl⟩) | (go_at_call 30; refine (HTN.out _).mono ?_; rintro e w5 ⟨rfl, hb5⟩) | go_in)
    go_ret3
    exact ⟨rfl, by first | exact hb1 | exact bl_step hb1 hb5⟩
  · go_enter Try.func9, Try.ntmps9
    go_wp2_with (first | (go_at_call 13; refine (HDI.out _).mono ?_; rintro e w1 ⟨rfl, hb1⟩) | (go_at_call 25; refine (HOT.out _).mono ?_; rintro e w9 ⟨rfl, hb5⟩) | go_in)
    go_ret3
    exact ⟨rfl, by first | exact hb1 | exact bl_step hb1 hb5⟩
set_option maxHeartbeats 2000000 in
theorem ex_4_0 (a b D : Int) (F : Nat) (hF : F ≤ 60) (hD : D = ((2 ^ F : Nat) : Int)) (hdom : domB 4 false F a b = true) (h0 : a ≠ 0) : ExB 4 false F a b 0 0 false := by
  have hargs : argsB 4 F a b = true := by
    cases h : argsB 4 F a b
    · rw [domB_no h] at hdom; cases hdom
    · rfl
  have hr := hargs
  unfold argsB at hr
  simp only [Bool.and_eq_true] at hr
  obtain ⟨⟨hr1, hr2, hr3⟩, hr4, _⟩ := hr
  have ha := (argIn_iff _).1 hr2
  have hb := (argIn_iff _).1 hr4
  obtain ⟨ha1, ha2⟩ := ha
  obtain ⟨hbb1, hbb2⟩ := hb
  obtain ⟨hD1, hD2⟩ := two_bd hF
  have HD := Lib.hid (fun W : World => sInDomain_any 4 false F a b W)
  have HDI := Lib.hid (fun W : World => iInDomain_any 4 false F a b W)
  rw [hdom] at HD HDI
  have hs := shl_two hF
  have HPW : Hid (∀ W : World, Calls Try.prog 28 #[.int .i64 F] W fun e w' => e = .returned (.int .i64 D) ∧ W = w') := fun W => by
    have := l2Pow_any (F : Int) W (by omega)
    rwa [pw_cast, ← hD] at this
  have HSG := Lib.hid (fun W : World => l20Sign_any a W)
  rw [← hD] at hs
  have hp : 1 ≤ D := by omega
  have hp2 : D ≤ 1152921504606846976 := by omega
  have HDD := Lib.hid hD
  clear hD hD1 hD2 hr1 hr2 hr3 hr4 hargs hdom
  have z0 : (a == 0) = false := by rw [beq_eq_false_iff_ne]; exact h0
  refine ⟨fun w => ?_, fun w => ?_⟩
  · go_enter Try.func10, Try.ntmps10
    go_wp2_with (first | (go_at_call 26; refine (HD.out _).mono ?_; rintro e w1 ⟨rfl, hb1⟩) | (go_at_call 27; refine (l1Bit_any _ _).mono ?_; rintro e w2 ⟨rfl, rfl⟩) | (go_at_call 28; refine (HPW.out _).mono ?_; rintro e w3 ⟨rfl, rfl⟩) | (go_at_call 53; refine (HSG.out _).mono ?_; rintro e w4 ⟨rfl, rfl⟩) | (go_at_call 30; refine (HTN.out _).mono ?_; rintro e w5 ⟨rfl, hb5⟩) | go_in)
    go_ret3
    exact ⟨rfl, by first | exact hb1 | exact bl_step hb1 hb5⟩
  · go_enter Try.func9, Try.ntmps9
    go_wp2_with (first | (go_at_call 13; refine (HDI.out _).mono ?_; rintro e w1 ⟨rfl, hb1⟩) | (go_at_call 25; refine (HOT.out _).mono ?_; rintro e w9 ⟨rfl, hb5⟩) | go_in)
    go_ret3
    exact ⟨rfl, by first | exact hb1 | exact bl_step hb1 hb5⟩
set_option maxHeartbeats 2000000 in
theorem ex_4_1 (a b D : Int) (F : Nat) (hF : F ≤ 60) (hD : D = ((2 ^ F : Nat) : Int)) (hdom : domB 4 true F a b = true) (h0 : a ≠ 0) : ExB 4 true F a b 0 0 false := by
  have hargs : argsB 4 F a b = true := by
    cases h : argsB 4 F a b
    · rw [domB_no h] at hdom; cases hdom
    · rfl
  have hr := hargs
  unfold argsB at hr
  simp only [Bool.and_eq_true] at hr
  obtain ⟨⟨hr1, hr2, hr3⟩, hr4, _⟩ := hr
  have ha := (argIn_iff _).1 hr2
  have hb := (argIn_iff _).1 hr4
  obtain ⟨ha1, ha2⟩ := ha
  obtain ⟨hbb1, hbb2⟩ := hb
  obtain ⟨hD1, hD2⟩ := two_bd hF
  have HD := Lib.hid (fun W : World => sInDomain_any 4 true F a b W)
  have HDI := Lib.hid (fun W : World => iInDomain_any 4 true F a b W)
  rw [hdom] at HD HDI
  have hs := shl_two hF
  have HPW : Hid (∀ W : World, Calls Try.prog 28 #[.int .i64 F] W fun e w' => e = .returned (.int .i64 D) ∧ W = w') := fun W => by
    have := l2Pow_any (F : Int) W (by omega)
    rwa [pw_cast, ← hD] at this
  have HSG := Lib.hid (fun W : World => l20Sign_any a W)
  rw [← hD] at hs
  have hp : 1 ≤ D := by omega
  have hp2 : D ≤ 1152921504606846976 := by omega
  have HDD := Lib.hid hD
  clear hD hD1 hD2 hr1 hr2 hr3 hr4 hargs hdom
  have z0 : (a == 0) = false := by rw [beq_eq_false_iff_ne]; exact h0
  have HTN := Lib.hid (fun W : World => l20Turn_none 4 a F D W hF HDD.out (by omega) ha1 ha2 (by decide) (by decide) (by decide))
  have HOT : Hid (∀ W : World, Calls Try.prog 25 #[.int .i64 4, .int .i64 F, .int .i64 a, .int .i64 b] W fun e w' => e = .returned (.tuple #[.int .i64 0, .int .i64 0, .bool false]) ∧ Below W.heap.size W w') := by
    intro w
    go_enter Try.func25, Try.ntmps25
    go_wp2_with (first | (go_at_call 33; refine (HEI.out _).mono ?_; rintro e w2 ⟨rfl, nq, rfl⟩) | (go_at_call 48; refine (HWV.out _).mono ?_; rintro e w3 ⟨rfl, hb3⟩) | go_in)
    go_ret3
    exact ⟨rfl, by first | exact Below.refl _ _ | exact bl_step (bl_drewN _ _) hb3 | exact bl_drewN _ _⟩
  refine ⟨fun w => ?_, fun w => ?_⟩
  · go_enter Try.func10, Try.ntmps10
    go_wp2_with (first | (go_at_call 26; refine (HD.out _).mono ?_; rintro e w1 ⟨rfl, hb1⟩) | (go_at_call 27; refine (l1Bit_any _ _).mono ?_; rintro e w2 ⟨rfl, rfl⟩) | (go_at_call 28; refine (HPW.out _).mono ?_; rintro e w3 ⟨rfl, rfl⟩) | (go_at_call 53; refine (HSG.out _).mono ?_; rintro e w4 ⟨rfl, rfl⟩) | (go_at_call 30; refine (HTN.out _).mono ?_; rintro e w5 ⟨rfl, hb5⟩) | go_in)
    go_ret3
    exact ⟨rfl, by first | exact hb1 | exact bl_step hb1 hb5⟩
  · go_enter Try.func9, Try.ntmps9
    go_wp2_with (first | (go_at_call 13; refine (HDI.out _).mono ?_; rintro e w1 ⟨rfl, hb1⟩) | (go_at_call 25; refine (HOT.out _).mono ?_; rintro e w9 ⟨rfl, hb5⟩) | go_in)
    go_ret3
    exact ⟨rfl, by first | exact hb1 | exact bl_step hb1 hb5⟩
set_option maxHeartbeats 2000000 in
theorem ex_11_0 (a b D : Int) (F : Nat) (hF : F ≤ 60) (hD : D = ((2 ^ F : Nat) : Int)) (hdom : domB 11 false F a b = true) (h0 : a ≠ 0) : ExB 11 false F a b 0 0 false := by
  have hargs : argsB 11 F a b = true := by
    cases h : argsB 11 F a b
    · rw [domB_no h] at hdom; cases hdom
    · rfl
  have hr := hargs
  unfold argsB at hr
  simp only [Bool.and_eq_true] at hr
  obtain ⟨⟨hr1, hr2, hr3⟩, hr4, _⟩ := hr
  have ha := (argIn_iff _).1 hr2
  have hb := (argIn_iff _).1 hr4
  obtain ⟨ha1, ha2⟩ := ha
  obtain ⟨hbb1, hbb2⟩ := hb
  obtain ⟨hD1, hD2⟩ := two_bd hF
  have HD := Lib.hid (fun W : World => sInDomain_any 11 false F a b W)
  have HDI := Lib.hid (fun W : World => iInDomain_any 11 false F a b W)
  rw [hdom] at HD HDI
  have hs := shl_two hF
  have HPW : Hid (∀ W : World, Calls Try.prog 28 #[.int .i64 F] W fun e w' => e = .returned (.int .i64 D) ∧ W = w') := fun W => by
    have := l2Pow_any (F : Int) W (by omega)
    rwa [pw_cast, ← hD] at this
  have HSG := Lib.hid (fun W : World => l20Sign_any a W)
  rw [← hD] at hs
  have hp : 1 ≤ D := by omega
  have hp2 : D ≤ 1152921504606846976 := by omega
  have HDD := Lib.hid hD
  clear hD hD1 hD2 hr1 hr2 hr3 hr4 hargs hdom
  have z0 : (a == 0) = false := by rw [beq_eq_false_iff_ne]; exact h0
  refine ⟨fun w => ?_, fun w => ?_⟩
  · go_enter Try.func10, Try.ntmps10
    go_wp2_with (first | (go_at_call 26; refine (HD.out _).mono ?_; rintro e w1 ⟨rfl, hb1⟩) | (go_at_call 27; refine (l1Bit_any _ _).mono ?_; rintro e w2 ⟨rfl, rfl⟩) | (go_at_call 28; refine (HPW.out _).mono ?_; rintro e w3 ⟨rfl, rfl⟩) | (go_at_call 53; refine (HSG.out _).mono ?_; rintro e w4 ⟨rfl, rfl⟩) | (go_at_call 30; refine (HTN.out _).mono ?_; rintro e w5 ⟨rfl, hb5⟩) | go_in)
    go_ret3
    exact ⟨rfl, by first | exact hb1 | exact bl_step hb1 hb5⟩
  · go_enter Try.func9, Try.ntmps9
    go_wp2_with (first | (go_at_call 13; refine (HDI.out _).mono ?_; rintro e w1 ⟨rfl, hb1⟩) | (go_at_call 25; refine (HOT.out _).mono ?_; rintro e w9 ⟨rfl, hb5⟩) | go_in)
    go_ret3
    exact ⟨rfl, by first | exact hb1 | exact bl_step hb1 hb5⟩
set_option maxHeartbeats 2000000 in
theorem ex_11_1 (a b D : Int) (F : Nat) (hF : F ≤ 60) (hD : D = ((2 ^ F : Nat) : Int)) (hdom : domB 11 true F a b = true) (h0 : a ≠ 0) : ExB 11 true F a b 0 0 false := by
  have hargs : argsB 11 F a b = true := by
    cases h : argsB 11 F a b
    · rw [domB_no h] at hdom; cases hdom
    · rfl
  have hr := hargs
  unfold argsB at hr
  simp only [Bool.and_eq_true] at hr
  obtain ⟨⟨hr1, hr2, hr3⟩, hr4, _⟩ := hr
  have ha := (argIn_iff _).1 hr2
  have hb := (argIn_iff _).1 hr4
  obtain ⟨ha1, ha2⟩ := ha
  obtain ⟨hbb1, hbb2⟩ := hb
  obtain ⟨hD1, hD2⟩ := two_bd hF
  have HD := Lib.hid (fun W : World => sInDomain_any 11 true F a b W)
  have HDI := Lib.hid (fun W : World => iInDomain_any 11 true F a b W)
  rw [hdom] at HD HDI
  have hs := shl_two hF
  have HPW : Hid (∀ W : World, Calls Try.prog 28 #[.int .i64 F] W fun e w' => e = .returned (.int .i64 D) ∧ W = w') := fun W => by
    have := l2Pow_any (F : Int) W (by omega)
    rwa [pw_cast, ← hD] at this
  have HSG := Lib.hid (fun W : World => l20Sign_any a W)
  rw [← hD] at hs
  have hp : 1 ≤ D := by omega
  have hp2 : D ≤ 1152921504606846976 := by omega
  have HDD := Lib.hid hD
  clear hD hD1 hD2 hr1 hr2 hr3 hr4 hargs hdom
  have z0 : (a == 0) = false := by rw [beq_eq_false_iff_ne]; exact h0
  have HTN := Lib.hid (fun W : World => l20Turn_none 11 a F D W hF HDD.out (by omega) ha1 ha2 (by decide) (by decide) (by decide))
  have HOT : Hid (∀ W : World, Calls Try.prog 25 #[.int .i64 11, .int .i64 F, .int .i64 a, .int .i64 b] W fun e w' => e = .returned (.tuple #[.int .i64 0, .int .i64 0, .bool false]) ∧ Below W.heap.size W w') := by
    intro w
    go_enter Try.func25, Try.ntmps25
    go_wp2_with (first | (go_at_call 33; refine (HEI.out _).mono ?_; rintro e w2 ⟨rfl, nq, rfl⟩) | (go_at_call 48; refine (HWV.out _).mono ?_; rintro e w3 ⟨rfl, hb3⟩) | go_in)
    go_ret3
    exact ⟨rfl, by first | exact Below.refl _ _ | exact bl_step (bl_drewN _ _) hb3 | exact bl_drewN _ _⟩
  refine ⟨fun w => ?_, fun w => ?_⟩
  · go_enter Try.func10, Try.ntmps10
    go_wp2_with (first | (go_at_call 26; refine (HD.out _).mono ?_; rintro e w1 ⟨rfl, hb1⟩) | (go_at_call 27; refine (l1Bit_any _ _).mono ?_; rintro e w2 ⟨rfl, rfl⟩) | (go_at_call 28; refine (HPW.out _).mono ?_; rintro e w3 ⟨rfl, rfl⟩) | (go_at_call 53; refine (HSG.out _).mono ?_; rintro e w4 ⟨rfl, rfl⟩) | (go_at_call 30; refine (HTN.out _).mono ?_; rintro e w5 ⟨rfl, hb5⟩) | go_in)
    go_ret3
    exact ⟨rfl, by first | exact hb1 | exact bl_step hb1 hb5⟩
  · go_enter Try.func9, Try.ntmps9
    go_wp2_with (first | (go_at_call 13; refine (HDI.out _).mono ?_; rintro e w1 ⟨rfl, hb1⟩) | (go_at_call 25; refine (HOT.out _).mono ?_; rintro e w9 ⟨rfl, hb5⟩) | go_in)
    go_ret3
    exact ⟨rfl, by first | exact hb1 | exact bl_step hb1 hb5⟩
set_option maxHeartbeats 2000000 in
theorem ex_12_0 (a b D : Int) (F : Nat) (hF : F ≤ 60) (hD : D = ((2 ^ F : Nat) : Int)) (hdom : domB 12 false F a b = true) (h0 : a ≠ 0) : ExB 12 false F a b 0 0 false := by
  have hargs : argsB 12 F a b = true := by
    cases h : argsB 12 F a b
    · rw [domB_no h] at hdom; cases hdom
    · rfl
  have hr := hargs
  unfold argsB at hr
  simp only [Bool.and_eq_true] at hr
  obtain ⟨⟨hr1, hr2, hr3⟩, hr4, _⟩ := hr
  have ha := (argIn_iff _).1 hr2
  have hb := (argIn_iff _).1 hr4
  obtain ⟨ha1, ha2⟩ := ha
  obtain ⟨hbb1, hbb2⟩ := hb
  obtain ⟨hD1, hD2⟩ := two_bd hF
  have HD := Lib.hid (fun W : World => sInDomain_any 12 false F a b W)
  have HDI := Lib.hid (fun W : World => iInDomain_any 12 false F a b W)
  rw [hdom] at HD HDI
  have hs := shl_two hF
  have HPW : Hid (∀ W : World, Calls Try.prog 28 #[.int .i64 F] W fun e w' => e = .returned (.int .i64 D) ∧ W = w') := fun W => by
    have := l2Pow_any (F : Int) W (by omega)
    rwa [pw_cast, ← hD] at this
  have HSG := Lib.hid (fun W : World => l20Sign_any a W)
  rw [← hD] at hs
  have hp : 1 ≤ D := by omega
  have hp2 : D ≤ 1152921504606846976 := by omega
  have HDD := Lib.hid hD
  clear hD hD1 hD2 hr1 hr2 hr3 hr4 hargs hdom
  have z0 : (a == 0) = false := by rw [beq_eq_false_iff_ne]; exact h0
  refine ⟨fun w => ?_, fun w => ?_⟩
  · go_enter Try.func10, Try.ntmps10
    go_wp2_with (first | (go_at_call 26; refine (HD.out _).mono ?_; rintro e w1 ⟨rfl, hb1⟩) | (go_at_call 27; refine (l1Bit_any _ _).mono ?_; rintro e w2 ⟨rfl, rfl⟩) | (go_at_call 28; refine (HPW.out _).mono ?_; rintro e w3 ⟨rfl, rfl⟩) | (go_at_call 53; refine (HSG.out _).mono ?_; rintro e w4 ⟨rfl, rfl⟩) | (go_at_call 30; refine (HTN.out _).mono ?_; rintro e w5 ⟨rfl, hb5⟩) | go_in)
    go_ret3
    exact ⟨rfl, by first | exact hb1 | exact bl_step hb1 hb5⟩
  · go_enter Try.func9, Try.ntmps9
    go_wp2_with (first | (go_at_call 13; refine (HDI.out _).mono ?_; rintro e w1 ⟨rfl, hb1⟩) | (go_at_call 25; refine (HOT.out _).mono ?_; rintro e w9 ⟨rfl, hb5⟩) | go_in)
    go_ret3
    exact ⟨rfl, by first | exact hb1 | exact bl_step hb1 hb5⟩
set_option maxHeartbeats 2000000 in
theorem ex_12_1 (a b D : Int) (F : Nat) (hF : F ≤ 60) (hD : D = ((2 ^ F : Nat) : Int)) (hdom : domB 12 true F a b = true) (h0 : a ≠ 0) : ExB 12 true F a b 0 0 false := by
  have hargs : argsB 12 F a b = true := by
    cases h : argsB 12 F a b
    · rw [domB_no h] at hdom; cases hdom
    · rfl
  have hr := hargs
  unfold argsB at hr
  simp only [Bool.and_eq_true] at hr
  obtain ⟨⟨hr1, hr2, hr3⟩, hr4, _⟩ := hr
  have ha := (argIn_iff _).1 hr2
  have hb := (argIn_iff _).1 hr4
  obtain ⟨ha1, ha2⟩ := ha
  obtain ⟨hbb1, hbb2⟩ := hb
  obtain ⟨hD1, hD2⟩ := two_bd hF
  have HD := Lib.hid (fun W : World => sInDomain_any 12 true F a b W)
  have HDI := Lib.hid (fun W : World => iInDomain_any 12 true F a b W)
  rw [hdom] at HD HDI
  have hs := shl_two hF
  have HPW : Hid (∀ W : World, Calls Try.prog 28 #[.int .i64 F] W fun e w' => e = .returned (.int .i64 D) ∧ W = w') := fun W => by
    have := l2Pow_any (F : Int) W (by omega)
    rwa [pw_cast, ← hD] at this
  have HSG := Lib.hid (fun W : World => l20Sign_any a W)
  rw [← hD] at hs
  have hp : 1 ≤ D := by omega
  have hp2 : D ≤ 1152921504606846976 := by omega
  have HDD := Lib.hid hD
  clear hD hD1 hD2 hr1 hr2 hr3 hr4 hargs hdom
  have z0 : (a == 0) = false := by rw [beq_eq_false_iff_ne]; exact h0
  have HTN := Lib.hid (fun W : World => l20Turn_none 12 a F D W hF HDD.out (by omega) ha1 ha2 (by decide) (by decide) (by decide))
  have HOT : Hid (∀ W : World, Calls Try.prog 25 #[.int .i64 12, .int .i64 F, .int .i64 a, .int .i64 b] W fun e w' => e = .returned (.tuple #[.int .i64 0, .int .i64 0, .bool false]) ∧ Below W.heap.size W w') := by
    intro w
    go_enter Try.func25, Try.ntmps25
    go_wp2_with (first | (go_at_call 33; refine (HEI.out _).mono ?_; rintro e w2 ⟨rfl, nq, rfl⟩) | (go_at_call 48; refine (HWV.out _).mono ?_; rintro e w3 ⟨rfl, hb3⟩) | go_in)
    go_ret3
    exact ⟨rfl, by first | exact Below.refl _ _ | exact bl_step (bl_drewN _ _) hb3 | exact bl_drewN _ _⟩
  refine ⟨fun w => ?_, fun w => ?_⟩
  · go_enter Try.func10, Try.ntmps10
    go_wp2_with (first | (go_at_call 26; refine (HD.out _).mono ?_; rintro e w1 ⟨rfl, hb1⟩) | (go_at_call 27; refine (l1Bit_any _ _).mono ?_; rintro e w2 ⟨rfl, rfl⟩) | (go_at_call 28; refine (HPW.out _).mono ?_; rintro e w3 ⟨rfl, rfl⟩) | (go_at_call 53; refine (HSG.out _).mono ?_; rintro e w4 ⟨rfl, rfl⟩) | (go_at_call 30; refine (HTN.out _).mono ?_; rintro e w5 ⟨rfl, hb5⟩) | go_in)
    go_ret3
    exact ⟨rfl, by first | exact hb1 | exact bl_step hb1 hb5⟩
  · go_enter Try.func9, Try.ntmps9
    go_wp2_with (first | (go_at_call 13; refine (HDI.out _).mono ?_; rintro e w1 ⟨rfl, hb1⟩) | (go_at_call 25; refine (HOT.out _).mono ?_; rintro e w9 ⟨rfl, hb5⟩) | go_in)
    go_ret3
    exact ⟨rfl, by first | exact hb1 | exact bl_step hb1 hb5⟩
set_option maxHeartbeats 2000000 in
theorem ex_13_0 (a b D : Int) (F : Nat) (hF : F ≤ 60) (hD : D = ((2 ^ F : Nat) : Int)) (hdom : domB 13 false F a b = true) (h0 : a ≠ 0) : ExB 13 false F a b 0 0 false := by
  have hargs : argsB 13 F a b = true := by
    cases h : argsB 13 F a b
    · rw [domB_no h] at hdom; cases hdom
    · rfl
  have hr := hargs
  unfold argsB at hr
  simp only [Bool.and_eq_true] at hr
  obtain ⟨⟨hr1, hr2, hr3⟩, hr4, _⟩ := hr
  have ha := (argIn_iff _).1 hr2
  have hb := (argIn_iff _).1 hr4
  obtain ⟨ha1, ha2⟩ := ha
  obtain ⟨hbb1, hbb2⟩ := hb
  obtain ⟨hD1, hD2⟩ := two_bd hF
  have HD := Lib.hid (fun W : World => sInDomain_any 13 false F a b W)
  have HDI := Lib.hid (fun W : World => iInDomain_any 13 false F a b W)
  rw [hdom] at HD HDI
  have hs := shl_two hF
  have HPW : Hid (∀ W : World, Calls Try.prog 28 #[.int .i64 F] W fun e w' => e = .returned (.int .i64 D) ∧ W = w') := fun W => by
    have := l2Pow_any (F : Int) W (by omega)
    rwa [pw_cast, ← hD] at this
  have HSG := Lib.hid (fun W : World => l20Sign_any a W)
  rw [← hD] at hs
  have hp : 1 ≤ D := by omega
  have hp2 : D ≤ 1152921504606846976 := by omega
  have HDD := Lib.hid hD
  clear hD hD1 hD2 hr1 hr2 hr3 hr4 hargs hdom
  have z0 : (a == 0) = false := by rw [beq_eq_false_iff_ne]; exact h0
  refine ⟨fun w => ?_, fun w => ?_⟩
  · go_enter Try.func10, Try.ntmps10
    go_wp2_with (first | (go_at_call 26; refine (HD.out _).mono ?_; rintro e w1 ⟨rfl, hb1⟩) | (go_at_call 27; refine (l1Bit_any _ _).mono ?_; rintro e w2 ⟨rfl, rfl⟩) | (go_at_call 28; refine (HPW.out _).mono ?_; rintro e w3 ⟨rfl, rfl⟩) | (go_at_call 53; refine (HSG.out _).mono ?_; rintro e w4 ⟨rfl, rfl⟩) | (go_at_call 30; refine (HTN.out _).mono ?_; rintro e w5 ⟨rfl, hb5⟩) | go_in)
    go_ret3
    exact ⟨rfl, by first | exact hb1 | exact bl_step hb1 hb5⟩
  · go_enter Try.func9, Try.ntmps9
    go_wp2_with (first | (go_at_call 13; refine (HDI.out _).mono ?_; rintro e w1 ⟨rfl, hb1⟩) | (go_at_call 25; refine (HOT.out _).mono ?_; rintro e w9 ⟨rfl, hb5⟩) | go_in)
    go_ret3
    exact ⟨rfl, by first | exact hb1 | exact bl_step hb1 hb5⟩
set_option maxHeartbeats 2000000 in
theorem ex_13_1 (a b D : Int) (F : Nat) (hF : F ≤ 60) (hD : D = ((2 ^ F : Nat) : Int)) (hdom : domB 13 true F a b = true) (h0 : a ≠ 0) : ExB 13 true F a b 0 0 false := by
  have hargs : argsB 13 F a b = true := by
    cases h : argsB 13 F a b
    · rw [domB_no h] at hdom; cases hdom
    · rfl
  have hr := hargs
  unfold argsB at hr
  simp only [Bool.and_eq_true] at hr
  obtain ⟨⟨hr1, hr2, hr3⟩, hr4, _⟩ := hr
  have ha := (argIn_iff _).1 hr2
  have hb := (argIn_iff _).1 hr4
  obtain ⟨ha1, ha2⟩ := ha
  obtain ⟨hbb1, hbb2⟩ := hb
  obtain ⟨hD1, hD2⟩ := two_bd hF
  have HD := Lib.hid (fun W : World => sInDomain_any 13 true F a b W)
  have HDI := Lib.hid (fun W : World => iInDomain_any 13 true F a b W)
  rw [hdom] at HD HDI
  have hs := shl_two hF
  have HPW : Hid (∀ W : World, Calls Try.prog 28 #[.int .i64 F] W fun e w' => e = .returned (.int .i64 D) ∧ W = w') := fun W => by
    have := l2Pow_any (F : Int) W (by omega)
    rwa [pw_cast, ← hD] at this
  have HSG := Lib.hid (fun W : World => l20Sign_any a W)
  rw [← hD] at hs
  have hp : 1 ≤ D := by omega
  have hp2 : D ≤ 1152921504606846976 := by omega
  have HDD := Lib.hid hD
  clear hD hD1 hD2 hr1 hr2 hr3 hr4 hargs hdom
  have z0 : (a == 0) = false := by rw [beq_eq_false_iff_ne]; exact h0
  have HTN := Lib.hid (fun W : World => l20Turn_none 13 a F D W hF HDD.out (by omega) ha1 ha2 (by decide) (by decide) (by decide))
  have HOT : Hid (∀ W : World, Calls Try.prog 25 #[.int .i64 13, .int .i64 F, .int .i64 a, .int .i64 b] W fun e w' => e = .returned (.tuple #[.int .i64 0, .int .i64 0, .bool false]) ∧ Below W.heap.size W w') := by
    intro w
    go_enter Try.func25, Try.ntmps25
    go_wp2_with (first | (go_at_call 33; refine (HEI.out _).mono ?_; rintro e w2 ⟨rfl, nq, rfl⟩) | (go_at_call 48; refine (HWV.out _).mono ?_; rintro e w3 ⟨rfl, hb3⟩) | go_in)
    go_ret3
    exact ⟨rfl, by first | exact Below.refl _ _ | exact bl_step (bl_drewN _ _) hb3 | exact bl_drewN _ _⟩
  refine ⟨fun w => ?_, fun w => ?_⟩
  · go_enter Try.func10, Try.ntmps10
    go_wp2_with (first | (go_at_call 26; refine (HD.out _).mono ?_; rintro e w1 ⟨rfl, hb1⟩) | (go_at_call 27; refine (l1Bit_any _ _).mono ?_; rintro e w2 ⟨rfl, rfl⟩) | (go_at_call 28; refine (HPW.out _).mono ?_; rintro e w3 ⟨rfl, rfl⟩) | (go_at_call 53; refine (HSG.out _).mono ?_; rintro e w4 ⟨rfl, rfl⟩) | (go_at_call 30; refine (HTN.out _).mono ?_; rintro e w5 ⟨rfl, hb5⟩) | go_in)
    go_ret3
    exact ⟨rfl, by first | exact hb1 | exact bl_step hb1 hb5⟩
  · go_enter Try.func9, Try.ntmps9
    go_wp2_with (first | (go_at_call 13; refine (HDI.out _).mono ?_; rintro e w1 ⟨rfl, hb1⟩) | (go_at_call 25; refine (HOT.out _).mono ?_; rintro e w9 ⟨rfl, hb5⟩) | go_in)
    go_ret3
    exact ⟨rfl, by first | exact hb1 | exact bl_step hb1 hb5⟩
set_option maxHeartbeats 2000000 in
theorem ex_14_0 (a b D : Int) (F : Nat) (hF : F ≤ 60) (hD : D = ((2 ^ F : Nat) : Int)) (hdom : domB 14 false F a b = true) (h0 : a ≠ 0) : ExB 14 false F a b 0 0 false := by
  have hargs : argsB 14 F a b = true := by
    cases h : argsB 14 F a b
    · rw [domB_no h] at hdom; cases hdom
    · rfl
  have hr := hargs
  unfold argsB at hr
  simp only [Bool.and_eq_true] at hr
  obtain ⟨⟨hr1, hr2, hr3⟩, hr4, _⟩ := hr
  have ha := (argIn_iff _).1 hr2
  have hb := (argIn_iff _).1 hr4
  obtain ⟨ha1, ha2⟩ := ha
  obtain ⟨hbb1, hbb2⟩ := hb
  obtain ⟨hD1, hD2⟩ := two_bd hF
  have HD := Lib.hid (fun W : World => sInDomain_any 14 false F a b W)
  have HDI := Lib.hid (fun W : World => iInDomain_any 14 false F a b W)
  rw [hdom] at HD HDI
  have hs := shl_two hF
  have HPW : Hid (∀ W : World, Calls Try.prog 28 #[.int .i64 F] W fun e w' => e = .returned (.int .i64 D) ∧ W = w') := fun W => by
    have := l2Pow_any (F : Int) W (by omega)
    rwa [pw_cast, ← hD] at this
  have HSG := Lib.hid (fun W : World => l20Sign_any a W)
  rw [← hD] at hs
  have hp : 1 ≤ D := by omega
  have hp2 : D ≤ 1152921504606846976 := by omega
  have HDD := Lib.hid hD
  clear hD hD1 hD2 hr1 hr2 hr3 hr4 hargs hdom
  have z0 : (a == 0) = false := by rw [beq_eq_false_iff_ne]; exact h0
  refine ⟨fun w => ?_, fun w => ?_⟩
  · go_enter Try.func10, Try.ntmps10
    go_wp2_with (first | (go_at_call 26; refine (HD.out _).mono ?_; rintro e w1 ⟨rfl, hb1⟩) | (go_at_call 27; refine (l1Bit_any _ _).mono ?_; rintro e w2 ⟨rfl, rfl⟩) | (go_at_call 28; refine (HPW.out _).mono ?_; rintro e w3 ⟨rfl, rfl⟩) | (go_at_call 53; refine (HSG.out _).mono ?_; rintro e w4 ⟨rfl, rfl⟩) | (go_at_call 30; refine (HTN.out _).mono ?_; rintro e w5 ⟨rfl, hb5⟩) | go_in)
    go_ret3
    exact ⟨rfl, by first | exact hb1 | exact bl_step hb1 hb5⟩
  · go_enter Try.func9, Try.ntmps9
    go_wp2_with (first | (go_at_call 13; refine (HDI.out _).mono ?_; rintro e w1 ⟨rfl, hb1⟩) | (go_at_call 25; refine (HOT.out _).mono ?_; rintro e w9 ⟨rfl, hb5⟩) | go_in)
    go_ret3
    exact ⟨rfl, by first | exact hb1 | exact bl_step hb1 hb5⟩
set_option maxHeartbeats 2000000 in
theorem ex_14_1 (a b D : Int) (F : Nat) (hF : F ≤ 60) (hD : D = ((2 ^ F : Nat) : Int)) (hdom : domB 14 true F a b = true) (h0 : a ≠ 0) : ExB 14 true F a b 0 0 false := by
  have hargs : argsB 14 F a b = true := by
    cases h : argsB 14 F a b
    · rw [domB_no h] at hdom; cases hdom
    · rfl
  have hr := hargs
  unfold argsB at hr
  simp only [Bool.and_eq_true] at hr
  obtain ⟨⟨hr1, hr2, hr3⟩, hr4, _⟩ := hr
  have ha := (argIn_iff _).1 hr2
  have hb := (argIn_iff _).1 hr4
  obtain ⟨ha1, ha2⟩ := ha
  obtain ⟨hbb1, hbb2⟩ := hb
  obtain ⟨hD1, hD2⟩ := two_bd hF
  have HD := Lib.hid (fun W : World => sInDomain_any 14 true F a b W)
  have HDI := Lib.hid (fun W : World => iInDomain_any 14 true F a b W)
  rw [hdom] at HD HDI
  have hs := shl_two hF
  have HPW : Hid (∀ W : World, Calls Try.prog 28 #[.int .i64 F] W fun e w' => e = .returned (.int .i64 D) ∧ W = w') := fun W => by
    have := l2Pow_any (F : Int) W (by omega)
    rwa [pw_cast, ← hD] at this
  have HSG := Lib.hid (fun W : World => l20Sign_any a W)
  rw [← hD] at hs
  have hp : 1 ≤ D := by omega
  have hp2 : D ≤ 1152921504606846976 := by omega
  have HDD := Lib.hid hD
  clear hD hD1 hD2 hr1 hr2 hr3 hr4 hargs hdom
  have z0 : (a == 0) = false := by rw [beq_eq_false_iff_ne]; exact h0
  have HTN := Lib.hid (fun W : World => l20Turn_none 14 a F D W hF HDD.out (by omega) ha1 ha2 (by decide) (by decide) (by decide))
  have HOT : Hid (∀ W : World, Calls Try.prog 25 #[.int .i64 14, .int .i64 F, .int .i64 a, .int .i64 b] W fun e w' => e = .returned (.tuple #[.int .i64 0, .int .i64 0, .bool false]) ∧ Below W.heap.size W w') := by
    intro w
    go_enter Try.func25, Try.ntmps25
    go_wp2_with (first | (go_at_call 33; refine (HEI.out _).mono ?_; rintro e w2 ⟨rfl, nq, rfl⟩) | (go_at_call 48; refine (HWV.out _).mono ?_; rintro e w3 ⟨rfl, hb3⟩) | go_in)
    go_ret3
    exact ⟨rfl, by first | exact Below.refl _ _ | exact bl_step (bl_drewN _ _) hb3 | exact bl_drewN _ _⟩
  refine ⟨fun w => ?_, fun w => ?_⟩
  · go_enter Try.func10, Try.ntmps10
    go_wp2_with (first | (go_at_call 26; refine (HD.out _).mono ?_; rintro e w1 ⟨rfl, hb1⟩) | (go_at_call 27; refine (l1Bit_any _ _).mono ?_; rintro e w2 ⟨rfl, rfl⟩) | (go_at_call 28; refine (HPW.out _).mono ?_; rintro e w3 ⟨rfl, rfl⟩) | (go_at_call 53; refine (HSG.out _).mono ?_; rintro e w4 ⟨rfl, rfl⟩) | (go_at_call 30; refine (HTN.out _).mono ?_; rintro e w5 ⟨rfl, hb5⟩) | go_in)
    go_ret3
    exact ⟨rfl, by first | exact hb1 | exact bl_step hb1 hb5⟩
  · go_enter Try.func9, Try.ntmps9
    go_wp2_with (first | (go_at_call 13; refine (HDI.out _).mono ?_; rintro e w1 ⟨rfl, hb1⟩) | (go_at_call 25; refine (HOT.out _).mono ?_; rintro e w9 ⟨rfl, hb5⟩) | go_in)
    go_ret3
    exact ⟨rfl, by first | exact hb1 | exact bl_step hb1 hb5⟩
set_option maxHeartbeats 2000000 in
theorem ex_5_yes_0 (a b D : Int) (F : Nat) (hF : F ≤ 60) (hD : D = ((2 ^ F : Nat) : Int)) (hdom : domB 5 false F a b = true) (h0 : a = D) : ExB 5 false F a b 0 0 true := by
  have hargs : argsB 5 F a b = true := by
    cases h : argsB 5 F a b
    · rw [domB_no h] at hdom; cases hdom
    · rfl
  have hr := hargs
  unfold argsB at hr
  simp only [Bool.and_eq_true] at hr
  obtain ⟨⟨hr1, hr2, hr3⟩, hr4, _⟩ := hr
  have ha := (argIn_iff _).1 hr2
  have hb := (argIn_iff _).1 hr4
  obtain ⟨ha1, ha2⟩ := ha
  obtain ⟨hbb1, hbb2⟩ := hb
  obtain ⟨hD1, hD2⟩ := two_bd hF
  have HD := Lib.hid (fun W : World => sInDomain_any 5 false F a b W)
  have HDI := Lib.hid (fun W : World => iInDomain_any 5 false F a b W)
  rw [hdom] at HD HDI
  have hs := shl_two hF
  have HPW : Hid (∀ W : World, Calls Try.prog 28 #[.int .i64 F] W fun e w' => e = .returned (.int .i64 D) ∧ W = w') := fun W => by
    have := l2Pow_any (F : Int) W (by omega)
    rwa [pw_cast, ← hD] at this
  have HSG := Lib.hid (fun W : World => l20Sign_any a W)
  rw [← hD] at hs
  have hp : 1 ≤ D := by omega
  have hp2 : D ≤ 1152921504606846976 := by omega
  have HDD := Lib.hid hD
  clear hD hD1 hD2 hr1 hr2 hr3 hr4 hargs hdom
  subst h0
  have z1 : (a == 0) = false := by rw [beq_eq_false_iff_ne]; omega
  refine ⟨fun w => ?_, fun w => ?_⟩
  · go_enter Try.func10, Try.ntmps10
    go_wp2_with (first | (go_at_call 26; refine (HD.out _).mono ?_; rintro e w1 ⟨rfl, hb1⟩) | (go_at_call 27; refine (l1Bit_any _ _).mono ?_; rintro e w2 ⟨rfl, rfl⟩) | (go_at_call 28; refine (HPW.out _).mono ?_; rintro e w3 ⟨rfl, rfl⟩) | (go_at_call 53; refine (HSG.out _).mono ?_; rintro e w4 ⟨rfl, rfl⟩) | (go_at_call 30; refine (HTN.out _).mono ?_; rintro e w5 ⟨rfl, hb5⟩) | go_in)
    go_ret3
    exact ⟨rfl, by first | exact hb1 | exact bl_step hb1 hb5⟩
  · go_enter Try.func9, Try.ntmps9
    go_wp2_with (first | (go_at_call 13; refine (HDI.out _).mono ?_; rintro e w1 ⟨rfl, hb1⟩) | (go_at_call 25; refine (HOT.out _).mono ?_; rintro e w9 ⟨rfl, hb5⟩) | go_in)
    go_ret3
    exact ⟨rfl, by first | exact hb1 | exact bl_step hb1 hb5⟩
set_option maxHeartbeats 2000000 in
theorem ex_5_no_0 (a b D : Int) (F : Nat) (hF : F ≤ 60) (hD : D = ((2 ^ F : Nat) : Int)) (hdom : domB 5 false F a b = true) (h0 : a ≠ D) (hap : 0 < a) : ExB 5 false F a b 0 0 false := by
  have hargs : argsB 5 F a b = true := by
    cases h : argsB 5 F a b
    · rw [domB_no h] at hdom; cases hdom
    · rfl
  have hr := hargs
  unfold argsB at hr
  simp only [Bool.and_eq_true] at hr
  obtain ⟨⟨hr1, hr2, hr3⟩, hr4, _⟩ := hr
  have ha := (argIn_iff _).1 hr2
  have hb := (argIn_iff _).1 hr4
  obtain ⟨ha1, ha2⟩ := ha
  obtain ⟨hbb1, hbb2⟩ := hb
  obtain ⟨hD1, hD2⟩ := two_bd hF
  have HD := Lib.hid (fun W : World => sInDomain_any 5 false F a b W)
  have HDI := Lib.hid (fun W : World => iInDomain_any 5 false F a b W)
  rw [hdom] at HD HDI
  have hs := shl_two hF
  have HPW : Hid (∀ W : World, Calls Try.prog 28 #[.int .i64 F] W fun e w' => e = .returned (.int .i64 D) ∧ W = w') := fun W => by
    have := l2Pow_any (F : Int) W (by omega)
    rwa [pw_cast, ← hD] at this
  have HSG := Lib.hid (fun W : World => l20Sign_any a W)
  rw [← hD] at hs
  have hp : 1 ≤ D := by omega
  have hp2 : D ≤ 1152921504606846976 := by omega
  have HDD := Lib.hid hD
  clear hD hD1 hD2 hr1 hr2 hr3 hr4 hargs hdom
  have z0 : (a == D) = false := by rw [beq_eq_false_iff_ne]; exact h0
  have z1 : (a == 0) = false := by rw [beq_eq_false_iff_ne]; omega
  clear h0
  refine ⟨fun w => ?_, fun w => ?_⟩
  · go_enter Try.func10, Try.ntmps10
    go_wp2_with (first | (go_at_call 26; refine (HD.out _).mono ?_; rintro e w1 ⟨rfl, hb1⟩) | (go_at_call 27; refine (l1Bit_any _ _).mono ?_; rintro e w2 ⟨rfl, rfl⟩) | (go_at_call 28; refine (HPW.out _).mono ?_; rintro e w3 ⟨rfl, rfl⟩) | (go_at_call 53; refine (HSG.out _).mono ?_; rintro e w4 ⟨rfl, rfl⟩) | (go_at_call 30; refine (HTN.out _).mono ?_; rintro e w5 ⟨rfl, hb5⟩) | go_in)
    go_ret3
    exact ⟨rfl, by first | exact hb1 | exact bl_step hb1 hb5⟩
  · go_enter Try.func9, Try.ntmps9
    go_wp2_with (first | (go_at_call 13; refine (HDI.out _).mono ?_; rintro e w1 ⟨rfl, hb1⟩) | (go_at_call 25; refine (HOT.out _).mono ?_; rintro e w9 ⟨rfl, hb5⟩) | go_in)
    go_ret3
    exact ⟨rfl, by first | exact hb1 | exact bl_step hb1 hb5⟩
set_option maxHeartbeats 2000000 in
theorem ex_5_yes_1 (a b D : Int) (F : Nat) (hF : F ≤ 60) (hD : D = ((2 ^ F : Nat) : Int)) (hdom : domB 5 true F a b = true) (h0 : a = D) : ExB 5 true F a b 0 0 true := by
  have hargs : argsB 5 F a b = true := by
    cases h : argsB 5 F a b
    · rw [domB_no h] at hdom; cases hdom
    · rfl
  have hr := hargs
  unfold argsB at hr
  simp only [Bool.and_eq_true] at hr
  obtain ⟨⟨hr1, hr2, hr3⟩, hr4, _⟩ := hr
  have ha := (argIn_iff _).1 hr2
  have hb := (argIn_iff _).1 hr4
  obtain ⟨ha1, ha2⟩ := ha
  obtain ⟨hbb1, hbb2⟩ := hb
  obtain ⟨hD1, hD2⟩ := two_bd hF
  have HD := Lib.hid (fun W : World => sInDomain_any 5 true F a b W)
  have HDI := Lib.hid (fun W : World => iInDomain_any 5 true F a b W)
  rw [hdom] at HD HDI
  have hs := shl_two hF
  have HPW : Hid (∀ W : World, Calls Try.prog 28 #[.int .i64 F] W fun e w' => e = .returned (.int .i64 D) ∧ W = w') := fun W => by
    have := l2Pow_any (F : Int) W (by omega)
    rwa [pw_cast, ← hD] at this
  have HSG := Lib.hid (fun W : World => l20Sign_any a W)
  rw [← hD] at hs
  have hp : 1 ≤ D := by omega
  have hp2 : D ≤ 1152921504606846976 := by omega
  have HDD := Lib.hid hD
  clear hD hD1 hD2 hr1 hr2 hr3 hr4 hargs hdom
  subst h0
  have z1 : (a == 0) = false := by rw [beq_eq_false_iff_ne]; omega
  refine ⟨fun w => ?_, fun w => ?_⟩
  · go_enter Try.func10, Try.ntmps10
    go_wp2_with (first | (go_at_call 26; refine (HD.out _).mono ?_; rintro e w1 ⟨rfl, hb1⟩) | (go_at_call 27; refine (l1Bit_any _ _).mono ?_; rintro e w2 ⟨rfl, rfl⟩) | (go_at_call 28; refine (HPW.out _).mono ?_; rintro e w3 ⟨rfl, rfl⟩) | (go_at_call 53; refine (HSG.out _).mono ?_; rintro e w4 ⟨rfl, rfl⟩) | (go_at_call 30; refine (HTN.out _).mono ?_; rintro e w5 ⟨rfl, hb5⟩) | go_in)
    go_ret3
    exact ⟨rfl, by first | exact hb1 | exact bl_step hb1 hb5⟩
  · go_enter Try.func9, Try.ntmps9
    go_wp2_with (first | (go_at_call 13; refine (HDI.out _).mono ?_; rintro e w1 ⟨rfl, hb1⟩) | (go_at_call 25; refine (HOT.out _).mono ?_; rintro e w9 ⟨rfl, hb5⟩) | go_in)
    go_ret3
    exact ⟨rfl, by first | exact hb1 | exact bl_step hb1 hb5⟩
set_option maxHeartbeats 2000000 in
theorem ex_5_no_1 (a b D : Int) (F : Nat) (hF : F ≤ 60) (hD : D = ((2 ^ F : Nat) : Int)) (hdom : domB 5 true F a b = true) (h0 : a ≠ D) (hap : 0 < a) : ExB 5 true F a b 0 0 false := by
  have hargs : argsB 5 F a b = true := by
    cases h : argsB 5 F a b
    · rw [domB_no h] at hdom; cases hdom
    · rfl
  have hr := hargs
  unfold argsB at hr
  simp only [Bool.and_eq_true] at hr
  obtain ⟨⟨hr1, hr2, hr3⟩, hr4, _⟩ := hr
  have ha := (argIn_iff _).1 hr2
  have hb := (argIn_iff _).1 hr4
  obtain ⟨ha1, ha2⟩ := ha
  obtain ⟨hbb1, hbb2⟩ := hb
  obtain ⟨hD1, hD2⟩ := two_bd hF
  have HD := Lib.hid (fun W : World => sInDomain_any 5 true F a b W)
  have HDI := Lib.hid (fun W : World => iInDomain_any 5 true F a b W)
  rw [hdom] at HD HDI
  have hs := shl_two hF
  have HPW : Hid (∀ W : World, Calls Try.prog 28 #[.int .i64 F] W fun e w' => e = .returned (.int .i64 D) ∧ W = w') := fun W => by
    have := l2Pow_any (F : Int) W (by omega)
    rwa [pw_cast, ← hD] at this
  have HSG := Lib.hid (fun W : World => l20Sign_any a W)
  rw [← hD] at hs
  have hp : 1 ≤ D := by omega
  have hp2 : D ≤ 1152921504606846976 := by omega
  have HDD := Lib.hid hD
  clear hD hD1 hD2 hr1 hr2 hr3 hr4 hargs hdom
  have z0 : (a == D) = false := by rw [beq_eq_false_iff_ne]; exact h0
  have z1 : (a == 0) = false := by rw [beq_eq_false_iff_ne]; omega
  clear h0
  have HOT : Hid (∀ W : World, Calls Try.prog 25 #[.int .i64 5, .int .i64 F, .int .i64 a, .int .i64 b] W fun e w' => e = .returned (.tuple #[.int .i64 0, .int .i64 0, .bool false]) ∧ Below W.heap.size W w') := by
    intro w
    go_enter Try.func25, Try.ntmps25
    go_wp2_with (first | (go_at_call 33; refine (HEI.out _).mono ?_; rintro e w2 ⟨rfl, nq, rfl⟩) | (go_at_call 48; refine (HWV.out _).mono ?_; rintro e w3 ⟨rfl, hb3⟩) | go_in)
    go_ret3
    exact ⟨rfl, by first | exact Below.refl _ _ | exact bl_step (bl_drewN _ _) hb3 | exact bl_drewN _ _⟩
  refine ⟨fun w => ?_, fun w => ?_⟩
  · go_enter Try.func10, Try.ntmps10
    go_wp2_with (first | (go_at_call 26; refine (HD.out _).mono ?_; rintro e w1 ⟨rfl, hb1⟩) | (go_at_call 27; refine (l1Bit_any _ _).mono ?_; rintro e w2 ⟨rfl, rfl⟩) | (go_at_call 28; refine (HPW.out _).mono ?_; rintro e w3 ⟨rfl, rfl⟩) | (go_at_call 53; refine (HSG.out _).mono ?_; rintro e w4 ⟨rfl, rfl⟩) | (go_at_call 30; refine (HTN.out _).mono ?_; rintro e w5 ⟨rfl, hb5⟩) | go_in)
    go_ret3
    exact ⟨rfl, by first | exact hb1 | exact bl_step hb1 hb5⟩
  · go_enter Try.func9, Try.ntmps9
    go_wp2_with (first | (go_at_call 13; refine (HDI.out _).mono ?_; rintro e w1 ⟨rfl, hb1⟩) | (go_at_call 25; refine (HOT.out _).mono ?_; rintro e w9 ⟨rfl, hb5⟩) | go_in)
    go_ret3
    exact ⟨rfl, by first | exact hb1 | exact bl_step hb1 hb5⟩
end Go.Proofs.Ytimjfcipkmcgmaa
