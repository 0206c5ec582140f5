/-
  PROVED: what is exact, the reference's and the program's, case by case (the second part).
  CONDITIONS: none.
-/
import Derived.Test.YtimjfcipkmcgmaaExactD
namespace Go.Proofs.Ytimjfcipkmcgmaa
open Go.ChangeShapes Go.WideShapes Go.ChangeAt Go.RowKit
set_option linter.unusedVariables false
set_option maxHeartbeats 2000000 in
theorem ex_9_0 (a b D : Int) (F : Nat) (hF : F ≤ 60) (hD : D = ((2 ^ F : Nat) : Int)) (hdom : domB 9 false F a b = true) (h0 : a ≠ 0) : ExB 9 false F a b 0 0 false := by
  have hargs : argsB 9 F a b = true := by
    cases h : argsB 9 F a b
    · rw [domB_no h] at hdom; cases hdom
    · rfl
  have hr := hargs
  unfold argsB at hr
  simp only [Bool.and_eq_true] at hr
  obtain ⟨⟨hr1, hr2, hr3⟩, hr4, _⟩ := hr
  have ha := (argIn_iff _).1 hr2
  have hb := (argIn_iff _).1 hr4
  obtain ⟨ha1, ha2⟩ := ha
  obtain ⟨hbb1, hbb2⟩ := hb
  obtain ⟨hD1, hD2⟩ := two_bd hF
  have HD := Lib.hid (fun W : World => sInDomain_any 9 false F a b W)
  have HDI := Lib.hid (fun W : World => iInDomain_any 9 false F a b W)
  rw [hdom] at HD HDI
  have hs := shl_two hF
  have HPW : Hid (∀ W : World, Calls Try.prog 28 #[.int .i64 F] W fun e w' => e = .returned (.int .i64 D) ∧ W = w') := fun W => by
    have := l2Pow_any (F : Int) W (by omega)
    rwa [pw_cast, ← hD] at this
  have HSG := Lib.hid (fun W : World => l20Sign_any a W)
  rw [← hD] at hs
  have hp : 1 ≤ D := by omega
  have hp2 : D ≤ 1152921504606846976 := by omega
  have HDD := Lib.hid hD
  clear hD hD1 hD2 hr1 hr2 hr3 hr4 hargs hdom
  have z0 : (a == 0) = false := by rw [beq_eq_false_iff_ne]; exact h0
  refine ⟨fun w => ?_, fun w => ?_⟩
  · go_enter Try.func10, Try.ntmps10
    go_wp2_with (first | (go_at_call 26; refine (HD.out _).mono ?_; rintro e w1 ⟨rfl, hb1⟩) | (go_at_call 27; refine (l1Bit_any _ _).mono ?_; rintro e w2 ⟨rfl, rfl⟩) | (go_at_call 28; refine (HPW.out _).mono ?_; rintro e w3 ⟨rfl, rfl⟩) | (go_at_call 53; refine (HSG.out _).mono ?_; rintro e w4 ⟨rfl, rfl⟩) | (go_at_call 30; refine (HTN.out _).mono ?_; rintro e w5 ⟨rfl, hb5⟩) | go_in)
    go_ret3
    exact ⟨rfl, by first | exact hb1 | exact bl_step hb1 hb5⟩
  · go_enter Try.func9, Try.ntmps9
    go_wp2_with (first | (go_at_call 13; refine (HDI.out _).mono ?_; rintro e w1 ⟨rfl, hb1⟩) | (go_at_call 25; refine (HOT.out _).mono ?_; rintro e w9 ⟨rfl, hb5⟩) | go_in)
    go_ret3
    exact ⟨rfl, by first | exact hb1 | exact bl_step hb1 hb5⟩
set_option maxHeartbeats 2000000 in
theorem ex_9_pos (a b D : Int) (F : Nat) (hF : F ≤ 60) (hD : D = ((2 ^ F : Nat) : Int)) (hdom : domB 9 true F a b = true) (h0 : a = D) : ExB 9 true F a b 1 3 true := by
  have hargs : argsB 9 F a b = true := by
    cases h : argsB 9 F a b
    · rw [domB_no h] at hdom; cases hdom
    · rfl
  have hr := hargs
  unfold argsB at hr
  simp only [Bool.and_eq_true] at hr
  obtain ⟨⟨hr1, hr2, hr3⟩, hr4, _⟩ := hr
  have ha := (argIn_iff _).1 hr2
  have hb := (argIn_iff _).1 hr4
  obtain ⟨ha1, ha2⟩ := ha
  obtain ⟨hbb1, hbb2⟩ := hb
  obtain ⟨hD1, hD2⟩ := two_bd hF
  have HD := Lib.hid (fun W : World => sInDomain_any 9 true F a b W)
  have HDI := Lib.hid (fun W : World => iInDomain_any 9 true F a b W)
  rw [hdom] at HD HDI
  have hs := shl_two hF
  have HPW : Hid (∀ W : World, Calls Try.prog 28 #[.int .i64 F] W fun e w' => e = .returned (.int .i64 D) ∧ W = w') := fun W => by
    have := l2Pow_any (F : Int) W (by omega)
    rwa [pw_cast, ← hD] at this
  have HSG := Lib.hid (fun W : World => l20Sign_any a W)
  rw [← hD] at hs
  have hp : 1 ≤ D := by omega
  have hp2 : D ≤ 1152921504606846976 := by omega
  have HDD := Lib.hid hD
  clear hD hD1 hD2 hr1 hr2 hr3 hr4 hargs hdom
  subst h0
  have z0 : (a == 0) = false := by rw [beq_eq_false_iff_ne]; omega
  have hsg : sgnI a = 1 := if_neg (by omega)
  rw [hsg] at HSG
  clear hsg
  have HOT : Hid (∀ W : World, Calls Try.prog 25 #[.int .i64 9, .int .i64 F, .int .i64 a, .int .i64 b] W fun e w' => e = .returned (.tuple #[.int .i64 1, .int .i64 3, .bool true]) ∧ Below W.heap.size W w') := by
    intro w
    go_enter Try.func25, Try.ntmps25
    go_wp2_with (first | (go_at_call 33; refine (HEI.out _).mono ?_; rintro e w2 ⟨rfl, nq, rfl⟩) | (go_at_call 48; refine (HWV.out _).mono ?_; rintro e w3 ⟨rfl, hb3⟩) | go_in)
    go_ret3
    exact ⟨rfl, by first | exact Below.refl _ _ | exact bl_step (bl_drewN _ _) hb3 | exact bl_drewN _ _⟩
  refine ⟨fun w => ?_, fun w => ?_⟩
  · go_enter Try.func10, Try.ntmps10
    go_wp2_with (first | (go_at_call 26; refine (HD.out _).mono ?_; rintro e w1 ⟨rfl, hb1⟩) | (go_at_call 27; refine (l1Bit_any _ _).mono ?_; rintro e w2 ⟨rfl, rfl⟩) | (go_at_call 28; refine (HPW.out _).mono ?_; rintro e w3 ⟨rfl, rfl⟩) | (go_at_call 53; refine (HSG.out _).mono ?_; rintro e w4 ⟨rfl, rfl⟩) | (go_at_call 30; refine (HTN.out _).mono ?_; rintro e w5 ⟨rfl, hb5⟩) | go_in)
    go_ret3
    exact ⟨rfl, by first | exact hb1 | exact bl_step hb1 hb5⟩
  · go_enter Try.func9, Try.ntmps9
    go_wp2_with (first | (go_at_call 13; refine (HDI.out _).mono ?_; rintro e w1 ⟨rfl, hb1⟩) | (go_at_call 25; refine (HOT.out _).mono ?_; rintro e w9 ⟨rfl, hb5⟩) | go_in)
    go_ret3
    exact ⟨rfl, by first | exact hb1 | exact bl_step hb1 hb5⟩
set_option maxHeartbeats 2000000 in
theorem ex_9_neg (a b D : Int) (F : Nat) (hF : F ≤ 60) (hD : D = ((2 ^ F : Nat) : Int)) (hdom : domB 9 true F a b = true) (h0 : a = -D) : ExB 9 true F a b (-1) 3 true := by
  have hargs : argsB 9 F a b = true := by
    cases h : argsB 9 F a b
    · rw [domB_no h] at hdom; cases hdom
    · rfl
  have hr := hargs
  unfold argsB at hr
  simp only [Bool.and_eq_true] at hr
  obtain ⟨⟨hr1, hr2, hr3⟩, hr4, _⟩ := hr
  have ha := (argIn_iff _).1 hr2
  have hb := (argIn_iff _).1 hr4
  obtain ⟨ha1, ha2⟩ := ha
  obtain ⟨hbb1, hbb2⟩ := hb
  obtain ⟨hD1, hD2⟩ := two_bd hF
  have HD := Lib.hid (fun W : World => sInDomain_any 9 true F a b W)
  have HDI := Lib.hid (fun W : World => iInDomain_any 9 true F a b W)
  rw [hdom] at HD HDI
  have hs := shl_two hF
  have HPW : Hid (∀ W : World, Calls Try.prog 28 #[.int .i64 F] W fun e w' => e = .returned (.int .i64 D) ∧ W = w') := fun W => by
    have := l2Pow_any (F : Int) W (by omega)
    rwa [pw_cast, ← hD] at this
  have HSG := Lib.hid (fun W : World => l20Sign_any a W)
  rw [← hD] at hs
  have hp : 1 ≤ D := by omega
  have hp2 : D ≤ 1152921504606846976 := by omega
  have HDD := Lib.hid hD
  clear hD hD1 hD2 hr1 hr2 hr3 hr4 hargs hdom
  obtain rfl : D = -a := by omega
  have z0 : (a == 0) = false := by rw [beq_eq_false_iff_ne]; omega
  have z1 : (-a == 0) = false := by rw [beq_eq_false_iff_ne]; omega
  have z2 : (-a == a) = false := by rw [beq_eq_false_iff_ne]; omega
  have z3 : (a == -a) = false := by rw [beq_eq_false_iff_ne]; omega
  have hsg : sgnI a = -1 := if_pos (by omega)
  rw [hsg] at HSG
  clear hsg h0
  have HOT : Hid (∀ W : World, Calls Try.prog 25 #[.int .i64 9, .int .i64 F, .int .i64 a, .int .i64 b] W fun e w' => e = .returned (.tuple #[.int .i64 (-1), .int .i64 3, .bool true]) ∧ Below W.heap.size W w') := by
    intro w
    go_enter Try.func25, Try.ntmps25
    go_wp2_with (first | (go_at_call 33; refine (HEI.out _).mono ?_; rintro e w2 ⟨rfl, nq, rfl⟩) | (go_at_call 48; refine (HWV.out _).mono ?_; rintro e w3 ⟨rfl, hb3⟩) | go_in)
    go_ret3
    exact ⟨rfl, by first | exact Below.refl _ _ | exact bl_step (bl_drewN _ _) hb3 | exact bl_drewN _ _⟩
  refine ⟨fun w => ?_, fun w => ?_⟩
  · go_enter Try.func10, Try.ntmps10
    go_wp2_with (first | (go_at_call 26; refine (HD.out _).mono ?_; rintro e w1 ⟨rfl, hb1⟩) | (go_at_call 27; refine (l1Bit_any _ _).mono ?_; rintro e w2 ⟨rfl, rfl⟩) | (go_at_call 28; refine (HPW.out _).mono ?_; rintro e w3 ⟨rfl, rfl⟩) | (go_at_call 53; refine (HSG.out _).mono ?_; rintro e w4 ⟨rfl, rfl⟩) | (go_at_call 30; refine (HTN.out _).mono ?_; rintro e w5 ⟨rfl, hb5⟩) | go_in)
    go_ret3
    exact ⟨rfl, by first | exact hb1 | exact bl_step hb1 hb5⟩
  · go_enter Try.func9, Try.ntmps9
    go_wp2_with (first | (go_at_call 13; refine (HDI.out _).mono ?_; rintro e w1 ⟨rfl, hb1⟩) | (go_at_call 25; refine (HOT.out _).mono ?_; rintro e w9 ⟨rfl, hb5⟩) | go_in)
    go_ret3
    exact ⟨rfl, by first | exact hb1 | exact bl_step hb1 hb5⟩
set_option maxHeartbeats 2000000 in
theorem ex_9_no (a b D : Int) (F : Nat) (hF : F ≤ 60) (hD : D = ((2 ^ F : Nat) : Int)) (hdom : domB 9 true F a b = true) (h0 : a ≠ 0) (h1 : a ≠ D) (h2 : a ≠ -D) : ExB 9 true F a b 0 0 false := by
  have hargs : argsB 9 F a b = true := by
    cases h : argsB 9 F a b
    · rw [domB_no h] at hdom; cases hdom
    · rfl
  have hr := hargs
  unfold argsB at hr
  simp only [Bool.and_eq_true] at hr
  obtain ⟨⟨hr1, hr2, hr3⟩, hr4, _⟩ := hr
  have ha := (argIn_iff _).1 hr2
  have hb := (argIn_iff _).1 hr4
  obtain ⟨ha1, ha2⟩ := ha
  obtain ⟨hbb1, hbb2⟩ := hb
  obtain ⟨hD1, hD2⟩ := two_bd hF
  have HD := Lib.hid (fun W : World => sInDomain_any 9 true F a b W)
  have HDI := Lib.hid (fun W : World => iInDomain_any 9 true F a b W)
  rw [hdom] at HD HDI
  have hs := shl_two hF
  have HPW : Hid (∀ W : World, Calls Try.prog 28 #[.int .i64 F] W fun e w' => e = .returned (.int .i64 D) ∧ W = w') := fun W => by
    have := l2Pow_any (F : Int) W (by omega)
    rwa [pw_cast, ← hD] at this
  have HSG := Lib.hid (fun W : World => l20Sign_any a W)
  rw [← hD] at hs
  have hp : 1 ≤ D := by omega
  have hp2 : D ≤ 1152921504606846976 := by omega
  have HDD := Lib.hid hD
  clear hD hD1 hD2 hr1 hr2 hr3 hr4 hargs hdom
  have z0 : (a == 0) = false := by rw [beq_eq_false_iff_ne]; exact h0
  have z1 : (D == 0) = false := by rw [beq_eq_false_iff_ne]; omega
  have z2 : (D == a) = false := by rw [beq_eq_false_iff_ne]; omega
  have z3 : (D == -a) = false := by rw [beq_eq_false_iff_ne]; omega
  have z4 : (a == D) = false := by rw [beq_eq_false_iff_ne]; omega
  have z5 : (a == -D) = false := by rw [beq_eq_false_iff_ne]; omega
  clear h0 h1 h2
  have HOT : Hid (∀ W : World, Calls Try.prog 25 #[.int .i64 9, .int .i64 F, .int .i64 a, .int .i64 b] W fun e w' => e = .returned (.tuple #[.int .i64 0, .int .i64 0, .bool false]) ∧ Below W.heap.size W w') := by
    intro w
    go_enter Try.func25, Try.ntmps25
    go_wp2_with (first | (go_at_call 33; refine (HEI.out _).mono ?_; rintro e w2 ⟨rfl, nq, rfl⟩) | (go_at_call 48; refine (HWV.out _).mono ?_; rintro e w3 ⟨rfl, hb3⟩) | go_in)
    go_ret3
    exact ⟨rfl, by first | exact Below.refl _ _ | exact bl_step (bl_drewN _ _) hb3 | exact bl_drewN _ _⟩
  refine ⟨fun w => ?_, fun w => ?_⟩
  · go_enter Try.func10, Try.ntmps10
    go_wp2_with (first | (go_at_call 26; refine (HD.out _).mono ?_; rintro e w1 ⟨rfl, hb1⟩) | (go_at_call 27; refine (l1Bit_any _ _).mono ?_; rintro e w2 ⟨rfl, rfl⟩) | (go_at_call 28; refine (HPW.out _).mono ?_; rintro e w3 ⟨rfl, rfl⟩) | (go_at_call 53; refine (HSG.out _).mono ?_; rintro e w4 ⟨rfl, rfl⟩) | (go_at_call 30; refine (HTN.out _).mono ?_; rintro e w5 ⟨rfl, hb5⟩) | go_in)
    go_ret3
    exact ⟨rfl, by first | exact hb1 | exact bl_step hb1 hb5⟩
  · go_enter Try.func9, Try.ntmps9
    go_wp2_with (first | (go_at_call 13; refine (HDI.out _).mono ?_; rintro e w1 ⟨rfl, hb1⟩) | (go_at_call 25; refine (HOT.out _).mono ?_; rintro e w9 ⟨rfl, hb5⟩) | go_in)
    go_ret3
    exact ⟨rfl, by first | exact hb1 | exact bl_step hb1 hb5⟩
set_option maxHeartbeats 2000000 in
theorem ex_10_right (a b D : Int) (F : Nat) (turns : Bool) (hF : F ≤ 60) (hD : D = ((2 ^ F : Nat) : Int)) (hdom : domB 10 turns F a b = true) (h0 : a = 0) (h1 : 0 < b) : ExB 10 turns F a b 0 0 true := by
  have hargs : argsB 10 F a b = true := by
    cases h : argsB 10 F a b
    · rw [domB_no h] at hdom; cases hdom
    · rfl
  have hr := hargs
  unfold argsB at hr
  simp only [Bool.and_eq_true] at hr
  obtain ⟨⟨hr1, hr2, hr3⟩, hr4, _⟩ := hr
  have ha := (argIn_iff _).1 hr2
  have hb := (argIn_iff _).1 hr4
  obtain ⟨ha1, ha2⟩ := ha
  obtain ⟨hbb1, hbb2⟩ := hb
  obtain ⟨hD1, hD2⟩ := two_bd hF
  have HD := Lib.hid (fun W : World => sInDomain_any 10 turns F a b W)
  have HDI := Lib.hid (fun W : World => iInDomain_any 10 turns F a b W)
  rw [hdom] at HD HDI
  have hs := shl_two hF
  have HPW : Hid (∀ W : World, Calls Try.prog 28 #[.int .i64 F] W fun e w' => e = .returned (.int .i64 D) ∧ W = w') := fun W => by
    have := l2Pow_any (F : Int) W (by omega)
    rwa [pw_cast, ← hD] at this
  have HSG := Lib.hid (fun W : World => l20Sign_any a W)
  rw [← hD] at hs
  have hp : 1 ≤ D := by omega
  have hp2 : D ≤ 1152921504606846976 := by omega
  have HDD := Lib.hid hD
  clear hD hD1 hD2 hr1 hr2 hr3 hr4 hargs hdom
  subst h0
  refine ⟨fun w => ?_, fun w => ?_⟩
  · go_enter Try.func10, Try.ntmps10
    go_wp2_with (first | (go_at_call 26; refine (HD.out _).mono ?_; rintro e w1 ⟨rfl, hb1⟩) | (go_at_call 27; refine (l1Bit_any _ _).mono ?_; rintro e w2 ⟨rfl, rfl⟩) | (go_at_call 28; refine (HPW.out _).mono ?_; rintro e w3 ⟨rfl, rfl⟩) | (go_at_call 53; refine (HSG.out _).mono ?_; rintro e w4 ⟨rfl, rfl⟩) | (go_at_call 30; refine (HTN.out _).mono ?_; rintro e w5 ⟨rfl, hb5⟩) | go_in)
    go_ret3
    exact ⟨rfl, by first | exact hb1 | exact bl_step hb1 hb5⟩
  · go_enter Try.func9, Try.ntmps9
    go_wp2_with (first | (go_at_call 13; refine (HDI.out _).mono ?_; rintro e w1 ⟨rfl, hb1⟩) | (go_at_call 25; refine (HOT.out _).mono ?_; rintro e w9 ⟨rfl, hb5⟩) | go_in)
    go_ret3
    exact ⟨rfl, by first | exact hb1 | exact bl_step hb1 hb5⟩
set_option maxHeartbeats 2000000 in
theorem ex_10_off0 (a b D : Int) (F : Nat) (hF : F ≤ 60) (hD : D = ((2 ^ F : Nat) : Int)) (hdom : domB 10 false F a b = true) (h0 : a = 0) (h1 : ¬ 0 < b) : ExB 10 false F a b 0 0 false := by
  have hargs : argsB 10 F a b = true := by
    cases h : argsB 10 F a b
    · rw [domB_no h] at hdom; cases hdom
    · rfl
  have hr := hargs
  unfold argsB at hr
  simp only [Bool.and_eq_true] at hr
  obtain ⟨⟨hr1, hr2, hr3⟩, hr4, _⟩ := hr
  have ha := (argIn_iff _).1 hr2
  have hb := (argIn_iff _).1 hr4
  obtain ⟨ha1, ha2⟩ := ha
  obtain ⟨hbb1, hbb2⟩ := hb
  obtain ⟨hD1, hD2⟩ := two_bd hF
  have HD := Lib.hid (fun W : World => sInDomain_any 10 false F a b W)
  have HDI := Lib.hid (fun W : World => iInDomain_any 10 false F a b W)
  rw [hdom] at HD HDI
  have hs := shl_two hF
  have HPW : Hid (∀ W : World, Calls Try.prog 28 #[.int .i64 F] W fun e w' => e = .returned (.int .i64 D) ∧ W = w') := fun W => by
    have := l2Pow_any (F : Int) W (by omega)
    rwa [pw_cast, ← hD] at this
  have HSG := Lib.hid (fun W : World => l20Sign_any a W)
  rw [← hD] at hs
  have hp : 1 ≤ D := by omega
  have hp2 : D ≤ 1152921504606846976 := by omega
  have HDD := Lib.hid hD
  clear hD hD1 hD2 hr1 hr2 hr3 hr4 hargs hdom
  subst h0
  refine ⟨fun w => ?_, fun w => ?_⟩
  · go_enter Try.func10, Try.ntmps10
    go_wp2_with (first | (go_at_call 26; refine (HD.out _).mono ?_; rintro e w1 ⟨rfl, hb1⟩) | (go_at_call 27; refine (l1Bit_any _ _).mono ?_; rintro e w2 ⟨rfl, rfl⟩) | (go_at_call 28; refine (HPW.out _).mono ?_; rintro e w3 ⟨rfl, rfl⟩) | (go_at_call 53; refine (HSG.out _).mono ?_; rintro e w4 ⟨rfl, rfl⟩) | (go_at_call 30; refine (HTN.out _).mono ?_; rintro e w5 ⟨rfl, hb5⟩) | go_in)
    go_ret3
    exact ⟨rfl, by first | exact hb1 | exact bl_step hb1 hb5⟩
  · go_enter Try.func9, Try.ntmps9
    go_wp2_with (first | (go_at_call 13; refine (HDI.out _).mono ?_; rintro e w1 ⟨rfl, hb1⟩) | (go_at_call 25; refine (HOT.out _).mono ?_; rintro e w9 ⟨rfl, hb5⟩) | go_in)
    go_ret3
    exact ⟨rfl, by first | exact hb1 | exact bl_step hb1 hb5⟩
set_option maxHeartbeats 2000000 in
theorem ex_10_offn (a b D : Int) (F : Nat) (hF : F ≤ 60) (hD : D = ((2 ^ F : Nat) : Int)) (hdom : domB 10 false F a b = true) (h0 : a ≠ 0) : ExB 10 false F a b 0 0 false := by
  have hargs : argsB 10 F a b = true := by
    cases h : argsB 10 F a b
    · rw [domB_no h] at hdom; cases hdom
    · rfl
  have hr := hargs
  unfold argsB at hr
  simp only [Bool.and_eq_true] at hr
  obtain ⟨⟨hr1, hr2, hr3⟩, hr4, _⟩ := hr
  have ha := (argIn_iff _).1 hr2
  have hb := (argIn_iff _).1 hr4
  obtain ⟨ha1, ha2⟩ := ha
  obtain ⟨hbb1, hbb2⟩ := hb
  obtain ⟨hD1, hD2⟩ := two_bd hF
  have HD := Lib.hid (fun W : World => sInDomain_any 10 false F a b W)
  have HDI := Lib.hid (fun W : World => iInDomain_any 10 false F a b W)
  rw [hdom] at HD HDI
  have hs := shl_two hF
  have HPW : Hid (∀ W : World, Calls Try.prog 28 #[.int .i64 F] W fun e w' => e = .returned (.int .i64 D) ∧ W = w') := fun W => by
    have := l2Pow_any (F : Int) W (by omega)
    rwa [pw_cast, ← hD] at this
  have HSG := Lib.hid (fun W : World => l20Sign_any a W)
  rw [← hD] at hs
  have hp : 1 ≤ D := by omega
  have hp2 : D ≤ 1152921504606846976 := by omega
  have HDD := Lib.hid hD
  clear hD hD1 hD2 hr1 hr2 hr3 hr4 hargs hdom
  have z0 : (a == 0) = false := by rw [beq_eq_false_iff_ne]; exact h0
  refine ⟨fun w => ?_, fun w => ?_⟩
  · go_enter Try.func10, Try.ntmps10
    go_wp2_with (first | (go_at_call 26; refine (HD.out _).mono ?_; rintro e w1 ⟨rfl, hb1⟩) | (go_at_call 27; refine (l1Bit_any _ _).mono ?_; rintro e w2 ⟨rfl, rfl⟩) | (go_at_call 28; refine (HPW.out _).mono ?_; rintro e w3 ⟨rfl, rfl⟩) | (go_at_call 53; refine (HSG.out _).mono ?_; rintro e w4 ⟨rfl, rfl⟩) | (go_at_call 30; refine (HTN.out _).mono ?_; rintro e w5 ⟨rfl, hb5⟩) | go_in)
    go_ret3
    exact ⟨rfl, by first | exact hb1 | exact bl_step hb1 hb5⟩
  · go_enter Try.func9, Try.ntmps9
    go_wp2_with (first | (go_at_call 13; refine (HDI.out _).mono ?_; rintro e w1 ⟨rfl, hb1⟩) | (go_at_call 25; refine (HOT.out _).mono ?_; rintro e w9 ⟨rfl, hb5⟩) | go_in)
    go_ret3
    exact ⟨rfl, by first | exact hb1 | exact bl_step hb1 hb5⟩
set_option maxHeartbeats 2000000 in
theorem ex_10_left (a b D : Int) (F : Nat) (hF : F ≤ 60) (hD : D = ((2 ^ F : Nat) : Int)) (hdom : domB 10 true F a b = true) (h0 : a = 0) (h1 : b < 0) : ExB 10 true F a b 4 3 true := by
  have hargs : argsB 10 F a b = true := by
    cases h : argsB 10 F a b
    · rw [domB_no h] at hdom; cases hdom
    · rfl
  have hr := hargs
  unfold argsB at hr
  simp only [Bool.and_eq_true] at hr
  obtain ⟨⟨hr1, hr2, hr3⟩, hr4, _⟩ := hr
  have ha := (argIn_iff _).1 hr2
  have hb := (argIn_iff _).1 hr4
  obtain ⟨ha1, ha2⟩ := ha
  obtain ⟨hbb1, hbb2⟩ := hb
  obtain ⟨hD1, hD2⟩ := two_bd hF
  have HD := Lib.hid (fun W : World => sInDomain_any 10 true F a b W)
  have HDI := Lib.hid (fun W : World => iInDomain_any 10 true F a b W)
  rw [hdom] at HD HDI
  have hs := shl_two hF
  have HPW : Hid (∀ W : World, Calls Try.prog 28 #[.int .i64 F] W fun e w' => e = .returned (.int .i64 D) ∧ W = w') := fun W => by
    have := l2Pow_any (F : Int) W (by omega)
    rwa [pw_cast, ← hD] at this
  have HSG := Lib.hid (fun W : World => l20Sign_any a W)
  rw [← hD] at hs
  have hp : 1 ≤ D := by omega
  have hp2 : D ≤ 1152921504606846976 := by omega
  have HDD := Lib.hid hD
  clear hD hD1 hD2 hr1 hr2 hr3 hr4 hargs hdom
  subst h0
  have z1 : (b == 0) = false := by rw [beq_eq_false_iff_ne]; omega
  have HOT : Hid (∀ W : World, Calls Try.prog 25 #[.int .i64 10, .int .i64 F, .int .i64 0, .int .i64 b] W fun e w' => e = .returned (.tuple #[.int .i64 4, .int .i64 3, .bool true]) ∧ Below W.heap.size W w') := by
    intro w
    go_enter Try.func25, Try.ntmps25
    go_wp2_with (first | (go_at_call 33; refine (HEI.out _).mono ?_; rintro e w2 ⟨rfl, nq, rfl⟩) | (go_at_call 48; refine (HWV.out _).mono ?_; rintro e w3 ⟨rfl, hb3⟩) | go_in)
    go_ret3
    exact ⟨rfl, by first | exact Below.refl _ _ | exact bl_step (bl_drewN _ _) hb3 | exact bl_drewN _ _⟩
  refine ⟨fun w => ?_, fun w => ?_⟩
  · go_enter Try.func10, Try.ntmps10
    go_wp2_with (first | (go_at_call 26; refine (HD.out _).mono ?_; rintro e w1 ⟨rfl, hb1⟩) | (go_at_call 27; refine (l1Bit_any _ _).mono ?_; rintro e w2 ⟨rfl, rfl⟩) | (go_at_call 28; refine (HPW.out _).mono ?_; rintro e w3 ⟨rfl, rfl⟩) | (go_at_call 53; refine (HSG.out _).mono ?_; rintro e w4 ⟨rfl, rfl⟩) | (go_at_call 30; refine (HTN.out _).mono ?_; rintro e w5 ⟨rfl, hb5⟩) | go_in)
    go_ret3
    exact ⟨rfl, by first | exact hb1 | exact bl_step hb1 hb5⟩
  · go_enter Try.func9, Try.ntmps9
    go_wp2_with (first | (go_at_call 13; refine (HDI.out _).mono ?_; rintro e w1 ⟨rfl, hb1⟩) | (go_at_call 25; refine (HOT.out _).mono ?_; rintro e w9 ⟨rfl, hb5⟩) | go_in)
    go_ret3
    exact ⟨rfl, by first | exact hb1 | exact bl_step hb1 hb5⟩
set_option maxHeartbeats 2000000 in
theorem ex_10_upp (a b D : Int) (F : Nat) (hF : F ≤ 60) (hD : D = ((2 ^ F : Nat) : Int)) (hdom : domB 10 true F a b = true) (h0 : 0 < a) (h1 : b = 0) : ExB 10 true F a b (2) 3 true := by
  have hargs : argsB 10 F a b = true := by
    cases h : argsB 10 F a b
    · rw [domB_no h] at hdom; cases hdom
    · rfl
  have hr := hargs
  unfold argsB at hr
  simp only [Bool.and_eq_true] at hr
  obtain ⟨⟨hr1, hr2, hr3⟩, hr4, _⟩ := hr
  have ha := (argIn_iff _).1 hr2
  have hb := (argIn_iff _).1 hr4
  obtain ⟨ha1, ha2⟩ := ha
  obtain ⟨hbb1, hbb2⟩ := hb
  obtain ⟨hD1, hD2⟩ := two_bd hF
  have HD := Lib.hid (fun W : World => sInDomain_any 10 true F a b W)
  have HDI := Lib.hid (fun W : World => iInDomain_any 10 true F a b W)
  rw [hdom] at HD HDI
  have hs := shl_two hF
  have HPW : Hid (∀ W : World, Calls Try.prog 28 #[.int .i64 F] W fun e w' => e = .returned (.int .i64 D) ∧ W = w') := fun W => by
    have := l2Pow_any (F : Int) W (by omega)
    rwa [pw_cast, ← hD] at this
  have HSG := Lib.hid (fun W : World => l20Sign_any a W)
  rw [← hD] at hs
  have hp : 1 ≤ D := by omega
  have hp2 : D ≤ 1152921504606846976 := by omega
  have HDD := Lib.hid hD
  clear hD hD1 hD2 hr1 hr2 hr3 hr4 hargs hdom
  subst h1
  have z0 : (a == 0) = false := by rw [beq_eq_false_iff_ne]; omega
  have hsg : sgnI a = 1 := if_neg (by omega)
  rw [hsg] at HSG
  clear hsg
  have HOT : Hid (∀ W : World, Calls Try.prog 25 #[.int .i64 10, .int .i64 F, .int .i64 a, .int .i64 0] W fun e w' => e = .returned (.tuple #[.int .i64 (2), .int .i64 3, .bool true]) ∧ Below W.heap.size W w') := by
    intro w
    go_enter Try.func25, Try.ntmps25
    go_wp2_with (first | (go_at_call 33; refine (HEI.out _).mono ?_; rintro e w2 ⟨rfl, nq, rfl⟩) | (go_at_call 48; refine (HWV.out _).mono ?_; rintro e w3 ⟨rfl, hb3⟩) | go_in)
    go_ret3
    exact ⟨rfl, by first | exact Below.refl _ _ | exact bl_step (bl_drewN _ _) hb3 | exact bl_drewN _ _⟩
  refine ⟨fun w => ?_, fun w => ?_⟩
  · go_enter Try.func10, Try.ntmps10
    go_wp2_with (first | (go_at_call 26; refine (HD.out _).mono ?_; rintro e w1 ⟨rfl, hb1⟩) | (go_at_call 27; refine (l1Bit_any _ _).mono ?_; rintro e w2 ⟨rfl, rfl⟩) | (go_at_call 28; refine (HPW.out _).mono ?_; rintro e w3 ⟨rfl, rfl⟩) | (go_at_call 53; refine (HSG.out _).mono ?_; rintro e w4 ⟨rfl, rfl⟩) | (go_at_call 30; refine (HTN.out _).mono ?_; rintro e w5 ⟨rfl, hb5⟩) | go_in)
    go_ret3
    exact ⟨rfl, by first | exact hb1 | exact bl_step hb1 hb5⟩
  · go_enter Try.func9, Try.ntmps9
    go_wp2_with (first | (go_at_call 13; refine (HDI.out _).mono ?_; rintro e w1 ⟨rfl, hb1⟩) | (go_at_call 25; refine (HOT.out _).mono ?_; rintro e w9 ⟨rfl, hb5⟩) | go_in)
    go_ret3
    exact ⟨rfl, by first | exact hb1 | exact bl_step hb1 hb5⟩
set_option maxHeartbeats 2000000 in
theorem ex_10_dpp (a b D : Int) (F : Nat) (hF : F ≤ 60) (hD : D = ((2 ^ F : Nat) : Int)) (hdom : domB 10 true F a b = true) (h0 : 0 < a) (h1 : 0 < b) (h2 : a = b) : ExB 10 true F a b (1) 3 true := by
  have hargs : argsB 10 F a b = true := by
    cases h : argsB 10 F a b
    · rw [domB_no h] at hdom; cases hdom
    · rfl
  have hr := hargs
  unfold argsB at hr
  simp only [Bool.and_eq_true] at hr
  obtain ⟨⟨hr1, hr2, hr3⟩, hr4, _⟩ := hr
  have ha := (argIn_iff _).1 hr2
  have hb := (argIn_iff _).1 hr4
  obtain ⟨ha1, ha2⟩ := ha
  obtain ⟨hbb1, hbb2⟩ := hb
  obtain ⟨hD1, hD2⟩ := two_bd hF
  have HD := Lib.hid (fun W : World => sInDomain_any 10 true F a b W)
  have HDI := Lib.hid (fun W : World => iInDomain_any 10 true F a b W)
  rw [hdom] at HD HDI
  have hs := shl_two hF
  have HPW : Hid (∀ W : World, Calls Try.prog 28 #[.int .i64 F] W fun e w' => e = .returned (.int .i64 D) ∧ W = w') := fun W => by
    have := l2Pow_any (F : Int) W (by omega)
    rwa [pw_cast, ← hD] at this
  have HSG := Lib.hid (fun W : World => l20Sign_any a W)
  rw [← hD] at hs
  have hp : 1 ≤ D := by omega
  have hp2 : D ≤ 1152921504606846976 := by omega
  have HDD := Lib.hid hD
  clear hD hD1 hD2 hr1 hr2 hr3 hr4 hargs hdom
  subst h2
  have z0 : (a == 0) = false := by rw [beq_eq_false_iff_ne]; omega
  have hsg : sgnI a = 1 := if_neg (by omega)
  rw [hsg] at HSG
  clear hsg
  have HOT : Hid (∀ W : World, Calls Try.prog 25 #[.int .i64 10, .int .i64 F, .int .i64 a, .int .i64 a] W fun e w' => e = .returned (.tuple #[.int .i64 (1), .int .i64 3, .bool true]) ∧ Below W.heap.size W w') := by
    intro w
    go_enter Try.func25, Try.ntmps25
    go_wp2_with (first | (go_at_call 33; refine (HEI.out _).mono ?_; rintro e w2 ⟨rfl, nq, rfl⟩) | (go_at_call 48; refine (HWV.out _).mono ?_; rintro e w3 ⟨rfl, hb3⟩) | go_in)
    go_ret3
    exact ⟨rfl, by first | exact Below.refl _ _ | exact bl_step (bl_drewN _ _) hb3 | exact bl_drewN _ _⟩
  refine ⟨fun w => ?_, fun w => ?_⟩
  · go_enter Try.func10, Try.ntmps10
    go_wp2_with (first | (go_at_call 26; refine (HD.out _).mono ?_; rintro e w1 ⟨rfl, hb1⟩) | (go_at_call 27; refine (l1Bit_any _ _).mono ?_; rintro e w2 ⟨rfl, rfl⟩) | (go_at_call 28; refine (HPW.out _).mono ?_; rintro e w3 ⟨rfl, rfl⟩) | (go_at_call 53; refine (HSG.out _).mono ?_; rintro e w4 ⟨rfl, rfl⟩) | (go_at_call 30; refine (HTN.out _).mono ?_; rintro e w5 ⟨rfl, hb5⟩) | go_in)
    go_ret3
    exact ⟨rfl, by first | exact hb1 | exact bl_step hb1 hb5⟩
  · go_enter Try.func9, Try.ntmps9
    go_wp2_with (first | (go_at_call 13; refine (HDI.out _).mono ?_; rintro e w1 ⟨rfl, hb1⟩) | (go_at_call 25; refine (HOT.out _).mono ?_; rintro e w9 ⟨rfl, hb5⟩) | go_in)
    go_ret3
    exact ⟨rfl, by first | exact hb1 | exact bl_step hb1 hb5⟩
set_option maxHeartbeats 2000000 in
theorem ex_10_dpn (a b D : Int) (F : Nat) (hF : F ≤ 60) (hD : D = ((2 ^ F : Nat) : Int)) (hdom : domB 10 true F a b = true) (h0 : 0 < a) (h1 : b < 0) (h2 : a = -b) : ExB 10 true F a b (3) 3 true := by
  have hargs : argsB 10 F a b = true := by
    cases h : argsB 10 F a b
    · rw [domB_no h] at hdom; cases hdom
    · rfl
  have hr := hargs
  unfold argsB at hr
  simp only [Bool.and_eq_true] at hr
  obtain ⟨⟨hr1, hr2, hr3⟩, hr4, _⟩ := hr
  have ha := (argIn_iff _).1 hr2
  have hb := (argIn_iff _).1 hr4
  obtain ⟨ha1, ha2⟩ := ha
  obtain ⟨hbb1, hbb2⟩ := hb
  obtain ⟨hD1, hD2⟩ := two_bd hF
  have HD := Lib.hid (fun W : World => sInDomain_any 10 true F a b W)
  have HDI := Lib.hid (fun W : World => iInDomain_any 10 true F a b W)
  rw [hdom] at HD HDI
  have hs := shl_two hF
  have HPW : Hid (∀ W : World, Calls Try.prog 28 #[.int .i64 F] W fun e w' => e = .returned (.int .i64 D) ∧ W = w') := fun W => by
    have := l2Pow_any (F : Int) W (by omega)
    rwa [pw_cast, ← hD] at this
  have HSG := Lib.hid (fun W : World => l20Sign_any a W)
  rw [← hD] at hs
  have hp : 1 ≤ D := by omega
  have hp2 : D ≤ 1152921504606846976 := by omega
  have HDD := Lib.hid hD
  clear hD hD1 hD2 hr1 hr2 hr3 hr4 hargs hdom
  obtain rfl : b = -a := by omega
  have z0 : (a == 0) = false := by rw [beq_eq_false_iff_ne]; omega
  have z1 : (-a == 0) = false := by rw [beq_eq_false_iff_ne]; omega
  have z2 : (-a == a) = false := by rw [beq_eq_false_iff_ne]; omega
  have z3 : (a != -a) = true := by rw [bne_iff_ne]; omega
  have hsg : sgnI a = 1 := if_neg (by omega)
  rw [hsg] at HSG
  clear hsg
  clear h2
  have HOT : Hid (∀ W : World, Calls Try.prog 25 #[.int .i64 10, .int .i64 F, .int .i64 a, .int .i64 (-a)] W fun e w' => e = .returned (.tuple #[.int .i64 (3), .int .i64 3, .bool true]) ∧ Below W.heap.size W w') := by
    intro w
    go_enter Try.func25, Try.ntmps25
    go_wp2_with (first | (go_at_call 33; refine (HEI.out _).mono ?_; rintro e w2 ⟨rfl, nq, rfl⟩) | (go_at_call 48; refine (HWV.out _).mono ?_; rintro e w3 ⟨rfl, hb3⟩) | go_in)
    go_ret3
    exact ⟨rfl, by first | exact Below.refl _ _ | exact bl_step (bl_drewN _ _) hb3 | exact bl_drewN _ _⟩
  refine ⟨fun w => ?_, fun w => ?_⟩
  · go_enter Try.func10, Try.ntmps10
    go_wp2_with (first | (go_at_call 26; refine (HD.out _).mono ?_; rintro e w1 ⟨rfl, hb1⟩) | (go_at_call 27; refine (l1Bit_any _ _).mono ?_; rintro e w2 ⟨rfl, rfl⟩) | (go_at_call 28; refine (HPW.out _).mono ?_; rintro e w3 ⟨rfl, rfl⟩) | (go_at_call 53; refine (HSG.out _).mono ?_; rintro e w4 ⟨rfl, rfl⟩) | (go_at_call 30; refine (HTN.out _).mono ?_; rintro e w5 ⟨rfl, hb5⟩) | go_in)
    go_ret3
    exact ⟨rfl, by first | exact hb1 | exact bl_step hb1 hb5⟩
  · go_enter Try.func9, Try.ntmps9
    go_wp2_with (first | (go_at_call 13; refine (HDI.out _).mono ?_; rintro e w1 ⟨rfl, hb1⟩) | (go_at_call 25; refine (HOT.out _).mono ?_; rintro e w9 ⟨rfl, hb5⟩) | go_in)
    go_ret3
    exact ⟨rfl, by first | exact hb1 | exact bl_step hb1 hb5⟩
set_option maxHeartbeats 2000000 in
theorem ex_10_upn (a b D : Int) (F : Nat) (hF : F ≤ 60) (hD : D = ((2 ^ F : Nat) : Int)) (hdom : domB 10 true F a b = true) (h0 : a < 0) (h1 : b = 0) : ExB 10 true F a b (-2) 3 true := by
  have hargs : argsB 10 F a b = true := by
    cases h : argsB 10 F a b
    · rw [domB_no h] at hdom; cases hdom
    · rfl
  have hr := hargs
  unfold argsB at hr
  simp only [Bool.and_eq_true] at hr
  obtain ⟨⟨hr1, hr2, hr3⟩, hr4, _⟩ := hr
  have ha := (argIn_iff _).1 hr2
  have hb := (argIn_iff _).1 hr4
  obtain ⟨ha1, ha2⟩ := ha
  obtain ⟨hbb1, hbb2⟩ := hb
  obtain ⟨hD1, hD2⟩ := two_bd hF
  have HD := Lib.hid (fun W : World => sInDomain_any 10 true F a b W)
  have HDI := Lib.hid (fun W : World => iInDomain_any 10 true F a b W)
  rw [hdom] at HD HDI
  have hs := shl_two hF
  have HPW : Hid (∀ W : World, Calls Try.prog 28 #[.int .i64 F] W fun e w' => e = .returned (.int .i64 D) ∧ W = w') := fun W => by
    have := l2Pow_any (F : Int) W (by omega)
    rwa [pw_cast, ← hD] at this
  have HSG := Lib.hid (fun W : World => l20Sign_any a W)
  rw [← hD] at hs
  have hp : 1 ≤ D := by omega
  have hp2 : D ≤ 1152921504606846976 := by omega
  have HDD := Lib.hid hD
  clear hD hD1 hD2 hr1 hr2 hr3 hr4 hargs hdom
  subst h1
  have z0 : (a == 0) = false := by rw [beq_eq_false_iff_ne]; omega
  have hsg : sgnI a = -1 := if_pos (by omega)
  rw [hsg] at HSG
  clear hsg
  have HOT : Hid (∀ W : World, Calls Try.prog 25 #[.int .i64 10, .int .i64 F, .int .i64 a, .int .i64 0] W fun e w' => e = .returned (.tuple #[.int .i64 (-2), .int .i64 3, .bool true]) ∧ Below W.heap.size W w') := by
    intro w
    go_enter Try.func25, Try.ntmps25
    go_wp2_with (first | (go_at_call 33; refine (HEI.out _).mono ?_; rintro e w2 ⟨rfl, nq, rfl⟩) | (go_at_call 48; refine (HWV.out _).mono ?_; rintro e w3 ⟨rfl, hb3⟩) | go_in)
    go_ret3
    exact ⟨rfl, by first | exact Below.refl _ _ | exact bl_step (bl_drewN _ _) hb3 | exact bl_drewN _ _⟩
  refine ⟨fun w => ?_, fun w => ?_⟩
  · go_enter Try.func10, Try.ntmps10
    go_wp2_with (first | (go_at_call 26; refine (HD.out _).mono ?_; rintro e w1 ⟨rfl, hb1⟩) | (go_at_call 27; refine (l1Bit_any _ _).mono ?_; rintro e w2 ⟨rfl, rfl⟩) | (go_at_call 28; refine (HPW.out _).mono ?_; rintro e w3 ⟨rfl, rfl⟩) | (go_at_call 53; refine (HSG.out _).mono ?_; rintro e w4 ⟨rfl, rfl⟩) | (go_at_call 30; refine (HTN.out _).mono ?_; rintro e w5 ⟨rfl, hb5⟩) | go_in)
    go_ret3
    exact ⟨rfl, by first | exact hb1 | exact bl_step hb1 hb5⟩
  · go_enter Try.func9, Try.ntmps9
    go_wp2_with (first | (go_at_call 13; refine (HDI.out _).mono ?_; rintro e w1 ⟨rfl, hb1⟩) | (go_at_call 25; refine (HOT.out _).mono ?_; rintro e w9 ⟨rfl, hb5⟩) | go_in)
    go_ret3
    exact ⟨rfl, by first | exact hb1 | exact bl_step hb1 hb5⟩
set_option maxHeartbeats 2000000 in
theorem ex_10_dnp (a b D : Int) (F : Nat) (hF : F ≤ 60) (hD : D = ((2 ^ F : Nat) : Int)) (hdom : domB 10 true F a b = true) (h0 : a < 0) (h1 : 0 < b) (h2 : a = -b) : ExB 10 true F a b (-1) 3 true := by
  have hargs : argsB 10 F a b = true := by
    cases h : argsB 10 F a b
    · rw [domB_no h] at hdom; cases hdom
    · rfl
  have hr := hargs
  unfold argsB at hr
  simp only [Bool.and_eq_true] at hr
  obtain ⟨⟨hr1, hr2, hr3⟩, hr4, _⟩ := hr
  have ha := (argIn_iff _).1 hr2
  have hb := (argIn_iff _).1 hr4
  obtain ⟨ha1, ha2⟩ := ha
  obtain ⟨hbb1, hbb2⟩ := hb
  obtain ⟨hD1, hD2⟩ := two_bd hF
  have HD := Lib.hid (fun W : World => sInDomain_any 10 true F a b W)
  have HDI := Lib.hid (fun W : World => iInDomain_any 10 true F a b W)
  rw [hdom] at HD HDI
  have hs := shl_two hF
  have HPW : Hid (∀ W : World, Calls Try.prog 28 #[.int .i64 F] W fun e w' => e = .returned (.int .i64 D) ∧ W = w') := fun W => by
    have := l2Pow_any (F : Int) W (by omega)
    rwa [pw_cast, ← hD] at this
  have HSG := Lib.hid (fun W : World => l20Sign_any a W)
  rw [← hD] at hs
  have hp : 1 ≤ D := by omega
  have hp2 : D ≤ 1152921504606846976 := by omega
  have HDD := Lib.hid hD
  clear hD hD1 hD2 hr1 hr2 hr3 hr4 hargs hdom
  obtain rfl : b = -a := by omega
  have z0 : (a == 0) = false := by rw [beq_eq_false_iff_ne]; omega
  have z1 : (-a == 0) = false := by rw [beq_eq_false_iff_ne]; omega
  have z2 : (-a == a) = false := by rw [beq_eq_false_iff_ne]; omega
  have z3 : (a != -a) = true := by rw [bne_iff_ne]; omega
  have hsg : sgnI a = -1 := if_pos (by omega)
  rw [hsg] at HSG
  clear hsg
  clear h2
  have HOT : Hid (∀ W : World, Calls Try.prog 25 #[.int .i64 10, .int .i64 F, .int .i64 a, .int .i64 (-a)] W fun e w' => e = .returned (.tuple #[.int .i64 (-1), .int .i64 3, .bool true]) ∧ Below W.heap.size W w') := by
    intro w
    go_enter Try.func25, Try.ntmps25
    go_wp2_with (first | (go_at_call 33; refine (HEI.out _).mono ?_; rintro e w2 ⟨rfl, nq, rfl⟩) | (go_at_call 48; refine (HWV.out _).mono ?_; rintro e w3 ⟨rfl, hb3⟩) | go_in)
    go_ret3
    exact ⟨rfl, by first | exact Below.refl _ _ | exact bl_step (bl_drewN _ _) hb3 | exact bl_drewN _ _⟩
  refine ⟨fun w => ?_, fun w => ?_⟩
  · go_enter Try.func10, Try.ntmps10
    go_wp2_with (first | (go_at_call 26; refine (HD.out _).mono ?_; rintro e w1 ⟨rfl, hb1⟩) | (go_at_call 27; refine (l1Bit_any _ _).mono ?_; rintro e w2 ⟨rfl, rfl⟩) | (go_at_call 28; refine (HPW.out _).mono ?_; rintro e w3 ⟨rfl, rfl⟩) | (go_at_call 53; refine (HSG.out _).mono ?_; rintro e w4 ⟨rfl, rfl⟩) | (go_at_call 30; refine (HTN.out _).mono ?_; rintro e w5 ⟨rfl, hb5⟩) | go_in)
    go_ret3
    exact ⟨rfl, by first | exact hb1 | exact bl_step hb1 hb5⟩
  · go_enter Try.func9, Try.ntmps9
    go_wp2_with (first | (go_at_call 13; refine (HDI.out _).mono ?_; rintro e w1 ⟨rfl, hb1⟩) | (go_at_call 25; refine (HOT.out _).mono ?_; rintro e w9 ⟨rfl, hb5⟩) | go_in)
    go_ret3
    exact ⟨rfl, by first | exact hb1 | exact bl_step hb1 hb5⟩
set_option maxHeartbeats 2000000 in
theorem ex_10_dnn (a b D : Int) (F : Nat) (hF : F ≤ 60) (hD : D = ((2 ^ F : Nat) : Int)) (hdom : domB 10 true F a b = true) (h0 : a < 0) (h1 : b < 0) (h2 : a = b) : ExB 10 true F a b (-3) 3 true := by
  have hargs : argsB 10 F a b = true := by
    cases h : argsB 10 F a b
    · rw [domB_no h] at hdom; cases hdom
    · rfl
  have hr := hargs
  unfold argsB at hr
  simp only [Bool.and_eq_true] at hr
  obtain ⟨⟨hr1, hr2, hr3⟩, hr4, _⟩ := hr
  have ha := (argIn_iff _).1 hr2
  have hb := (argIn_iff _).1 hr4
  obtain ⟨ha1, ha2⟩ := ha
  obtain ⟨hbb1, hbb2⟩ := hb
  obtain ⟨hD1, hD2⟩ := two_bd hF
  have HD := Lib.hid (fun W : World => sInDomain_any 10 true F a b W)
  have HDI := Lib.hid (fun W : World => iInDomain_any 10 true F a b W)
  rw [hdom] at HD HDI
  have hs := shl_two hF
  have HPW : Hid (∀ W : World, Calls Try.prog 28 #[.int .i64 F] W fun e w' => e = .returned (.int .i64 D) ∧ W = w') := fun W => by
    have := l2Pow_any (F : Int) W (by omega)
    rwa [pw_cast, ← hD] at this
  have HSG := Lib.hid (fun W : World => l20Sign_any a W)
  rw [← hD] at hs
  have hp : 1 ≤ D := by omega
  have hp2 : D ≤ 1152921504606846976 := by omega
  have HDD := Lib.hid hD
  clear hD hD1 hD2 hr1 hr2 hr3 hr4 hargs hdom
  subst h2
  have z0 : (a == 0) = false := by rw [beq_eq_false_iff_ne]; omega
  have hsg : sgnI a = -1 := if_pos (by omega)
  rw [hsg] at HSG
  clear hsg
  have HOT : Hid (∀ W : World, Calls Try.prog 25 #[.int .i64 10, .int .i64 F, .int .i64 a, .int .i64 a] W fun e w' => e = .returned (.tuple #[.int .i64 (-3), .int .i64 3, .bool true]) ∧ Below W.heap.size W w') := by
    intro w
    go_enter Try.func25, Try.ntmps25
    go_wp2_with (first | (go_at_call 33; refine (HEI.out _).mono ?_; rintro e w2 ⟨rfl, nq, rfl⟩) | (go_at_call 48; refine (HWV.out _).mono ?_; rintro e w3 ⟨rfl, hb3⟩) | go_in)
    go_ret3
    exact ⟨rfl, by first | exact Below.refl _ _ | exact bl_step (bl_drewN _ _) hb3 | exact bl_drewN _ _⟩
  refine ⟨fun w => ?_, fun w => ?_⟩
  · go_enter Try.func10, Try.ntmps10
    go_wp2_with (first | (go_at_call 26; refine (HD.out _).mono ?_; rintro e w1 ⟨rfl, hb1⟩) | (go_at_call 27; refine (l1Bit_any _ _).mono ?_; rintro e w2 ⟨rfl, rfl⟩) | (go_at_call 28; refine (HPW.out _).mono ?_; rintro e w3 ⟨rfl, rfl⟩) | (go_at_call 53; refine (HSG.out _).mono ?_; rintro e w4 ⟨rfl, rfl⟩) | (go_at_call 30; refine (HTN.out _).mono ?_; rintro e w5 ⟨rfl, hb5⟩) | go_in)
    go_ret3
    exact ⟨rfl, by first | exact hb1 | exact bl_step hb1 hb5⟩
  · go_enter Try.func9, Try.ntmps9
    go_wp2_with (first | (go_at_call 13; refine (HDI.out _).mono ?_; rintro e w1 ⟨rfl, hb1⟩) | (go_at_call 25; refine (HOT.out _).mono ?_; rintro e w9 ⟨rfl, hb5⟩) | go_in)
    go_ret3
    exact ⟨rfl, by first | exact hb1 | exact bl_step hb1 hb5⟩
set_option maxHeartbeats 2000000 in
theorem ex_10_no (a b D : Int) (F : Nat) (hF : F ≤ 60) (hD : D = ((2 ^ F : Nat) : Int)) (hdom : domB 10 true F a b = true) (h0 : a ≠ 0) (h1 : b ≠ 0) (h2 : a ≠ b) (h3 : a ≠ -b) : ExB 10 true F a b 0 0 false := by
  have hargs : argsB 10 F a b = true := by
    cases h : argsB 10 F a b
    · rw [domB_no h] at hdom; cases hdom
    · rfl
  have hr := hargs
  unfold argsB at hr
  simp only [Bool.and_eq_true] at hr
  obtain ⟨⟨hr1, hr2, hr3⟩, hr4, _⟩ := hr
  have ha := (argIn_iff _).1 hr2
  have hb := (argIn_iff _).1 hr4
  obtain ⟨ha1, ha2⟩ := ha
  obtain ⟨hbb1, hbb2⟩ := hb
  obtain ⟨hD1, hD2⟩ := two_bd hF
  have HD := Lib.hid (fun W : World => sInDomain_any 10 true F a b W)
  have HDI := Lib.hid (fun W : World => iInDomain_any 10 true F a b W)
  rw [hdom] at HD HDI
  have hs := shl_two hF
  have HPW : Hid (∀ W : World, Calls Try.prog 28 #[.int .i64 F] W fun e w' => e = .returned (.int .i64 D) ∧ W = w') := fun W => by
    have := l2Pow_any (F : Int) W (by omega)
    rwa [pw_cast, ← hD] at this
  have HSG := Lib.hid (fun W : World => l20Sign_any a W)
  rw [← hD] at hs
  have hp : 1 ≤ D := by omega
  have hp2 : D ≤ 1152921504606846976 := by omega
  have HDD := Lib.hid hD
  clear hD hD1 hD2 hr1 hr2 hr3 hr4 hargs hdom
  have z0 : (a == 0) = false := by rw [beq_eq_false_iff_ne]; exact h0
  have z1 : (b == 0) = false := by rw [beq_eq_false_iff_ne]; omega
  have z2 : (b == a) = false := by rw [beq_eq_false_iff_ne]; omega
  have z3 : (b == -a) = false := by rw [beq_eq_false_iff_ne]; omega
  have z4 : (a != b) = true := by rw [bne_iff_ne]; omega
  have z5 : (a != -b) = true := by rw [bne_iff_ne]; omega
  clear h0 h1 h2 h3
  have HOT : Hid (∀ W : World, Calls Try.prog 25 #[.int .i64 10, .int .i64 F, .int .i64 a, .int .i64 b] W fun e w' => e = .returned (.tuple #[.int .i64 0, .int .i64 0, .bool false]) ∧ Below W.heap.size W w') := by
    intro w
    go_enter Try.func25, Try.ntmps25
    go_wp2_with (first | (go_at_call 33; refine (HEI.out _).mono ?_; rintro e w2 ⟨rfl, nq, rfl⟩) | (go_at_call 48; refine (HWV.out _).mono ?_; rintro e w3 ⟨rfl, hb3⟩) | go_in)
    go_ret3
    exact ⟨rfl, by first | exact Below.refl _ _ | exact bl_step (bl_drewN _ _) hb3 | exact bl_drewN _ _⟩
  refine ⟨fun w => ?_, fun w => ?_⟩
  · go_enter Try.func10, Try.ntmps10
    go_wp2_with (first | (go_at_call 26; refine (HD.out _).mono ?_; rintro e w1 ⟨rfl, hb1⟩) | (go_at_call 27; refine (l1Bit_any _ _).mono ?_; rintro e w2 ⟨rfl, rfl⟩) | (go_at_call 28; refine (HPW.out _).mono ?_; rintro e w3 ⟨rfl, rfl⟩) | (go_at_call 53; refine (HSG.out _).mono ?_; rintro e w4 ⟨rfl, rfl⟩) | (go_at_call 30; refine (HTN.out _).mono ?_; rintro e w5 ⟨rfl, hb5⟩) | go_in)
    go_ret3
    exact ⟨rfl, by first | exact hb1 | exact bl_step hb1 hb5⟩
  · go_enter Try.func9, Try.ntmps9
    go_wp2_with (first | (go_at_call 13; refine (HDI.out _).mono ?_; rintro e w1 ⟨rfl, hb1⟩) | (go_at_call 25; refine (HOT.out _).mono ?_; rintro e w9 ⟨rfl, hb5⟩) | go_in)
    go_ret3
    exact ⟨rfl, by first | exact hb1 | exact bl_step hb1 hb5⟩
end Go.Proofs.Ytimjfcipkmcgmaa
