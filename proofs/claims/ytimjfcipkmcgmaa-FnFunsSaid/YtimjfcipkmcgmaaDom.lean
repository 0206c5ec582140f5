/-
  PROVED: contracts of the domain of a function, and the law on it.
  CONDITIONS: none.
-/
import Derived.Test.YtimjfcipkmcgmaaEig
namespace Go.Proofs.Ytimjfcipkmcgmaa
open Go.ChangeShapes Go.WideShapes Go.ChangeAt Go.RowKit
set_option linter.unusedVariables false
def argIn (v : Int) : Bool := inR v (-2305843009213693952) 2305843009213693952
theorem argIn_iff (v : Int) : argIn v = true ↔ -2305843009213693952 ≤ v ∧ v ≤ 2305843009213693952 := inR_iff _ _ _
def argsB (fn f a b : Int) : Bool := inR fn 0 14 && (argIn a && inR f 0 60) && (argIn b && inR f 0 60)
def tanOk (f a : Int) : Bool := !(partB a.natAbs f.toNat 4) || partN a.natAbs f.toNat 4 2 == 0
def domB (fn : Int) (turns : Bool) (f a b : Int) : Bool :=
  argsB fn f a b && (if fn = 1 then b != 0 else if fn = 2 then decide (0 ≤ a) else if fn = 5 then decide (0 < a) else if fn = 10 then a != 0 || b != 0 else if fn = 14 then decide (-pw f < a) && decide (a < pw f) else if fn = 8 then !turns || tanOk f a else true)
theorem domB_no {fn f a b : Int} {t : Bool} (h : argsB fn f a b = false) : domB fn t f a b = false := by unfold domB; rw [h]; rfl
theorem domB_ok {fn f a b : Int} {t : Bool} (h : argsB fn f a b = true) : domB fn t f a b = (if fn = 1 then b != 0 else if fn = 2 then decide (0 ≤ a) else if fn = 5 then decide (0 < a) else if fn = 10 then a != 0 || b != 0 else if fn = 14 then decide (-pw f < a) && decide (a < pw f) else if fn = 8 then !t || tanOk f a else true) := by unfold domB; rw [h]; rfl
/-! ### eighths and quarters -/
theorem mod_abs {a D : Int} (hD : 0 < D) : ∃ s q : Int, (s = 1 ∨ s = -1) ∧ (a.natAbs : Int) = s * (a % D) + D * q := by
  have h := Int.mul_ediv_add_emod a D
  by_cases h0 : 0 ≤ a
  · exact ⟨1, a / D, .inl rfl, by omega⟩
  · refine ⟨-1, -(a / D), .inr rfl, ?_⟩
    rw [Int.mul_neg]; omega
theorem dvd_four {A r s D q : Int} (hs : s = 1 ∨ s = -1) (hA : A = s * r + D * q) : D ∣ A * 4 ↔ D ∣ r * 4 := by
  have e : D ∣ D * q * 4 := ⟨q * 4, by rw [Int.mul_assoc]⟩
  rcases hs with rfl | rfl
  · have h : A * 4 = r * 4 + D * q * 4 := by omega
    rw [h]
    exact Int.dvd_add_left e
  · have h : A * 4 = -(r * 4) + D * q * 4 := by omega
    rw [h, Int.dvd_add_left e, Int.dvd_neg]
theorem tan_law (a : Int) (F : Nat) (D : Int) (hD : D = ((2 ^ F : Nat) : Int)) (hD0 : 0 < D) :
    (!(a % D * 8 % D == 0) || (a % D * 8 / D) % 4 != 2) = (!(partB a.natAbs F 4) || partN a.natAbs F 4 2 == 0) := by
  obtain ⟨s, q, hs, hA⟩ := mod_abs (a := a) hD0
  have hr0 : 0 ≤ a % D := Int.emod_nonneg _ (by omega)
  have hr1 : a % D < D := Int.emod_lt_of_pos _ hD0
  have hdv := dvd_four hs hA
  generalize a % D = r at *
  generalize a.natAbs = A at *
  have hB : partB A F 4 = decide ((A : Int) * 4 % D = 0) := by
    unfold partB
    have e : ((A * 4 % 2 ^ F : Nat) : Int) = (A : Int) * 4 % D := by rw [hD]; simp
    exact decide_eq_decide.2 (by rw [← e]; omega)
  have hN : (A : Int) * 4 % D = 0 → partN A F 4 2 = (A : Int) * 4 / D % 2 := by
    intro h
    have e : ((A * 4 % 2 ^ F : Nat) : Int) = (A : Int) * 4 % D := by rw [hD]; simp
    rw [partN_yes (by omega), hD]
    simp
  rw [hB]
  by_cases hd : D ∣ r * 4
  · have hd2 := hdv.2 hd
    have h0 := Int.emod_eq_zero_of_dvd hd2
    rw [hN h0, h0]
    obtain ⟨t, ht⟩ := hd
    have ht0 : 0 ≤ t := by
      by_cases h : 0 ≤ t
      · exact h
      · have : D * t ≤ D * (-1) := Int.mul_le_mul_of_nonneg_left (by omega) (by omega)
        omega
    have ht1 : t < 4 := by
      by_cases h : t < 4
      · exact h
      · have : D * 4 ≤ D * t := Int.mul_le_mul_of_nonneg_left (by omega) (by omega)
        omega
    have e8 : r * 8 = D * (2 * t) := by rw [show 2 * t = t * 2 by omega, ← Int.mul_assoc, ← ht]; omega
    have h8 : r * 8 % D = 0 := by rw [e8]; exact Int.mul_emod_right _ _
    have q8 : r * 8 / D = 2 * t := by rw [e8]; exact Int.mul_ediv_cancel_left _ (by omega)
    have qA : (A : Int) * 4 / D = s * t + 4 * q := by
      have : (A : Int) * 4 = D * (s * t + 4 * q) := by
        rw [Int.mul_add, show D * (s * t) = s * (D * t) by rw [← Int.mul_assoc, Int.mul_comm D s, Int.mul_assoc], ← ht, show D * (4 * q) = D * q * 4 by rw [Int.mul_comm 4 q, Int.mul_assoc]]
        rcases hs with rfl | rfl <;> omega
      rw [this]
      exact Int.mul_ediv_cancel_left _ (by omega)
    rw [h8, q8, qA]
    have hpar : (s * t + 4 * q) % 2 = t % 2 := by rcases hs with rfl | rfl <;> omega
    rw [hpar]
    have ht4 : t = 0 ∨ t = 1 ∨ t = 2 ∨ t = 3 := by omega
    rcases ht4 with rfl | rfl | rfl | rfl <;> rfl
  · have hd2 : ¬ (A : Int) * 4 % D = 0 := fun h => hd (hdv.1 (Int.dvd_of_emod_eq_zero h))
    rw [decide_eq_false hd2]
    have hL : (!(r * 8 % D == 0) || (r * 8 / D) % 4 != 2) = true := by
      by_cases h8 : r * 8 % D = 0
      · have h9 : (r * 8 / D) % 4 ≠ 2 := by
          intro h9
          apply hd
          have e := Int.mul_ediv_cancel' (Int.dvd_of_emod_eq_zero h8)
          refine ⟨r * 8 / D / 2, ?_⟩
          generalize r * 8 / D = n at *
          have : D * n = D * (n / 2) * 2 := by rw [Int.mul_assoc]; congr 1; omega
          omega
        simp [h9]
      · simp [h8]
    rw [hL]
    rfl
theorem tanOk_law (a : Int) (F : Nat) (D : Int) (hD : D = ((2 ^ F : Nat) : Int)) (hD0 : 0 < D) : (!(a % D * 8 % D == 0) || (a % D * 8 / D) % 4 != 2) = tanOk (F : Int) a := by
  rw [tan_law a F D hD hD0]
  rfl
set_option maxHeartbeats 400000 in
theorem l15Ok_any (v f : Int) (w : World) : Calls Try.prog 51 #[.int .i64 v, .int .i64 f, .int .i64 1] w fun e w' => e = .returned (.bool (argIn v && inR f 0 60)) ∧ w = w' := by
  have h3 : inR 1 1 300 = true := by decide
  cases h1 : argIn v
  · have h1' : inR v (-2305843009213693952) 2305843009213693952 = false := h1
    go_enter Try.func51, Try.ntmps51
    go_wp2_with (go_at_call 50; refine (l1In_any _ _ _ _).mono ?_; rintro e w' ⟨rfl, rfl⟩)
    go_ret
    exact ⟨rfl, rfl⟩
  · have h1' : inR v (-2305843009213693952) 2305843009213693952 = true := h1
    cases h2 : inR f 0 60
    · go_enter Try.func51, Try.ntmps51
      go_wp2_with (go_at_call 50; refine (l1In_any _ _ _ _).mono ?_; rintro e w' ⟨rfl, rfl⟩)
      go_ret
      exact ⟨rfl, rfl⟩
    · go_enter Try.func51, Try.ntmps51
      go_wp2_with (go_at_call 50; refine (l1In_any _ _ _ _).mono ?_; rintro e w' ⟨rfl, rfl⟩)
      go_ret
      exact ⟨rfl, rfl⟩
set_option maxHeartbeats 400000 in
theorem isArg_any (n : Int) (w : World) : Calls Try.prog 32 #[.int .i64 n] w fun e w' => e = .returned (.bool (argIn n)) ∧ w = w' := by
  go_enter Try.func32, Try.ntmps32
  go_wp2_with (go_at_call 39; refine (inRange_any _ _ _ _).mono ?_; rintro e w' ⟨rfl, rfl⟩)
  go_ret
  exact ⟨rfl, rfl⟩
set_option maxHeartbeats 400000 in
theorem isPoint_dom (n : Int) (w : World) : Calls Try.prog 31 #[.int .i64 n] w fun e w' => e = .returned (.bool (inR n 0 60)) ∧ w = w' := by
  go_enter Try.func31, Try.ntmps31
  go_wp2_with (go_at_call 39; refine (inRange_any _ _ _ _).mono ?_; rintro e w' ⟨rfl, rfl⟩)
  go_ret
  exact ⟨rfl, rfl⟩
set_option maxHeartbeats 1000000 in
theorem sDom_out (fn : Int) (turns : Bool) (f a b : Int) (w : World) (h : argsB fn f a b = false) : Calls Try.prog 26 #[.int .i64 fn, .bool turns, .int .i64 f, .int .i64 a, .int .i64 b] w fun e w' => e = .returned (.bool (false)) ∧ Below w.heap.size w w' := by
  have q1 : (true && true) = true := rfl
  have q2 : (true && false) = false := rfl
  have q3 : (false && true) = false := rfl
  have q4 : (false && false) = false := rfl
  cases h1 : inR fn 0 14
  · clear h
    go_enter Try.func26, Try.ntmps26
    go_wp2_with (first | (go_at_call 50; refine (l1In_any _ _ _ _).mono ?_; rintro e w' ⟨rfl, rfl⟩) | (go_at_call 51; refine (l15Ok_any _ _ _).mono ?_; rintro e w' ⟨rfl, rfl⟩))
    go_ret
    exact ⟨rfl, Below.refl _ _⟩
  · skip
    cases h2 : argIn a
    · clear h
      cases h3 : inR f 0 60
      · go_enter Try.func26, Try.ntmps26
        go_wp2_with (first | (go_at_call 50; refine (l1In_any _ _ _ _).mono ?_; rintro e w' ⟨rfl, rfl⟩) | (go_at_call 51; refine (l15Ok_any _ _ _).mono ?_; rintro e w' ⟨rfl, rfl⟩))
        go_ret
        exact ⟨rfl, Below.refl _ _⟩
      · go_enter Try.func26, Try.ntmps26
        go_wp2_with (first | (go_at_call 50; refine (l1In_any _ _ _ _).mono ?_; rintro e w' ⟨rfl, rfl⟩) | (go_at_call 51; refine (l15Ok_any _ _ _).mono ?_; rintro e w' ⟨rfl, rfl⟩))
        go_ret
        exact ⟨rfl, Below.refl _ _⟩
    · skip
      cases h3 : inR f 0 60
      · clear h
        go_enter Try.func26, Try.ntmps26
        go_wp2_with (first | (go_at_call 50; refine (l1In_any _ _ _ _).mono ?_; rintro e w' ⟨rfl, rfl⟩) | (go_at_call 51; refine (l15Ok_any _ _ _).mono ?_; rintro e w' ⟨rfl, rfl⟩))
        go_ret
        exact ⟨rfl, Below.refl _ _⟩
      · skip
        cases h4 : argIn b
        · clear h
          go_enter Try.func26, Try.ntmps26
          go_wp2_with (first | (go_at_call 50; refine (l1In_any _ _ _ _).mono ?_; rintro e w' ⟨rfl, rfl⟩) | (go_at_call 51; refine (l15Ok_any _ _ _).mono ?_; rintro e w' ⟨rfl, rfl⟩))
          go_ret
          exact ⟨rfl, Below.refl _ _⟩
        · exfalso; unfold argsB at h; rw [h1, h2, h3, h4] at h; cases h
set_option maxHeartbeats 1000000 in
theorem sDom_1  (turns : Bool) (f a b : Int) (w : World) (h : argsB 1 f a b = true) : Calls Try.prog 26 #[.int .i64 1, .bool turns, .int .i64 f, .int .i64 a, .int .i64 b] w fun e w' => e = .returned (.bool (b != 0)) ∧ Below w.heap.size w w' := by
  have h' := h
  unfold argsB at h'
  simp only [Bool.and_eq_true] at h'
  obtain ⟨⟨h1, h2, h3⟩, h4, _⟩ := h'
  clear h
  have q1 : (true && true) = true := rfl
  have q2 : (argIn a && inR f 0 60) = true := by rw [h2, h3]; rfl
  have q3 : (argIn b && inR f 0 60) = true := by rw [h4, h3]; rfl
  have hf := (inR_iff _ _ _).1 h3
  obtain ⟨hf1, hf2⟩ := hf
  cases hb0 : (b != 0)
  all_goals
    go_enter Try.func26, Try.ntmps26
    go_wp2_with (first | (go_at_call 50; refine (l1In_any _ _ _ _).mono ?_; rintro e w' ⟨rfl, rfl⟩) | (go_at_call 51; refine (l15Ok_any _ _ _).mono ?_; rintro e w' ⟨rfl, rfl⟩))
    go_ret
    exact ⟨by first | rfl | simp [*], Below.refl _ _⟩
set_option maxHeartbeats 1000000 in
theorem sDom_2  (turns : Bool) (f a b : Int) (w : World) (h : argsB 2 f a b = true) : Calls Try.prog 26 #[.int .i64 2, .bool turns, .int .i64 f, .int .i64 a, .int .i64 b] w fun e w' => e = .returned (.bool (decide (0 ≤ a))) ∧ Below w.heap.size w w' := by
  have h' := h
  unfold argsB at h'
  simp only [Bool.and_eq_true] at h'
  obtain ⟨⟨h1, h2, h3⟩, h4, _⟩ := h'
  clear h
  have q1 : (true && true) = true := rfl
  have q2 : (argIn a && inR f 0 60) = true := by rw [h2, h3]; rfl
  have q3 : (argIn b && inR f 0 60) = true := by rw [h4, h3]; rfl
  have hf := (inR_iff _ _ _).1 h3
  obtain ⟨hf1, hf2⟩ := hf
  by_cases hc : 0 ≤ a
  all_goals simp only [hc, decide_true, decide_false]
  all_goals
    go_enter Try.func26, Try.ntmps26
    go_wp2_with (first | (go_at_call 50; refine (l1In_any _ _ _ _).mono ?_; rintro e w' ⟨rfl, rfl⟩) | (go_at_call 51; refine (l15Ok_any _ _ _).mono ?_; rintro e w' ⟨rfl, rfl⟩))
    go_ret
    exact ⟨by first | rfl | simp [*], Below.refl _ _⟩
set_option maxHeartbeats 1000000 in
theorem sDom_5  (turns : Bool) (f a b : Int) (w : World) (h : argsB 5 f a b = true) : Calls Try.prog 26 #[.int .i64 5, .bool turns, .int .i64 f, .int .i64 a, .int .i64 b] w fun e w' => e = .returned (.bool (decide (0 < a))) ∧ Below w.heap.size w w' := by
  have h' := h
  unfold argsB at h'
  simp only [Bool.and_eq_true] at h'
  obtain ⟨⟨h1, h2, h3⟩, h4, _⟩ := h'
  clear h
  have q1 : (true && true) = true := rfl
  have q2 : (argIn a && inR f 0 60) = true := by rw [h2, h3]; rfl
  have q3 : (argIn b && inR f 0 60) = true := by rw [h4, h3]; rfl
  have hf := (inR_iff _ _ _).1 h3
  obtain ⟨hf1, hf2⟩ := hf
  by_cases hc : 0 < a
  all_goals simp only [hc, decide_true, decide_false]
  all_goals
    go_enter Try.func26, Try.ntmps26
    go_wp2_with (first | (go_at_call 50; refine (l1In_any _ _ _ _).mono ?_; rintro e w' ⟨rfl, rfl⟩) | (go_at_call 51; refine (l15Ok_any _ _ _).mono ?_; rintro e w' ⟨rfl, rfl⟩))
    go_ret
    exact ⟨by first | rfl | simp [*], Below.refl _ _⟩
set_option maxHeartbeats 1000000 in
theorem sDom_10  (turns : Bool) (f a b : Int) (w : World) (h : argsB 10 f a b = true) : Calls Try.prog 26 #[.int .i64 10, .bool turns, .int .i64 f, .int .i64 a, .int .i64 b] w fun e w' => e = .returned (.bool ((a != 0 || b != 0))) ∧ Below w.heap.size w w' := by
  have h' := h
  unfold argsB at h'
  simp only [Bool.and_eq_true] at h'
  obtain ⟨⟨h1, h2, h3⟩, h4, _⟩ := h'
  clear h
  have q1 : (true && true) = true := rfl
  have q2 : (argIn a && inR f 0 60) = true := by rw [h2, h3]; rfl
  have q3 : (argIn b && inR f 0 60) = true := by rw [h4, h3]; rfl
  have hf := (inR_iff _ _ _).1 h3
  obtain ⟨hf1, hf2⟩ := hf
  cases ha0 : (a != 0) <;> cases hb0 : (b != 0)
  all_goals
    go_enter Try.func26, Try.ntmps26
    go_wp2_with (first | (go_at_call 50; refine (l1In_any _ _ _ _).mono ?_; rintro e w' ⟨rfl, rfl⟩) | (go_at_call 51; refine (l15Ok_any _ _ _).mono ?_; rintro e w' ⟨rfl, rfl⟩))
    go_ret
    exact ⟨by first | rfl | simp [*], Below.refl _ _⟩
set_option maxHeartbeats 1000000 in
theorem sDom_14  (turns : Bool) (f a b : Int) (w : World) (h : argsB 14 f a b = true) : Calls Try.prog 26 #[.int .i64 14, .bool turns, .int .i64 f, .int .i64 a, .int .i64 b] w fun e w' => e = .returned (.bool ((decide (-pw f < a) && decide (a < pw f)))) ∧ Below w.heap.size w w' := by
  have h' := h
  unfold argsB at h'
  simp only [Bool.and_eq_true] at h'
  obtain ⟨⟨h1, h2, h3⟩, h4, _⟩ := h'
  clear h
  have q1 : (true && true) = true := rfl
  have q2 : (argIn a && inR f 0 60) = true := by rw [h2, h3]; rfl
  have q3 : (argIn b && inR f 0 60) = true := by rw [h4, h3]; rfl
  have hf := (inR_iff _ _ _).1 h3
  obtain ⟨hf1, hf2⟩ := hf
  have hp := pw_bd f (by omega)
  obtain ⟨hp1, hp2⟩ := hp
  have HPW : Hid (∀ W : World, Calls Try.prog 28 #[.int .i64 f] W fun e w' => e = .returned (.int .i64 (pw f)) ∧ W = w') := fun W => l2Pow_any f W (by omega)
  generalize pw f = P at *
  by_cases c1 : -P < a <;> by_cases c2 : a < P
  all_goals try (exfalso; omega)
  all_goals simp only [c1, c2, decide_true, decide_false]
  all_goals
    go_enter Try.func26, Try.ntmps26
    go_wp2_with (first | (go_at_call 28; refine (HPW.out _).mono ?_; rintro e w' ⟨rfl, rfl⟩) | (go_at_call 50; refine (l1In_any _ _ _ _).mono ?_; rintro e w' ⟨rfl, rfl⟩) | (go_at_call 51; refine (l15Ok_any _ _ _).mono ?_; rintro e w' ⟨rfl, rfl⟩))
    go_ret
    exact ⟨by first | rfl | simp [*], Below.refl _ _⟩
set_option maxHeartbeats 1000000 in
theorem sDom_8  (turns : Bool) (f a b : Int) (w : World) (h : argsB 8 f a b = true) : Calls Try.prog 26 #[.int .i64 8, .bool turns, .int .i64 f, .int .i64 a, .int .i64 b] w fun e w' => e = .returned (.bool ((!turns || tanOk f a))) ∧ Below w.heap.size w w' := by
  have h' := h
  unfold argsB at h'
  simp only [Bool.and_eq_true] at h'
  obtain ⟨⟨h1, h2, h3⟩, h4, _⟩ := h'
  clear h
  have q1 : (true && true) = true := rfl
  have q2 : (argIn a && inR f 0 60) = true := by rw [h2, h3]; rfl
  have q3 : (argIn b && inR f 0 60) = true := by rw [h4, h3]; rfl
  have hf := (inR_iff _ _ _).1 h3
  obtain ⟨hf1, hf2⟩ := hf
  have ha := (argIn_iff _).1 h2
  obtain ⟨ha1, ha2⟩ := ha
  obtain ⟨F, rfl⟩ := Int.eq_ofNat_of_zero_le hf1
  have hFF : F ≤ 60 := by omega
  have HC := Lib.hid (fun W : World => l20Part_any a F 4 2 W ha1 ha2 hFF (by omega) (by omega) (.inl rfl))
  have HT := Lib.hid (show (!(partB a.natAbs F 4) || partN a.natAbs F 4 2 == 0) = tanOk (F : Int) a from rfl)
  generalize partB a.natAbs F 4 = pb at *
  generalize partN a.natAbs F 4 2 = pn at *
  rw [← HT.out]
  cases turns <;> cases pb <;> cases hz : (pn == 0)
  all_goals
    go_enter Try.func26, Try.ntmps26
    go_wp2_with (first | (go_at_call 52; refine (HC.out _).mono ?_; rintro e w' ⟨rfl, hb⟩) | (go_at_call 50; refine (l1In_any _ _ _ _).mono ?_; rintro e w' ⟨rfl, rfl⟩) | (go_at_call 51; refine (l15Ok_any _ _ _).mono ?_; rintro e w' ⟨rfl, rfl⟩))
    go_ret
    exact ⟨rfl, hb⟩
set_option maxHeartbeats 1000000 in
theorem sDom_else (fn : Int) (turns : Bool) (f a b : Int) (w : World) (h : argsB fn f a b = true) (hn1 : fn ≠ 1) (hn2 : fn ≠ 2) (hn5 : fn ≠ 5) (hn10 : fn ≠ 10) (hn14 : fn ≠ 14) (hn8 : fn ≠ 8) : Calls Try.prog 26 #[.int .i64 fn, .bool turns, .int .i64 f, .int .i64 a, .int .i64 b] w fun e w' => e = .returned (.bool (true)) ∧ Below w.heap.size w w' := by
  have h' := h
  unfold argsB at h'
  simp only [Bool.and_eq_true] at h'
  obtain ⟨⟨h1, h2, h3⟩, h4, _⟩ := h'
  clear h
  have q1 : (true && true) = true := rfl
  have q2 : (argIn a && inR f 0 60) = true := by rw [h2, h3]; rfl
  have q3 : (argIn b && inR f 0 60) = true := by rw [h4, h3]; rfl
  have hf := (inR_iff _ _ _).1 h3
  obtain ⟨hf1, hf2⟩ := hf
  have n1 : (fn == 1) = false := by rw [beq_eq_false_iff_ne]; exact hn1
  have n2 : (fn == 2) = false := by rw [beq_eq_false_iff_ne]; exact hn2
  have n5 : (fn == 5) = false := by rw [beq_eq_false_iff_ne]; exact hn5
  have n10 : (fn == 10) = false := by rw [beq_eq_false_iff_ne]; exact hn10
  have n14 : (fn == 14) = false := by rw [beq_eq_false_iff_ne]; exact hn14
  have n8 : (fn == 8) = false := by rw [beq_eq_false_iff_ne]; exact hn8
  clear hn1 hn2 hn5 hn10 hn14 hn8
  go_enter Try.func26, Try.ntmps26
  go_wp2_with (first | (go_at_call 50; refine (l1In_any _ _ _ _).mono ?_; rintro e w' ⟨rfl, rfl⟩) | (go_at_call 51; refine (l15Ok_any _ _ _).mono ?_; rintro e w' ⟨rfl, rfl⟩))
  go_ret
  exact ⟨rfl, Below.refl _ _⟩
theorem sInDomain_any (fn : Int) (turns : Bool) (f a b : Int) (w : World) : Calls Try.prog 26 #[.int .i64 fn, .bool turns, .int .i64 f, .int .i64 a, .int .i64 b] w fun e w' => e = .returned (.bool (domB fn turns f a b)) ∧ Below w.heap.size w w' := by
  cases h : argsB fn f a b
  · rw [domB_no h]; exact sDom_out fn turns f a b w h
  · rw [domB_ok h]
    by_cases h1 : fn = 1
    · subst h1; exact sDom_1 turns f a b w h
    · by_cases h2 : fn = 2
      · subst h2; exact sDom_2 turns f a b w h
      · by_cases h5 : fn = 5
        · subst h5; exact sDom_5 turns f a b w h
        · by_cases h10 : fn = 10
          · subst h10; exact sDom_10 turns f a b w h
          · by_cases h14 : fn = 14
            · subst h14; exact sDom_14 turns f a b w h
            · by_cases h8 : fn = 8
              · subst h8; exact sDom_8 turns f a b w h
              · rw [if_neg h1, if_neg h2, if_neg h5, if_neg h10, if_neg h14, if_neg h8]
                exact sDom_else fn turns f a b w h h1 h2 h5 h10 h14 h8
set_option maxHeartbeats 1000000 in
theorem iDom_out (fn : Int) (turns : Bool) (f a b : Int) (w : World) (h : argsB fn f a b = false) : Calls Try.prog 13 #[.int .i64 fn, .bool turns, .int .i64 f, .int .i64 a, .int .i64 b] w fun e w' => e = .returned (.bool (false)) ∧ Below w.heap.size w w' := by
  have q1 : (true && true) = true := rfl
  have q2 : (true && false) = false := rfl
  have q3 : (false && true) = false := rfl
  have q4 : (false && false) = false := rfl
  cases h1 : inR fn 0 14
  · clear h
    go_enter Try.func13, Try.ntmps13
    go_wp2_with (first | (go_at_call 23; refine (isFun_any0 _ _).mono ?_; rintro e w' ⟨rfl, rfl⟩) | (go_at_call 31; refine (isPoint_dom _ _).mono ?_; rintro e w' ⟨rfl, rfl⟩) | (go_at_call 32; refine (isArg_any _ _).mono ?_; rintro e w' ⟨rfl, rfl⟩))
    go_ret
    exact ⟨rfl, Below.refl _ _⟩
  · skip
    cases h3 : inR f 0 60
    · clear h
      go_enter Try.func13, Try.ntmps13
      go_wp2_with (first | (go_at_call 23; refine (isFun_any0 _ _).mono ?_; rintro e w' ⟨rfl, rfl⟩) | (go_at_call 31; refine (isPoint_dom _ _).mono ?_; rintro e w' ⟨rfl, rfl⟩) | (go_at_call 32; refine (isArg_any _ _).mono ?_; rintro e w' ⟨rfl, rfl⟩))
      go_ret
      exact ⟨rfl, Below.refl _ _⟩
    · skip
      cases h2 : argIn a
      · clear h
        go_enter Try.func13, Try.ntmps13
        go_wp2_with (first | (go_at_call 23; refine (isFun_any0 _ _).mono ?_; rintro e w' ⟨rfl, rfl⟩) | (go_at_call 31; refine (isPoint_dom _ _).mono ?_; rintro e w' ⟨rfl, rfl⟩) | (go_at_call 32; refine (isArg_any _ _).mono ?_; rintro e w' ⟨rfl, rfl⟩))
        go_ret
        exact ⟨rfl, Below.refl _ _⟩
      · skip
        cases h4 : argIn b
        · clear h
          go_enter Try.func13, Try.ntmps13
          go_wp2_with (first | (go_at_call 23; refine (isFun_any0 _ _).mono ?_; rintro e w' ⟨rfl, rfl⟩) | (go_at_call 31; refine (isPoint_dom _ _).mono ?_; rintro e w' ⟨rfl, rfl⟩) | (go_at_call 32; refine (isArg_any _ _).mono ?_; rintro e w' ⟨rfl, rfl⟩))
          go_ret
          exact ⟨rfl, Below.refl _ _⟩
        · exfalso; unfold argsB at h; rw [h1, h2, h3, h4] at h; cases h
set_option maxHeartbeats 1000000 in
theorem iDom_1  (turns : Bool) (f a b : Int) (w : World) (h : argsB 1 f a b = true) : Calls Try.prog 13 #[.int .i64 1, .bool turns, .int .i64 f, .int .i64 a, .int .i64 b] w fun e w' => e = .returned (.bool (b != 0)) ∧ Below w.heap.size w w' := by
  have h' := h
  unfold argsB at h'
  simp only [Bool.and_eq_true] at h'
  obtain ⟨⟨h1, h2, h3⟩, h4, _⟩ := h'
  clear h
  have q1 : (true && true) = true := rfl
  have q2 : (argIn a && inR f 0 60) = true := by rw [h2, h3]; rfl
  have q3 : (argIn b && inR f 0 60) = true := by rw [h4, h3]; rfl
  have hf := (inR_iff _ _ _).1 h3
  obtain ⟨hf1, hf2⟩ := hf
  obtain ⟨F, rfl⟩ := Int.eq_ofNat_of_zero_le hf1
  have hFF : F ≤ 60 := by omega
  cases hb0 : (b != 0)
  all_goals
    go_enter Try.func13, Try.ntmps13
    go_wp2_with (first | (go_at_call 23; refine (isFun_any0 _ _).mono ?_; rintro e w' ⟨rfl, rfl⟩) | (go_at_call 31; refine (isPoint_dom _ _).mono ?_; rintro e w' ⟨rfl, rfl⟩) | (go_at_call 32; refine (isArg_any _ _).mono ?_; rintro e w' ⟨rfl, rfl⟩))
    go_ret
    exact ⟨by first | rfl | simp [*], Below.refl _ _⟩
set_option maxHeartbeats 1000000 in
theorem iDom_2  (turns : Bool) (f a b : Int) (w : World) (h : argsB 2 f a b = true) : Calls Try.prog 13 #[.int .i64 2, .bool turns, .int .i64 f, .int .i64 a, .int .i64 b] w fun e w' => e = .returned (.bool (decide (0 ≤ a))) ∧ Below w.heap.size w w' := by
  have h' := h
  unfold argsB at h'
  simp only [Bool.and_eq_true] at h'
  obtain ⟨⟨h1, h2, h3⟩, h4, _⟩ := h'
  clear h
  have q1 : (true && true) = true := rfl
  have q2 : (argIn a && inR f 0 60) = true := by rw [h2, h3]; rfl
  have q3 : (argIn b && inR f 0 60) = true := by rw [h4, h3]; rfl
  have hf := (inR_iff _ _ _).1 h3
  obtain ⟨hf1, hf2⟩ := hf
  obtain ⟨F, rfl⟩ := Int.eq_ofNat_of_zero_le hf1
  have hFF : F ≤ 60 := by omega
  by_cases hc : 0 ≤ a
  all_goals simp only [hc, decide_true, decide_false]
  all_goals
    go_enter Try.func13, Try.ntmps13
    go_wp2_with (first | (go_at_call 23; refine (isFun_any0 _ _).mono ?_; rintro e w' ⟨rfl, rfl⟩) | (go_at_call 31; refine (isPoint_dom _ _).mono ?_; rintro e w' ⟨rfl, rfl⟩) | (go_at_call 32; refine (isArg_any _ _).mono ?_; rintro e w' ⟨rfl, rfl⟩))
    go_ret
    exact ⟨by first | rfl | simp [*], Below.refl _ _⟩
set_option maxHeartbeats 1000000 in
theorem iDom_5  (turns : Bool) (f a b : Int) (w : World) (h : argsB 5 f a b = true) : Calls Try.prog 13 #[.int .i64 5, .bool turns, .int .i64 f, .int .i64 a, .int .i64 b] w fun e w' => e = .returned (.bool (decide (0 < a))) ∧ Below w.heap.size w w' := by
  have h' := h
  unfold argsB at h'
  simp only [Bool.and_eq_true] at h'
  obtain ⟨⟨h1, h2, h3⟩, h4, _⟩ := h'
  clear h
  have q1 : (true && true) = true := rfl
  have q2 : (argIn a && inR f 0 60) = true := by rw [h2, h3]; rfl
  have q3 : (argIn b && inR f 0 60) = true := by rw [h4, h3]; rfl
  have hf := (inR_iff _ _ _).1 h3
  obtain ⟨hf1, hf2⟩ := hf
  obtain ⟨F, rfl⟩ := Int.eq_ofNat_of_zero_le hf1
  have hFF : F ≤ 60 := by omega
  by_cases hc : 0 < a
  all_goals simp only [hc, decide_true, decide_false]
  all_goals
    go_enter Try.func13, Try.ntmps13
    go_wp2_with (first | (go_at_call 23; refine (isFun_any0 _ _).mono ?_; rintro e w' ⟨rfl, rfl⟩) | (go_at_call 31; refine (isPoint_dom _ _).mono ?_; rintro e w' ⟨rfl, rfl⟩) | (go_at_call 32; refine (isArg_any _ _).mono ?_; rintro e w' ⟨rfl, rfl⟩))
    go_ret
    exact ⟨by first | rfl | simp [*], Below.refl _ _⟩
set_option maxHeartbeats 1000000 in
theorem iDom_10  (turns : Bool) (f a b : Int) (w : World) (h : argsB 10 f a b = true) : Calls Try.prog 13 #[.int .i64 10, .bool turns, .int .i64 f, .int .i64 a, .int .i64 b] w fun e w' => e = .returned (.bool ((a != 0 || b != 0))) ∧ Below w.heap.size w w' := by
  have h' := h
  unfold argsB at h'
  simp only [Bool.and_eq_true] at h'
  obtain ⟨⟨h1, h2, h3⟩, h4, _⟩ := h'
  clear h
  have q1 : (true && true) = true := rfl
  have q2 : (argIn a && inR f 0 60) = true := by rw [h2, h3]; rfl
  have q3 : (argIn b && inR f 0 60) = true := by rw [h4, h3]; rfl
  have hf := (inR_iff _ _ _).1 h3
  obtain ⟨hf1, hf2⟩ := hf
  obtain ⟨F, rfl⟩ := Int.eq_ofNat_of_zero_le hf1
  have hFF : F ≤ 60 := by omega
  cases ha0 : (a != 0) <;> cases hb0 : (b != 0)
  all_goals
    go_enter Try.func13, Try.ntmps13
    go_wp2_with (first | (go_at_call 23; refine (isFun_any0 _ _).mono ?_; rintro e w' ⟨rfl, rfl⟩) | (go_at_call 31; refine (isPoint_dom _ _).mono ?_; rintro e w' ⟨rfl, rfl⟩) | (go_at_call 32; refine (isArg_any _ _).mono ?_; rintro e w' ⟨rfl, rfl⟩))
    go_ret
    exact ⟨by first | rfl | simp [*], Below.refl _ _⟩
set_option maxHeartbeats 1000000 in
theorem iDom_14  (turns : Bool) (f a b : Int) (w : World) (h : argsB 14 f a b = true) : Calls Try.prog 13 #[.int .i64 14, .bool turns, .int .i64 f, .int .i64 a, .int .i64 b] w fun e w' => e = .returned (.bool ((decide (-pw f < a) && decide (a < pw f)))) ∧ Below w.heap.size w w' := by
  have h' := h
  unfold argsB at h'
  simp only [Bool.and_eq_true] at h'
  obtain ⟨⟨h1, h2, h3⟩, h4, _⟩ := h'
  clear h
  have q1 : (true && true) = true := rfl
  have q2 : (argIn a && inR f 0 60) = true := by rw [h2, h3]; rfl
  have q3 : (argIn b && inR f 0 60) = true := by rw [h4, h3]; rfl
  have hf := (inR_iff _ _ _).1 h3
  obtain ⟨hf1, hf2⟩ := hf
  have hp := pw_bd f (by omega)
  obtain ⟨hp1, hp2⟩ := hp
  have hs := shl_one f (by omega)
  generalize pw f = P at *
  by_cases c1 : -P < a <;> by_cases c2 : a < P
  all_goals try (exfalso; omega)
  all_goals simp only [c1, c2, decide_true, decide_false]
  all_goals
    go_enter Try.func13, Try.ntmps13
    go_wp2_with (first | (go_at_call 23; refine (isFun_any0 _ _).mono ?_; rintro e w' ⟨rfl, rfl⟩) | (go_at_call 31; refine (isPoint_dom _ _).mono ?_; rintro e w' ⟨rfl, rfl⟩) | (go_at_call 32; refine (isArg_any _ _).mono ?_; rintro e w' ⟨rfl, rfl⟩))
    go_ret
    exact ⟨by first | rfl | simp [*], Below.refl _ _⟩
set_option maxHeartbeats 1000000 in
theorem iDom_8  (turns : Bool) (f a b : Int) (w : World) (h : argsB 8 f a b = true) : Calls Try.prog 13 #[.int .i64 8, .bool turns, .int .i64 f, .int .i64 a, .int .i64 b] w fun e w' => e = .returned (.bool ((!turns || tanOk f a))) ∧ Below w.heap.size w w' := by
  have h' := h
  unfold argsB at h'
  simp only [Bool.and_eq_true] at h'
  obtain ⟨⟨h1, h2, h3⟩, h4, _⟩ := h'
  clear h
  have q1 : (true && true) = true := rfl
  have q2 : (argIn a && inR f 0 60) = true := by rw [h2, h3]; rfl
  have q3 : (argIn b && inR f 0 60) = true := by rw [h4, h3]; rfl
  have hf := (inR_iff _ _ _).1 h3
  obtain ⟨hf1, hf2⟩ := hf
  have ha := (argIn_iff _).1 h2
  obtain ⟨ha1, ha2⟩ := ha
  obtain ⟨F, rfl⟩ := Int.eq_ofNat_of_zero_le hf1
  have hFF : F ≤ 60 := by omega
  obtain ⟨hD1, hD2⟩ := two_bd hFF
  obtain ⟨D, hD⟩ : ∃ D : Int, D = ((2 ^ F : Nat) : Int) := ⟨_, rfl⟩
  have HC := Lib.hid (fun W : World => eighths_any a D F W hFF hD ha1 ha2)
  have HT := Lib.hid (tanOk_law a F D hD (by omega))
  have hq1 : 0 ≤ a % D * 8 / D := Int.ediv_nonneg (by have := Int.emod_nonneg a (show D ≠ 0 by omega); omega) (by omega)
  rw [← HT.out]
  clear HT hD hD1 hD2
  generalize a % D * 8 / D = n at *
  generalize (a % D * 8 % D == 0) = pb at *
  cases turns <;> cases pb <;> cases hz : (n % 4 != 2)
  all_goals
    go_enter Try.func13, Try.ntmps13
    go_wp2_with (first | (go_at_call 33; refine (HC.out _).mono ?_; rintro e w' ⟨rfl, nq, rfl⟩) | (go_at_call 23; refine (isFun_any0 _ _).mono ?_; rintro e w' ⟨rfl, rfl⟩) | (go_at_call 31; refine (isPoint_dom _ _).mono ?_; rintro e w' ⟨rfl, rfl⟩) | (go_at_call 32; refine (isArg_any _ _).mono ?_; rintro e w' ⟨rfl, rfl⟩))
    go_ret
    exact ⟨rfl, bl_drewN _ _⟩
set_option maxHeartbeats 1000000 in
theorem iDom_else (fn : Int) (turns : Bool) (f a b : Int) (w : World) (h : argsB fn f a b = true) (hn1 : fn ≠ 1) (hn2 : fn ≠ 2) (hn5 : fn ≠ 5) (hn10 : fn ≠ 10) (hn14 : fn ≠ 14) (hn8 : fn ≠ 8) : Calls Try.prog 13 #[.int .i64 fn, .bool turns, .int .i64 f, .int .i64 a, .int .i64 b] w fun e w' => e = .returned (.bool (true)) ∧ Below w.heap.size w w' := by
  have h' := h
  unfold argsB at h'
  simp only [Bool.and_eq_true] at h'
  obtain ⟨⟨h1, h2, h3⟩, h4, _⟩ := h'
  clear h
  have q1 : (true && true) = true := rfl
  have q2 : (argIn a && inR f 0 60) = true := by rw [h2, h3]; rfl
  have q3 : (argIn b && inR f 0 60) = true := by rw [h4, h3]; rfl
  have hf := (inR_iff _ _ _).1 h3
  obtain ⟨hf1, hf2⟩ := hf
  have n1 : (fn == 1) = false := by rw [beq_eq_false_iff_ne]; exact hn1
  have n2 : (fn == 2) = false := by rw [beq_eq_false_iff_ne]; exact hn2
  have n5 : (fn == 5) = false := by rw [beq_eq_false_iff_ne]; exact hn5
  have n10 : (fn == 10) = false := by rw [beq_eq_false_iff_ne]; exact hn10
  have n14 : (fn == 14) = false := by rw [beq_eq_false_iff_ne]; exact hn14
  have n8 : (fn == 8) = false := by rw [beq_eq_false_iff_ne]; exact hn8
  clear hn1 hn2 hn5 hn10 hn14 hn8
  obtain ⟨F, rfl⟩ := Int.eq_ofNat_of_zero_le hf1
  have hFF : F ≤ 60 := by omega
  go_enter Try.func13, Try.ntmps13
  go_wp2_with (first | (go_at_call 23; refine (isFun_any0 _ _).mono ?_; rintro e w' ⟨rfl, rfl⟩) | (go_at_call 31; refine (isPoint_dom _ _).mono ?_; rintro e w' ⟨rfl, rfl⟩) | (go_at_call 32; refine (isArg_any _ _).mono ?_; rintro e w' ⟨rfl, rfl⟩))
  go_ret
  exact ⟨rfl, Below.refl _ _⟩
theorem iInDomain_any (fn : Int) (turns : Bool) (f a b : Int) (w : World) : Calls Try.prog 13 #[.int .i64 fn, .bool turns, .int .i64 f, .int .i64 a, .int .i64 b] w fun e w' => e = .returned (.bool (domB fn turns f a b)) ∧ Below w.heap.size w w' := by
  cases h : argsB fn f a b
  · rw [domB_no h]; exact iDom_out fn turns f a b w h
  · rw [domB_ok h]
    by_cases h1 : fn = 1
    · subst h1; exact iDom_1 turns f a b w h
    · by_cases h2 : fn = 2
      · subst h2; exact iDom_2 turns f a b w h
      · by_cases h5 : fn = 5
        · subst h5; exact iDom_5 turns f a b w h
        · by_cases h10 : fn = 10
          · subst h10; exact iDom_10 turns f a b w h
          · by_cases h14 : fn = 14
            · subst h14; exact iDom_14 turns f a b w h
            · by_cases h8 : fn = 8
              · subst h8; exact iDom_8 turns f a b w h
              · rw [if_neg h1, if_neg h2, if_neg h5, if_neg h10, if_neg h14, if_neg h8]
                exact iDom_else fn turns f a b w h h1 h2 h5 h10 h14 h8
end Go.Proofs.Ytimjfcipkmcgmaa
