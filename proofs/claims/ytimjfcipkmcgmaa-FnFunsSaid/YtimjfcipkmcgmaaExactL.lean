/-
  PROVED: what is exact, the reference's and the program's, case by case (all cases; the law on it).
  CONDITIONS: none.
-/
import Derived.Test.YtimjfcipkmcgmaaExactA
import Derived.Test.YtimjfcipkmcgmaaExactB
import Derived.Test.YtimjfcipkmcgmaaExactC
namespace Go.Proofs.Ytimjfcipkmcgmaa
open Go.ChangeShapes Go.WideShapes Go.ChangeAt Go.RowKit
set_option linter.unusedVariables false
set_option maxHeartbeats 1000000 in
theorem ex_out (fn : Int) (turns : Bool) (f a b : Int) (hdom : domB fn turns f a b = false) : ExB fn turns f a b 0 0 false := by
  have HD := Lib.hid (fun W : World => sInDomain_any fn turns f a b W)
  have HDI := Lib.hid (fun W : World => iInDomain_any fn turns f a b W)
  rw [hdom] at HD HDI
  clear hdom
  refine ⟨fun w => ?_, fun w => ?_⟩
  · go_enter Try.func10, Try.ntmps10
    go_wp2_with (go_at_call 26; refine (HD.out _).mono ?_; rintro e w1 ⟨rfl, hb1⟩)
    go_ret3
    exact ⟨rfl, hb1⟩
  · go_enter Try.func9, Try.ntmps9
    go_wp2_with (go_at_call 13; refine (HDI.out _).mono ?_; rintro e w1 ⟨rfl, hb1⟩)
    go_ret3
    exact ⟨rfl, hb1⟩
def ExOk (n k : Int) : Prop := (k = 0 ∧ -1 ≤ n ∧ n ≤ 1) ∨ (k = 3 ∧ -3 ≤ n ∧ n ≤ 4)
def ExAll (fn : Int) (turns : Bool) (f a b : Int) : Prop := ∃ n k ok, ExB fn turns f a b n k ok ∧ (ok = true → domB fn turns f a b = true ∧ ExOk n k) ∧ (ok = false → n = 0 ∧ k = 0)
theorem exAll_no {fn : Int} {turns : Bool} {f a b : Int} (h : ExB fn turns f a b 0 0 false) : ExAll fn turns f a b := ⟨0, 0, false, h, (fun h => by cases h), fun _ => ⟨rfl, rfl⟩⟩
theorem exAll_yes {fn : Int} {turns : Bool} {f a b n k : Int} (h : ExB fn turns f a b n k true) (hd : domB fn turns f a b = true) (hk : ExOk n k) : ExAll fn turns f a b := ⟨n, k, true, h, fun _ => ⟨hd, hk⟩, (fun h => by cases h)⟩
theorem ok0 {n : Int} (h1 : -1 ≤ n) (h2 : n ≤ 1) : ExOk n 0 := .inl ⟨rfl, h1, h2⟩
theorem ok3 {n : Int} (h1 : -3 ≤ n) (h2 : n ≤ 4) : ExOk n 3 := .inr ⟨rfl, h1, h2⟩
theorem exact_all (fn : Int) (turns : Bool) (f a b : Int) : ExAll fn turns f a b := by
  cases hdom : domB fn turns f a b
  · exact exAll_no (ex_out fn turns f a b hdom)
  · have hargs : argsB fn f a b = true := by
      cases h : argsB fn f a b
      · rw [domB_no h] at hdom; cases hdom
      · rfl
    have hr := hargs
    unfold argsB at hr
    simp only [Bool.and_eq_true] at hr
    obtain ⟨⟨hr1, _, hr3⟩, _, _⟩ := hr
    obtain ⟨hf1, hf2⟩ := (inR_iff _ _ _).1 hr3
    obtain ⟨hn1, hn2⟩ := (inR_iff _ _ _).1 hr1
    obtain ⟨F, rfl⟩ := Int.eq_ofNat_of_zero_le hf1
    have hF : F ≤ 60 := by omega
    obtain ⟨D, hD⟩ : ∃ D : Int, D = ((2 ^ F : Nat) : Int) := ⟨_, rfl⟩
    have hfn : fn = 0 ∨ fn = 1 ∨ fn = 2 ∨ fn = 3 ∨ fn = 4 ∨ fn = 5 ∨ fn = 6 ∨ fn = 7 ∨ fn = 8 ∨ fn = 9 ∨ fn = 10 ∨ fn = 11 ∨ fn = 12 ∨ fn = 13 ∨ fn = 14 := by omega
    have hval := domB_ok (t := turns) hargs
    rw [hdom] at hval
    clear hr1 hr3 hf1 hf2 hn1 hn2 hargs
    rcases hfn with rfl | rfl | rfl | rfl | rfl | rfl | rfl | rfl | rfl | rfl | rfl | rfl | rfl | rfl | rfl
    · cases turns
      · exact exAll_no (ex_0_0 a b D F hF hD hdom)
      · exact exAll_no (ex_0_1 a b D F hF hD hdom)
    · cases turns
      · exact exAll_no (ex_1_0 a b D F hF hD hdom)
      · exact exAll_no (ex_1_1 a b D F hF hD hdom)
    · cases turns
      · exact exAll_no (ex_2_0 a b D F hF hD hdom)
      · exact exAll_no (ex_2_1 a b D F hF hD hdom)
    · cases turns
      · exact exAll_no (ex_3_0 a b D F hF hD hdom)
      · exact exAll_no (ex_3_1 a b D F hF hD hdom)
    · by_cases h0 : a = 0
      · exact exAll_yes (ex_4_zero a b D F turns hF hD hdom h0) hdom (ok0 (by omega) (by omega))
      · cases turns
        · exact exAll_no (ex_4_0 a b D F hF hD hdom h0)
        · exact exAll_no (ex_4_1 a b D F hF hD hdom h0)
    · have hap : 0 < a := by
        simp at hval
        exact hval
      by_cases h0 : a = D
      · cases turns
        · exact exAll_yes (ex_5_yes_0 a b D F hF hD hdom h0) hdom (ok0 (by omega) (by omega))
        · exact exAll_yes (ex_5_yes_1 a b D F hF hD hdom h0) hdom (ok0 (by omega) (by omega))
      · cases turns
        · exact exAll_no (ex_5_no_0 a b D F hF hD hdom h0 hap)
        · exact exAll_no (ex_5_no_1 a b D F hF hD hdom h0 hap)
    · by_cases h0 : a = 0
      · exact exAll_yes (ex_6_zero a b D F turns hF hD hdom h0) hdom (ok0 (by omega) (by omega))
      · cases turns
        · exact exAll_no (ex_6_0 a b D F hF hD hdom h0)
        · exact ⟨_, _, _, ex_6_1 a b D F hF hD hdom h0, (fun h => ⟨hdom, ok0 (trN_bd _ _ _).1 (trN_bd _ _ _).2⟩), fun h => ⟨trN_no h, rfl⟩⟩
    · by_cases h0 : a = 0
      · exact exAll_yes (ex_7_zero a b D F turns hF hD hdom h0) hdom (ok0 (by omega) (by omega))
      · cases turns
        · exact exAll_no (ex_7_0 a b D F hF hD hdom h0)
        · exact ⟨_, _, _, ex_7_1 a b D F hF hD hdom h0, (fun h => ⟨hdom, ok0 (trN_bd _ _ _).1 (trN_bd _ _ _).2⟩), fun h => ⟨trN_no h, rfl⟩⟩
    · by_cases h0 : a = 0
      · exact exAll_yes (ex_8_zero a b D F turns hF hD hdom h0) hdom (ok0 (by omega) (by omega))
      · cases turns
        · exact exAll_no (ex_8_0 a b D F hF hD hdom h0)
        · exact ⟨_, _, _, ex_8_1 a b D F hF hD hdom h0, (fun h => ⟨hdom, ok0 (trN_bd _ _ _).1 (trN_bd _ _ _).2⟩), fun h => ⟨trN_no h, rfl⟩⟩
    · by_cases h0 : a = 0
      · exact exAll_yes (ex_9_zero a b D F turns hF hD hdom h0) hdom (ok0 (by omega) (by omega))
      · cases turns
        · exact exAll_no (ex_9_0 a b D F hF hD hdom h0)
        · by_cases h1 : a = D
          · exact exAll_yes (ex_9_pos a b D F hF hD hdom h1) hdom (ok3 (by omega) (by omega))
          · by_cases h2 : a = -D
            · exact exAll_yes (ex_9_neg a b D F hF hD hdom h2) hdom (ok3 (by omega) (by omega))
            · exact exAll_no (ex_9_no a b D F hF hD hdom h0 h1 h2)
    · have hab : a ≠ 0 ∨ b ≠ 0 := by
        simp at hval
        omega
      by_cases h0 : a = 0
      · by_cases h1 : 0 < b
        · exact exAll_yes (ex_10_right a b D F turns hF hD hdom h0 h1) hdom (ok0 (by omega) (by omega))
        · cases turns
          · exact exAll_no (ex_10_off0 a b D F hF hD hdom h0 h1)
          · exact exAll_yes (ex_10_left a b D F hF hD hdom h0 (by omega)) hdom (ok3 (by omega) (by omega))
      · cases turns
        · exact exAll_no (ex_10_offn a b D F hF hD hdom h0)
        · by_cases h1 : b = 0
          · by_cases hp : 0 < a
            · exact exAll_yes (ex_10_upp a b D F hF hD hdom hp h1) hdom (ok3 (by omega) (by omega))
            · exact exAll_yes (ex_10_upn a b D F hF hD hdom (by omega) h1) hdom (ok3 (by omega) (by omega))
          · by_cases h2 : a = b
            · by_cases hp : 0 < a
              · exact exAll_yes (ex_10_dpp a b D F hF hD hdom hp (by omega) h2) hdom (ok3 (by omega) (by omega))
              · exact exAll_yes (ex_10_dnn a b D F hF hD hdom (by omega) (by omega) h2) hdom (ok3 (by omega) (by omega))
            · by_cases h3 : a = -b
              · by_cases hp : 0 < a
                · exact exAll_yes (ex_10_dpn a b D F hF hD hdom hp (by omega) h3) hdom (ok3 (by omega) (by omega))
                · exact exAll_yes (ex_10_dnp a b D F hF hD hdom (by omega) (by omega) h3) hdom (ok3 (by omega) (by omega))
              · exact exAll_no (ex_10_no a b D F hF hD hdom h0 h1 h2 h3)
    · by_cases h0 : a = 0
      · exact exAll_yes (ex_11_zero a b D F turns hF hD hdom h0) hdom (ok0 (by omega) (by omega))
      · cases turns
        · exact exAll_no (ex_11_0 a b D F hF hD hdom h0)
        · exact exAll_no (ex_11_1 a b D F hF hD hdom h0)
    · by_cases h0 : a = 0
      · exact exAll_yes (ex_12_zero a b D F turns hF hD hdom h0) hdom (ok0 (by omega) (by omega))
      · cases turns
        · exact exAll_no (ex_12_0 a b D F hF hD hdom h0)
        · exact exAll_no (ex_12_1 a b D F hF hD hdom h0)
    · by_cases h0 : a = 0
      · exact exAll_yes (ex_13_zero a b D F turns hF hD hdom h0) hdom (ok0 (by omega) (by omega))
      · cases turns
        · exact exAll_no (ex_13_0 a b D F hF hD hdom h0)
        · exact exAll_no (ex_13_1 a b D F hF hD hdom h0)
    · by_cases h0 : a = 0
      · exact exAll_yes (ex_14_zero a b D F turns hF hD hdom h0) hdom (ok0 (by omega) (by omega))
      · cases turns
        · exact exAll_no (ex_14_0 a b D F hF hD hdom h0)
        · exact exAll_no (ex_14_1 a b D F hF hD hdom h0)
set_option maxHeartbeats 1000000 in
theorem walkFnExactExact (a0 : Int) (a1 : Bool) (a2 a3 a4 : Int) (w : World) (w0 : (Lit.int .i64 a0).wf = true) (w2 : (Lit.int .i64 a2).wf = true) (w3 : (Lit.int .i64 a3).wf = true) (w4 : (Lit.int .i64 a4).wf = true) :
    Calls Try.prog 5 #[.int .i64 a0, .bool a1, .int .i64 a2, .int .i64 a3, .int .i64 a4] w fun e w' => e = .returned (.bool true) ∧ Below w.heap.size w w' := by
  obtain ⟨n, k, ok, ⟨hs, hi⟩, _, _⟩ := exact_all a0 a1 a2 a3 a4
  have HS := Lib.hid hs
  have HI := Lib.hid hi
  clear hs hi
  have hr : (ok != ok) = false := by cases ok <;> rfl
  go_enter Try.func5, Try.ntmps5
  go_wp2_with fail
  refine (HS.out _).mono ?_
  rintro e w1 ⟨rfl, hb1⟩
  go_wp2_with fail
  refine (HI.out _).mono ?_
  rintro e w2 ⟨rfl, hb2⟩
  go_wp2_with fail
  go_ret
  exact ⟨rfl, bl_step hb1 hb2⟩
end Go.Proofs.Ytimjfcipkmcgmaa
