/-
  PROVED: contracts of the draws of a function's arguments; the walk of the law of the functions.
  CONDITIONS: none.
-/
import Derived.Test.YtimjfcipkmcgmaaDrf
import Derived.Test.YtimjfcipkmcgmaaPlace
import Derived.Test.YtimjfcipkmcgmaaExactL
namespace Go.Proofs.Ytimjfcipkmcgmaa
open Go.ChangeShapes Go.WideShapes Go.ChangeAt Go.RowKit
set_option linter.unusedVariables false
theorem fun_in (fn : Int) : (0 ≤ fn ∧ fn ≤ 14 ∧ ((wordAt funL fn).toList == []) = false ∧ placeF (strs funL) (wordAt funL fn) 15 0 = fn) ∨ ((fn < 0 ∨ 14 < fn) ∧ ((wordAt funL fn).toList == []) = true ∧ takesB fn = 0) := by
  by_cases h : 0 ≤ fn ∧ fn ≤ 14
  · left
    obtain ⟨j, rfl⟩ := Int.eq_ofNat_of_zero_le h.1
    have hj : j < 15 := by omega
    refine ⟨h.1, h.2, ?_⟩
    clear h
    rcases (show j = 0 ∨ j = 1 ∨ j = 2 ∨ j = 3 ∨ j = 4 ∨ j = 5 ∨ j = 6 ∨ j = 7 ∨ j = 8 ∨ j = 9 ∨ j = 10 ∨ j = 11 ∨ j = 12 ∨ j = 13 ∨ j = 14 by omega) with rfl | rfl | rfl | rfl | rfl | rfl | rfl | rfl | rfl | rfl | rfl | rfl | rfl | rfl | rfl
    all_goals exact ⟨by simp [ByteArray.toList_eq, wordAt, funL, strs], by simp [ByteArray.toList_eq, wordAt, funL, strs, placeF]⟩
  · right
    refine ⟨by omega, ?_, takesB_none h⟩
    have : wordAt funL fn = ByteArray.empty := by unfold wordAt; rw [if_neg (by simp [funL]; omega)]
    rw [this]
    simp [ByteArray.toList_eq]
set_option maxHeartbeats 4000000 in
theorem walkFnFuns (a0 : Option Addr) (len0 cap0 : Nat) (z0 : List Int) (w : World) (w0 : IsRow .u8 w a0 len0 cap0 z0) :
    Calls Try.prog 3 #[.slice a0 len0 cap0] w fun e w' => e = .returned (.bool true) ∧ Below w.heap.size w w' := by
  obtain ⟨ha, hlen, hwf⟩ := w0.rowAt
  have hby : ∀ z ∈ z0.take len0, 0 ≤ z ∧ z ≤ 255 := fun z hz => bounds_u8 (hwf z hz)
  clear w0 hwf
  generalize z0.take len0 = z0 at *
  by_cases hbg : (len0 : Int) > 1048576
  · have hd : decide ((len0 : Int) > 1048576) = true := decide_eq_true hbg
    clear ha hby
    go_enter Try.func3, Try.ntmps3
    go_wp2_with fail
    refine (big_any _ _ _ _).mono ?_
    rintro e w1 ⟨rfl, rfl⟩
    rw [hd]
    go_wp2
    go_ret
    exact ⟨rfl, Below.refl _ _⟩
  · have hd : decide ((len0 : Int) > 1048576) = false := decide_eq_false hbg
    obtain ⟨S, rfl, rfl, rfl, rfl⟩ : ∃ S : Src, S.a = a0 ∧ S.n = len0 ∧ S.c = cap0 ∧ S.l = z0 := ⟨⟨a0, len0, cap0, z0, hlen, by omega, hby⟩, rfl, rfl, rfl, rfl⟩
    have HA := Lib.hid ha
    clear ha hby hlen hbg
    go_enter Try.func3, Try.ntmps3
    go_wp2_with fail
    refine (big_any _ _ _ _).mono ?_
    rintro e w1 ⟨rfl, rfl⟩
    rw [hd]
    clear hd
    go_wp2_with fail
    refine (drawExact_any S w HA.out).mono ?_
    rintro e w1 ⟨fn, tu, f, a, b, rfl, hb1⟩
    obtain ⟨n, k, ok, ⟨hs, hi⟩, hyes, hno⟩ := exact_all fn tu f a b
    have HS := Lib.hid hs
    have HI := Lib.hid hi
    have hfi := fun_in fn
    have HD := Lib.hid (fun W => iInDomain_any fn tu f a b W)
    have HF := Lib.hid (fun W => iFunOf_any (wordAt funL fn) W)
    clear hs hi
    have hr : (ok != ok) = false := by cases ok <;> rfl
    go_wp2_with fail
    refine (iFunText_any _ _).mono ?_
    rintro e w2 ⟨rfl, hb2⟩
    generalize wordAt funL fn = t at *
    go_wp2_with fail
    refine (HI.out _).mono ?_
    rintro e w3 ⟨rfl, hb3⟩
    go_wp2_with fail
    refine (HS.out _).mono ?_
    rintro e w4 ⟨rfl, hb4⟩
    have hb := bl_step hb1 (bl_step hb2 (bl_step hb3 hb4))
    clear hb1 hb2 hb3 hb4 hr
    generalize hdm : domB fn tu f a b = dm at *
    generalize hpl : placeF (strs funL) t 15 0 = pl at *
    rcases hfi with ⟨h0, h1, h2, h3⟩ | ⟨h0, h2, h3⟩
    · cases ok
      · obtain ⟨rfl, rfl⟩ := hno rfl
        clear hyes hno
        subst h3
        go_wp2_with fail
        refine (HF.out _).mono ?_
        rintro e w5 ⟨rfl, hb5⟩
        go_wp2_with fail
        go_ret
        exact ⟨rfl, bl_step hb hb5⟩
      · obtain ⟨rfl, hk⟩ := hyes rfl
        clear hyes hno
        subst h3
        go_wp2_with fail
        refine (HF.out _).mono ?_
        rintro e w5 ⟨rfl, hb5⟩
        have HK := Lib.hid hk
        clear hk
        go_wp2_with fail
        refine (HD.out _).mono ?_
        rintro e w6 ⟨rfl, hb6⟩
        rcases HK.out with ⟨rfl, hn1, hn2⟩ | ⟨rfl, hn1, hn2⟩
        all_goals
          go_wp2_with fail
          go_ret
          exact ⟨rfl, bl_step hb (bl_step hb5 hb6)⟩
    · cases ok
      · obtain ⟨rfl, rfl⟩ := hno rfl
        clear hyes hno
        rcases h0 with h0 | h0
        · have e1 : decide (fn < 0) = true := decide_eq_true h0
          go_wp2_with fail
          refine (iTakes_any _ _).mono ?_
          rintro e w5 ⟨rfl, rfl⟩
          rw [h3]
          go_wp2_with fail
          go_ret
          exact ⟨rfl, hb⟩
        · have e1 : decide (fn < 0) = false := decide_eq_false (by omega)
          have e2 : decide (15 ≤ fn) = true := decide_eq_true (by omega)
          go_wp2_with fail
          refine (iTakes_any _ _).mono ?_
          rintro e w5 ⟨rfl, rfl⟩
          rw [h3]
          go_wp2_with fail
          go_ret
          exact ⟨rfl, hb⟩
      · exfalso
        obtain ⟨rfl, hk⟩ := hyes rfl
        rw [domB_no (by unfold argsB; rw [(inR_not fn 0 14).2 (by omega)]; rfl)] at hdm
        cases hdm
end Go.Proofs.Ytimjfcipkmcgmaa
