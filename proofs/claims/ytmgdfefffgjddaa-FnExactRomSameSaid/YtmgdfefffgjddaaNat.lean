/-
  PROVED: contracts of the check of a great number's limbs, and the law on it.
  CONDITIONS: none.
-/
import Derived.Test.YtmgdfefffgjddaaRows2
namespace Go.Proofs.Ytmgdfefffgjddaa
open Go.ChangeShapes Go.WideShapes Go.ChangeAt Go.RowKit
set_option linter.unusedVariables false
def limbsIn (zs : List Int) (j : Nat) : Bool := (zs.take j).all fun z => inR z 0 16777215
def lastOk (zs : List Int) : Bool := zs.length == 0 || zs.getD (zs.length - 1) 0 != 0
def natOkB (zs : List Int) : Bool := decide (zs.length ≤ 48) && limbsIn zs zs.length && lastOk zs
theorem natOkB_nil : natOkB [] = true := by decide
theorem natOkB_long {zs : List Int} {n : Nat} (hz : zs.length = n) (h : ¬ n ≤ 48) : natOkB zs = false := by
  unfold natOkB
  rw [hz, decide_eq_false h]; rfl
theorem limbsIn_succ {zs : List Int} {j : Nat} (h : j < zs.length) : limbsIn zs (j + 1) = (limbsIn zs j && inR (zs.getD j 0) 0 16777215) := by
  unfold limbsIn
  rw [List.take_succ_eq_append_getElem h, List.all_append]
  simp [List.getD_eq_getElem?_getD, List.getElem?_eq_getElem h]
theorem natOkB_out {zs : List Int} {j : Nat} (h : j < zs.length) (hr : inR (zs.getD j 0) 0 16777215 = false) : natOkB zs = false := by
  have : limbsIn zs zs.length = false := by
    unfold limbsIn
    rw [List.take_of_length_le (by omega), List.all_eq_false]
    exact ⟨_, getD_mem h, by rw [hr]; simp⟩
  unfold natOkB
  rw [this]; simp
theorem natOkB_end {zs : List Int} {m : Nat} (hz : zs.length = m + 1) (hm : m + 1 ≤ 48) (h : limbsIn zs (m + 1) = true) : natOkB zs = (zs.getD m 0 != 0) := by
  unfold natOkB lastOk
  rw [hz, h, decide_eq_true hm]
  simp
set_option maxHeartbeats 400000 in
theorem sNatOk_any (a : Option Addr) (n cap : Nat) (zs : List Int) (w : World) (hz : zs.length = n) (hn : n ≤ 1048576) (ha : RowAt .i64 w a zs) :
    Calls Try.prog 17 #[.slice a n cap] w fun e w' => e = .returned (.bool (natOkB zs)) ∧ w = w' := by
  have HZ := Lib.hid hz; clear hz
  by_cases h0 : n = 0
  · subst h0
    rw [List.length_eq_zero_iff.1 HZ.out, natOkB_nil]
    go_enter Try.func17, Try.ntmps17
    go_wp2
    go_loop [3] (fun i => i = .int .i64 0) (fun _ => 0)
    case atStart => rfl
    case round =>
      obtain rfl := hrel
      go_wp2
      go_ret
      exact ⟨rfl, rfl⟩
  · obtain ⟨m, rfl⟩ : ∃ m, n = m + 1 := ⟨n - 1, by omega⟩
    clear h0
    rcases ha with h | ⟨b, off, rfl, hb, hc⟩
    · exfalso; rw [h] at HZ; exact Nat.noConfusion HZ.out
    have HC := Lib.hid hc; clear hc
    by_cases hL : m + 1 ≤ 48
    rotate_left
    · have hn := Lib.hid (natOkB_long HZ.out hL)
      have HN := hn
      have hL' : ¬ (m : Int) + 1 ≤ 48 := by omega
      rw [HN.out]
      go_enter Try.func17, Try.ntmps17
      go_wp2_with fail
      go_ret
      exact ⟨rfl, rfl⟩
    go_enter Try.func17, Try.ntmps17
    go_wp2
    go_loop [3] (fun i => ∃ j : Nat, j ≤ m + 1 ∧ i = .int .i64 j ∧ limbsIn zs j = true) (fun i => m + 1 - (intOf i).toNat)
    case atStart => exact ⟨0, by omega, rfl, rfl⟩
    case round =>
      obtain ⟨j, hj, rfl, hI⟩ := hrel
      have HI := Lib.hid hI; clear hI
      by_cases hlt : j < m + 1
      · have hlz : j < zs.length := by rw [HZ.out]; exact hlt
        have hck := HC.out j hlz
        cases hr : inR (zs.getD j 0) 0 16777215
        · have HN := Lib.hid (natOkB_out hlz hr)
          clear hlz
          generalize zs.getD j 0 = d at *
          go_wp2_with (go_at_call 56; refine (l1In_any _ _ _ _).mono ?_; rintro e w2 ⟨rfl, rfl⟩)
          go_ret
          exact ⟨ret_bool HN.out.symm, rfl⟩
        · have HS := Lib.hid (limbsIn_succ hlz)
          clear hlz
          generalize zs.getD j 0 = d at *
          go_wp2_with (go_at_call 56; refine (l1In_any _ _ _ _).mono ?_; rintro e w2 ⟨rfl, rfl⟩)
          go_round
          case rel => exact ⟨j + 1, by omega, by go_num, by rw [HS.out, HI.out, hr]; rfl⟩
          case measure => simp [intOf]; omega
      · obtain rfl : j = m + 1 := by omega
        have HN := Lib.hid (natOkB_end HZ.out hL HI.out)
        have hcl := HC.out m (by rw [HZ.out]; omega)
        cases hq : (zs.getD m 0 != 0)
        all_goals
          rw [hq] at HN
          generalize zs.getD m 0 = d at *
          go_wp2
          go_ret
          exact ⟨ret_bool HN.out.symm, rfl⟩
set_option maxHeartbeats 400000 in
theorem iNatOk_any (a : Option Addr) (n cap : Nat) (zs : List Int) (w : World) (hz : zs.length = n) (hn : n ≤ 1048576) (ha : RowAt .i64 w a zs) :
    Calls Try.prog 19 #[.slice a n cap] w fun e w' => e = .returned (.bool (natOkB zs)) ∧ w = w' := by
  have HZ := Lib.hid hz; clear hz
  by_cases h0 : n = 0
  · subst h0
    rw [List.length_eq_zero_iff.1 HZ.out, natOkB_nil]
    go_enter Try.func19, Try.ntmps19
    go_wp2
    go_loop [7] (fun i => i = .int .i64 0) (fun _ => 0)
    case atStart => rfl
    case round =>
      obtain rfl := hrel
      go_wp2
      go_ret
      exact ⟨rfl, rfl⟩
  · obtain ⟨m, rfl⟩ : ∃ m, n = m + 1 := ⟨n - 1, by omega⟩
    clear h0
    rcases ha with h | ⟨b, off, rfl, hb, hc⟩
    · exfalso; rw [h] at HZ; exact Nat.noConfusion HZ.out
    have HC := Lib.hid hc; clear hc
    go_enter Try.func19, Try.ntmps19
    go_wp2
    go_loop [7] (fun i => ∃ j : Nat, j ≤ m + 1 ∧ i = .int .i64 j ∧ limbsIn zs j = true) (fun i => m + 1 - (intOf i).toNat)
    case atStart => exact ⟨0, by omega, rfl, rfl⟩
    case round =>
      obtain ⟨j, hj, rfl, hI⟩ := hrel
      have HI := Lib.hid hI; clear hI
      by_cases hlt : j < m + 1
      · have hlz : j < zs.length := by rw [HZ.out]; exact hlt
        have hck := HC.out j hlz
        cases hr : inR (zs.getD j 0) 0 16777215
        · have HN := Lib.hid (natOkB_out hlz hr)
          clear hlz
          generalize zs.getD j 0 = d at *
          go_wp2_with (go_at_call 57; refine (inRange_any _ _ _ _).mono ?_; rintro e w2 ⟨rfl, rfl⟩)
          go_ret
          exact ⟨ret_bool HN.out.symm, rfl⟩
        · have HS := Lib.hid (limbsIn_succ hlz)
          clear hlz
          generalize zs.getD j 0 = d at *
          go_wp2_with (go_at_call 57; refine (inRange_any _ _ _ _).mono ?_; rintro e w2 ⟨rfl, rfl⟩)
          go_round
          case rel => exact ⟨j + 1, by omega, by go_num, by rw [HS.out, HI.out, hr]; rfl⟩
          case measure => simp [intOf]; omega
      · obtain rfl : j = m + 1 := by omega
        by_cases hL : m + 1 ≤ 48
        · have HN := Lib.hid (natOkB_end HZ.out hL HI.out)
          have hcl := HC.out m (by rw [HZ.out]; omega)
          have hL' : decide ((m : Int) + 1 ≤ 48) = true := by rw [decide_eq_true_iff]; omega
          have hq0 : ((m : Int) + 1 == 0) = false := by rw [beq_eq_false_iff_ne]; omega
          cases hq : (zs.getD m 0 != 0)
          all_goals
            rw [hq] at HN
            generalize zs.getD m 0 = d at *
            go_wp2
            go_ret
            exact ⟨ret_bool HN.out.symm, rfl⟩
        · have HN := Lib.hid (natOkB_long HZ.out hL)
          have hL' : decide ((m : Int) + 1 ≤ 48) = false := by rw [decide_eq_false_iff_not]; omega
          go_wp2
          go_ret
          exact ⟨ret_bool HN.out.symm, rfl⟩
set_option maxHeartbeats 400000 in
theorem walkFnExactNatOk (a0 : Option Addr) (len0 cap0 : Nat) (z0 : List Int) (w : World) (w0 : IsRow .i64 w a0 len0 cap0 z0) :
    Calls Try.prog 4 #[.slice a0 len0 cap0] w fun e w' => e = .returned (.bool true) ∧ Below w.heap.size w w' := by
  obtain ⟨r0, hz, hwf⟩ := w0.rowAt
  clear w0 hwf
  generalize z0.take len0 = zs at *
  have HZ := Lib.hid hz; clear hz
  by_cases hbig : len0 ≤ 1048576
  · go_enter Try.func4, Try.ntmps4
    go_wp2_with fail
    refine (toIntS_any _ _ _ zs _ HZ.out hbig r0).mono ?_
    rintro e w1 ⟨rfl, r1, hb1⟩
    have r0 := r0.below hb1
    go_wp2_with fail
    refine (sNatOk_any _ _ _ zs _ HZ.out hbig r1).mono ?_
    rintro e w2 ⟨rfl, rfl⟩
    go_wp2_with fail
    refine (toIntS_any _ _ _ zs _ HZ.out hbig r0).mono ?_
    rintro e w2 ⟨rfl, r2, hb2⟩
    have r0 := r0.below hb2
    go_wp2_with fail
    refine (iNatOk_any _ _ _ zs _ HZ.out hbig r2).mono ?_
    rintro e w3 ⟨rfl, rfl⟩
    go_wp2_with fail
    refine (toIntS_any _ _ _ zs _ HZ.out hbig r0).mono ?_
    rintro e w3 ⟨rfl, r3, hb3⟩
    have r2 := r2.below hb3
    go_wp2_with fail
    refine (eqIntS_any _ _ _ _ _ _ zs zs _ HZ.out HZ.out hbig hbig r2 r3).mono ?_
    rintro e w4 ⟨rfl, hb4⟩
    go_wp2_with fail
    go_ret
    exact ⟨rfl, bl_step hb1 (bl_step hb2 (bl_step hb3 hb4))⟩
  · go_enter Try.func4, Try.ntmps4
    go_wp2_with fail
    go_ret
    exact ⟨rfl, Below.refl _ _⟩
end Go.Proofs.Ytmgdfefffgjddaa
