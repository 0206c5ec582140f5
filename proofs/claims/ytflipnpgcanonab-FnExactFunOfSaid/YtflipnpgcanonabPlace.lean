/-
  PROVED: contracts of the functions that find the place of a word.
  CONDITIONS: none.
-/
import Derived.Test.YtflipnpgcanonabWords
namespace Go.Proofs.Ytflipnpgcanonab
open Go.ChangeShapes Go.WideShapes Go.ChangeAt Go.RowKit
set_option linter.unusedVariables false
theorem iFunText_nat (k : Nat) (w : World) (hk : k < 15) : Calls Try.prog 10 #[.int .i64 k] w fun e w' => e = .returned (.string (strs funL k)) ∧ Below w.heap.size w w' := by
  have := iFunText_any k w
  rw [wordAt_nat funL k hk] at this
  exact this
set_option maxHeartbeats 400000 in
theorem iFunOf_any (s : ByteArray) (w : World) : Calls Try.prog 16 #[.string s] w fun e w' => e = .returned (.int .i64 (placeF (strs funL) s 15 0)) ∧ Below w.heap.size w w' := by
  go_enter Try.func16, Try.ntmps16
  go_wp2
  go_loopw [4] (fun i wr => ∃ k : Nat, k ≤ 15 ∧ i = .int .i64 k ∧ placeF (strs funL) s (15 - k) k = placeF (strs funL) s 15 0 ∧ Below w.heap.size w wr) (fun i _ => 15 - (intOf i).toNat)
  case atStart => exact ⟨0, by omega, rfl, rfl, Below.refl _ _⟩
  case round =>
    obtain ⟨k, hk, rfl, hp, hb⟩ := hrel
    have HP := Lib.hid hp; clear hp
    by_cases hlt : k < 15
    · by_cases hm : ((strs funL k).toList == s.toList) = true
      · have HM := Lib.hid (placeF_hit _ _ _ _ hlt hm)
        go_wp2_with (go_at_call 10; refine (iFunText_nat k _ hlt).mono ?_; rintro e w1 ⟨rfl, hb1⟩)
        go_ret
        exact ⟨ret_int (by rw [← HP.out, HM.out]), bl_step hb hb1⟩
      · have hm' : ((strs funL k).toList == s.toList) = false := by simpa using hm
        have HM := Lib.hid (placeF_miss _ _ _ _ hlt hm')
        clear hm
        go_wp2_with (go_at_call 10; refine (iFunText_nat k _ hlt).mono ?_; rintro e w1 ⟨rfl, hb1⟩)
        go_roundw
        case rel => exact ⟨k + 1, by omega, by go_num, by rw [HM.out, HP.out], bl_step hb hb1⟩
        case measure => simp [intOf]; omega
    · have HM := Lib.hid (placeF_end (strs funL) s 15 k (by omega))
      go_wp2
      go_ret
      exact ⟨ret_int (by rw [← HP.out, HM.out]), hb⟩
set_option maxHeartbeats 400000 in
theorem sFunOf_any (s : ByteArray) (w : World) : Calls Try.prog 15 #[.string s] w fun e w' => e = .returned (.int .i64 (placeF (strs funL) s 15 0)) ∧ Below w.heap.size w w' := by
  go_enter Try.func15, Try.ntmps15
  go_wp2_with fail
  refine (l20Names_any _).mono ?_
  rintro e w1 ⟨rfl, hc, hb⟩
  have HC := Lib.hid hc; clear hc
  go_wp2_with fail
  go_loop [4] (fun i => ∃ k : Nat, k ≤ 15 ∧ i = .int .i64 k ∧ placeF (strs funL) s (15 - k) k = placeF (strs funL) s 15 0) (fun i => 15 - (intOf i).toNat)
  case atStart => exact ⟨0, by omega, rfl, rfl⟩
  case round =>
    obtain ⟨k, hk, rfl, hp⟩ := hrel
    have HP := Lib.hid hp; clear hp
    by_cases hlt : k < 15
    · have hck := HC.out k hlt
      by_cases hm : ((strs funL k).toList == s.toList) = true
      · have HM := Lib.hid (placeF_hit _ _ _ _ hlt hm)
        go_wp2
        go_ret
        exact ⟨ret_int (by rw [← HP.out, HM.out]), hb⟩
      · have hm' : ((strs funL k).toList == s.toList) = false := by simpa using hm
        have HM := Lib.hid (placeF_miss _ _ _ _ hlt hm')
        clear hm
        go_wp2
        go_round
        case rel => exact ⟨k + 1, by omega, by go_num, by rw [HM.out, HP.out]⟩
        case measure => simp [intOf]; omega
    · have HM := Lib.hid (placeF_end (strs funL) s 15 k (by omega))
      go_wp2
      go_ret
      exact ⟨ret_int (by rw [← HP.out, HM.out]), hb⟩
set_option maxHeartbeats 400000 in
theorem sFunText_any (n : Int) (w : World) : Calls Try.prog 9 #[.int .i64 n] w fun e w' => e = .returned (.string (wordAt funL n)) ∧ Below w.heap.size w w' := by
  by_cases h : 0 ≤ n ∧ n ≤ 14
  · obtain ⟨k, rfl⟩ := Int.eq_ofNat_of_zero_le h.1
    have hk : k < 15 := by omega
    have hin : inR (k : Int) 0 14 = true := by rw [inR_iff]; omega
    rw [wordAt_nat funL k hk]
    go_enter Try.func9, Try.ntmps9
    go_wp2_with (go_at_call 22; refine (l1In_any _ _ _ _).mono ?_; rintro e w' ⟨rfl, rfl⟩)
    refine (l20Names_any _).mono ?_
    rintro e w1 ⟨rfl, hc, hb⟩
    have hck := hc k hk
    clear hc
    go_wp2
    go_ret
    exact ⟨rfl, hb⟩
  · have hin : inR n 0 14 = false := by rw [inR_not]; exact h
    have hw : wordAt funL n = ByteArray.empty := by unfold wordAt; rw [if_neg (by simp [funL]; omega)]
    rw [hw]
    go_enter Try.func9, Try.ntmps9
    go_wp2_with (go_at_call 22; refine (l1In_any _ _ _ _).mono ?_; rintro e w' ⟨rfl, rfl⟩)
    go_ret
    exact ⟨rfl, Below.refl _ _⟩
set_option maxHeartbeats 400000 in
theorem walkFnExactFunOf (a0 : ByteArray) (w : World) (w0 : a0.size ≤ maxLen) :
    Calls Try.prog 6 #[.string a0] w fun e w' => e = .returned (.bool true) ∧ Below w.heap.size w w' := by
  have hbig : a0.size ≤ 9223372036854775807 := by unfold maxLen at w0; omega
  clear w0
  go_enter Try.func6, Try.ntmps6
  go_wp2_with (first
    | (go_at_call 15; refine (sFunOf_any _ _).mono ?_; rintro e w1 ⟨rfl, hb⟩)
    | (go_at_call 16; refine (iFunOf_any _ _).mono ?_; rintro e w2 ⟨rfl, hb2⟩))
  all_goals go_ret
  all_goals first | exact ⟨rfl, Below.refl _ _⟩ | exact ⟨rfl, bl_step hb (by subst hb2; exact Below.refl _ _)⟩ | exact ⟨rfl, bl_step hb hb2⟩
set_option maxHeartbeats 400000 in
theorem walkFnExactFunText (a0 : Int) (w : World) (w0 : (Lit.int .i64 a0).wf = true) :
    Calls Try.prog 3 #[.int .i64 a0] w fun e w' => e = .returned (.bool true) ∧ Below w.heap.size w w' := by
  clear w0
  go_enter Try.func3, Try.ntmps3
  go_wp2_with (first
    | (go_at_call 9; refine (sFunText_any _ _).mono ?_; rintro e w1 ⟨rfl, hb⟩)
    | (go_at_call 10; refine (iFunText_any _ _).mono ?_; rintro e w2 ⟨rfl, hb2⟩))
  all_goals go_ret
  all_goals first | exact ⟨rfl, Below.refl _ _⟩ | exact ⟨rfl, bl_step hb (by subst hb2; exact Below.refl _ _)⟩ | exact ⟨rfl, bl_step hb hb2⟩
end Go.Proofs.Ytflipnpgcanonab
