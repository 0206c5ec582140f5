/-
  PROVED: contracts of the functions that find the place of a word.
  CONDITIONS: none.
-/
import Derived.Test.YtimjfcipkmcgmaaWords
namespace Go.Proofs.Ytimjfcipkmcgmaa
open Go.ChangeShapes Go.WideShapes Go.ChangeAt Go.RowKit
set_option linter.unusedVariables false
set_option maxHeartbeats 400000 in
theorem l28Place_any (L : List (List UInt8)) (n b : Nat) (s : ByteArray) (w : World) (hn : n ≤ 100) (hc : ∀ k : Nat, k < n → w.cell? ⟨b, k, none⟩ = some (.string (strs L k))) :
    Calls Try.prog 40 #[.slice (some ⟨b, 0, none⟩) n n, .string s] w fun e w' => e = .returned (.int .i64 (placeF (strs L) s n 0)) ∧ w = w' := by
  go_enter Try.func40, Try.ntmps40
  go_wp2
  go_loop [5] (fun i => ∃ k : Nat, k ≤ n ∧ i = .int .i64 k ∧ placeF (strs L) s (n - k) k = placeF (strs L) s n 0) (fun i => n - (intOf i).toNat)
  case atStart => exact ⟨0, by omega, rfl, rfl⟩
  case round =>
    obtain ⟨k, hk, rfl, hp⟩ := hrel
    have HP := Lib.hid hp; clear hp
    by_cases hlt : k < n
    · have hck := hc k hlt
      clear hc
      by_cases hm : ((strs L k).toList == s.toList) = true
      · have HM := Lib.hid (placeF_hit _ _ _ _ hlt hm)
        go_wp2
        go_ret
        exact ⟨ret_int (by rw [← HP.out, HM.out]), rfl⟩
      · have hm' : ((strs L k).toList == s.toList) = false := by simpa using hm
        have HM := Lib.hid (placeF_miss _ _ _ _ hlt hm')
        clear hm
        go_wp2
        go_round
        case rel => exact ⟨k + 1, by omega, by go_num, by rw [HM.out, HP.out]⟩
        case measure => simp [intOf]; omega
    · have HM := Lib.hid (placeF_end (strs L) s n k (by omega))
      clear hc
      go_wp2
      go_ret
      exact ⟨ret_int (by rw [← HP.out, HM.out]), rfl⟩
set_option maxHeartbeats 400000 in
theorem iModeOf_any (s : ByteArray) (w : World) : Calls Try.prog 15 #[.string s] w fun e w' => e = .returned (.int .i64 (placeF (strs modeL) s 5 0)) ∧ w = w' := by
  go_enter Try.func15, Try.ntmps15
  go_wp2
  go_loop [3] (fun i => ∃ k : Nat, k ≤ 5 ∧ i = .int .i64 k ∧ placeF (strs modeL) s (5 - k) k = placeF (strs modeL) s 5 0) (fun i => 5 - (intOf i).toNat)
  case atStart => exact ⟨0, by omega, rfl, rfl⟩
  case round =>
    obtain ⟨k, hk, rfl, hp⟩ := hrel
    have HP := Lib.hid hp; clear hp
    by_cases hlt : k < 5
    · by_cases hm : ((strs modeL k).toList == s.toList) = true
      · have HM := Lib.hid (placeF_hit _ _ _ _ hlt hm)
        go_wp2_with (go_at_call 36; refine (imodeText_any k _ hlt).mono ?_; rintro e w1 ⟨rfl, rfl⟩)
        go_ret
        exact ⟨ret_int (by rw [← HP.out, HM.out]), rfl⟩
      · have hm' : ((strs modeL k).toList == s.toList) = false := by simpa using hm
        have HM := Lib.hid (placeF_miss _ _ _ _ hlt hm')
        clear hm
        go_wp2_with (go_at_call 36; refine (imodeText_any k _ hlt).mono ?_; rintro e w1 ⟨rfl, rfl⟩)
        go_round
        case rel => exact ⟨k + 1, by omega, by go_num, by rw [HM.out, HP.out]⟩
        case measure => simp [intOf]; omega
    · have HM := Lib.hid (placeF_end (strs modeL) s 5 k (by omega))
      go_wp2
      go_ret
      exact ⟨ret_int (by rw [← HP.out, HM.out]), rfl⟩
set_option maxHeartbeats 400000 in
theorem iPolicyOf_any (s : ByteArray) (w : World) : Calls Try.prog 16 #[.string s] w fun e w' => e = .returned (.int .i64 (placeF (strs policyL) s 3 0)) ∧ w = w' := by
  go_enter Try.func16, Try.ntmps16
  go_wp2
  go_loop [3] (fun i => ∃ k : Nat, k ≤ 3 ∧ i = .int .i64 k ∧ placeF (strs policyL) s (3 - k) k = placeF (strs policyL) s 3 0) (fun i => 3 - (intOf i).toNat)
  case atStart => exact ⟨0, by omega, rfl, rfl⟩
  case round =>
    obtain ⟨k, hk, rfl, hp⟩ := hrel
    have HP := Lib.hid hp; clear hp
    by_cases hlt : k < 3
    · by_cases hm : ((strs policyL k).toList == s.toList) = true
      · have HM := Lib.hid (placeF_hit _ _ _ _ hlt hm)
        go_wp2_with (go_at_call 37; refine (ipolicyText_any k _ hlt).mono ?_; rintro e w1 ⟨rfl, rfl⟩)
        go_ret
        exact ⟨ret_int (by rw [← HP.out, HM.out]), rfl⟩
      · have hm' : ((strs policyL k).toList == s.toList) = false := by simpa using hm
        have HM := Lib.hid (placeF_miss _ _ _ _ hlt hm')
        clear hm
        go_wp2_with (go_at_call 37; refine (ipolicyText_any k _ hlt).mono ?_; rintro e w1 ⟨rfl, rfl⟩)
        go_round
        case rel => exact ⟨k + 1, by omega, by go_num, by rw [HM.out, HP.out]⟩
        case measure => simp [intOf]; omega
    · have HM := Lib.hid (placeF_end (strs policyL) s 3 k (by omega))
      go_wp2
      go_ret
      exact ⟨ret_int (by rw [← HP.out, HM.out]), rfl⟩
theorem iFunText_nat (k : Nat) (w : World) (hk : k < 15) : Calls Try.prog 8 #[.int .i64 k] w fun e w' => e = .returned (.string (strs funL k)) ∧ Below w.heap.size w w' := by
  have := iFunText_any k w
  rw [wordAt_nat funL k hk] at this
  exact this
set_option maxHeartbeats 400000 in
theorem iFunOf_any (s : ByteArray) (w : World) : Calls Try.prog 11 #[.string s] w fun e w' => e = .returned (.int .i64 (placeF (strs funL) s 15 0)) ∧ Below w.heap.size w w' := by
  go_enter Try.func11, Try.ntmps11
  go_wp2
  go_loopw [4] (fun i wr => ∃ k : Nat, k ≤ 15 ∧ i = .int .i64 k ∧ placeF (strs funL) s (15 - k) k = placeF (strs funL) s 15 0 ∧ Below w.heap.size w wr) (fun i _ => 15 - (intOf i).toNat)
  case atStart => exact ⟨0, by omega, rfl, rfl, Below.refl _ _⟩
  case round =>
    obtain ⟨k, hk, rfl, hp, hb⟩ := hrel
    have HP := Lib.hid hp; clear hp
    by_cases hlt : k < 15
    · by_cases hm : ((strs funL k).toList == s.toList) = true
      · have HM := Lib.hid (placeF_hit _ _ _ _ hlt hm)
        go_wp2_with (go_at_call 8; refine (iFunText_nat k _ hlt).mono ?_; rintro e w1 ⟨rfl, hb1⟩)
        go_ret
        exact ⟨ret_int (by rw [← HP.out, HM.out]), bl_step hb hb1⟩
      · have hm' : ((strs funL k).toList == s.toList) = false := by simpa using hm
        have HM := Lib.hid (placeF_miss _ _ _ _ hlt hm')
        clear hm
        go_wp2_with (go_at_call 8; refine (iFunText_nat k _ hlt).mono ?_; rintro e w1 ⟨rfl, hb1⟩)
        go_roundw
        case rel => exact ⟨k + 1, by omega, by go_num, by rw [HM.out, HP.out], bl_step hb hb1⟩
        case measure => simp [intOf]; omega
    · have HM := Lib.hid (placeF_end (strs funL) s 15 k (by omega))
      go_wp2
      go_ret
      exact ⟨ret_int (by rw [← HP.out, HM.out]), hb⟩
set_option maxHeartbeats 400000 in
theorem sModeOf_any (s : ByteArray) (w : World) : Calls Try.prog 20 #[.string s] w fun e w' => e = .returned (.int .i64 (placeF (strs modeL) s 5 0)) ∧ Below w.heap.size w w' := by
  go_enter Try.func20, Try.ntmps20
  go_wp2_with fail
  refine (l28Modes_any _).mono ?_
  rintro e w1 ⟨rfl, hc, hb⟩
  have HC := Lib.hid hc; clear hc
  go_wp2_with fail
  refine (l28Place_any modeL 5 _ s _ (by omega) HC.out).mono ?_
  rintro e w2 ⟨rfl, rfl⟩
  go_wp2_with fail
  go_ret
  exact ⟨rfl, hb⟩
set_option maxHeartbeats 400000 in
theorem sPolicyOf_any (s : ByteArray) (w : World) : Calls Try.prog 21 #[.string s] w fun e w' => e = .returned (.int .i64 (placeF (strs policyL) s 3 0)) ∧ Below w.heap.size w w' := by
  go_enter Try.func21, Try.ntmps21
  go_wp2_with fail
  refine (l28Policies_any _).mono ?_
  rintro e w1 ⟨rfl, hc, hb⟩
  have HC := Lib.hid hc; clear hc
  go_wp2_with fail
  refine (l28Place_any policyL 3 _ s _ (by omega) HC.out).mono ?_
  rintro e w2 ⟨rfl, rfl⟩
  go_wp2_with fail
  go_ret
  exact ⟨rfl, hb⟩
end Go.Proofs.Ytimjfcipkmcgmaa
