/-
  PROVED: contracts of powers of two, the least and the greatest raw number of a format, and what stands on them.
  CONDITIONS: none.
-/
import Derived.Test.YtimjfcipkmcgmaaDoorFmt
namespace Go.Proofs.YtimjfcipkmcgmaaDoor
open Go.ChangeShapes Go.WideShapes Go.ChangeAt Go.RowKit
set_option linter.unusedVariables false
theorem pow_succ2 (k : Nat) : (2 : Int) ^ (k + 1) = 2 ^ k * 2 := Int.pow_succ 2 k
theorem pow_le62 (k : Nat) (h : k ≤ 62) : (1 : Int) ≤ 2 ^ k ∧ (2 : Int) ^ k ≤ 4611686018427387904 := by
  have h1 : (2 : Nat) ^ k ≤ 2 ^ 62 := Nat.pow_le_pow_right (by omega) h
  have h2 : 1 ≤ (2 : Nat) ^ k := Nat.one_le_two_pow
  have h3 : (2 : Int) ^ k = ((2 ^ k : Nat) : Int) := by simp
  rw [h3]
  have h4 : (2 : Nat) ^ 62 = 4611686018427387904 := by decide
  omega
/-- two to the k; one where k is below nought -/
def pw (k : Int) : Int := 2 ^ k.toNat
theorem pw_bd (k : Int) (h : k ≤ 62) : 1 ≤ pw k ∧ pw k ≤ 4611686018427387904 := pow_le62 _ (by omega)
theorem pw_nat (k : Nat) : pw (k : Int) = 2 ^ k := by simp [pw]
theorem shl_neg (n : Int) (h1 : 2 ≤ n) (h2 : n ≤ 60) : wrap64 (-2 ^ (n.toNat - 1)) = - pw (n - 1) := by
  have h := pw_bd (n - 1) (by omega)
  unfold pw at h ⊢
  rw [show n.toNat - 1 = (n - 1).toNat from by omega]
  exact IntWalk.wrap64_in _ ⟨by omega, by omega⟩
theorem shl_less (n : Int) (h1 : 2 ≤ n) (h2 : n ≤ 60) : wrap64 (wrap64 (2 ^ (n.toNat - 1)) - 1) = pw (n - 1) - 1 := by
  have h := pw_bd (n - 1) (by omega)
  unfold pw at h ⊢
  rw [show n.toNat - 1 = (n - 1).toNat from by omega, IntWalk.wrap64_in ((2 : Int) ^ (n - 1).toNat) ⟨by omega, by omega⟩]
  exact IntWalk.wrap64_in _ ⟨by omega, by omega⟩
theorem shl_one (n : Int) (h2 : n ≤ 62) : wrap64 (2 ^ n.toNat) = pw n := by
  have h := pw_bd n h2
  unfold pw at h ⊢
  exact IntWalk.wrap64_in _ ⟨by omega, by omega⟩
theorem shl_full (n : Int) (h2 : n ≤ 60) : wrap64 (wrap64 (2 ^ n.toNat) - 1) = pw n - 1 := by
  have h := pw_bd n (by omega)
  rw [shl_one n (by omega)]
  exact IntWalk.wrap64_in _ ⟨by omega, by omega⟩
def leastB (s : Bool) (n l : Int) : Int := if fmtOkB n l = true ∧ s = true then - pw (n - 1) else 0
def mostB (s : Bool) (n l : Int) : Int := if fmtOkB n l = true then (if s = true then pw (n - 1) - 1 else pw n - 1) else 0
theorem fmtOkB_iff (n l : Int) : fmtOkB n l = true ↔ (2 ≤ n ∧ n ≤ 60) ∧ 0 ≤ l ∧ l ≤ n := by simp [fmtOkB, inR]
theorem leastB_bd (s : Bool) (n l : Int) : -4611686018427387904 ≤ leastB s n l ∧ leastB s n l ≤ 0 := by
  unfold leastB
  split
  · rename_i h
    have := (fmtOkB_iff n l).1 h.1
    have := pw_bd (n - 1) (by omega)
    omega
  · omega
theorem mostB_bd (s : Bool) (n l : Int) : 0 ≤ mostB s n l ∧ mostB s n l ≤ 4611686018427387903 := by
  unfold mostB
  split
  · rename_i h
    have := (fmtOkB_iff n l).1 h
    have := pw_bd (n - 1) (by omega)
    have := pw_bd n (by omega)
    split <;> omega
  · omega
set_option maxHeartbeats 400000 in
theorem iLeast_any (s : Bool) (n l : Int) (w : World) : Calls Tryd.prog 15 #[.agg #[.bool s, .int .i64 n, .int .i64 l]] w fun e w' => e = .returned (.int .i64 (leastB s n l)) ∧ Below w.heap.size w w' := by
  have hB := Below.refl (w.alloc (.cells #[.bool s, .int .i64 n, .int .i64 l] 23)).heap.size (w.alloc (.cells #[.bool s, .int .i64 n, .int .i64 l] 23))
  cases hf : fmtOkB n l
  · have hl : leastB s n l = 0 := by unfold leastB; rw [if_neg (by simp [hf])]
    rw [hl]
    go_enter Tryd.func15, Tryd.ntmps15
    go_wp2_with (go_at_call 31; refine (fmtOk_any _ _ _ _).mono ?_; rintro e w1 ⟨rfl, hb⟩; have hB := bl_step hB hb; obtain ⟨hc, hz⟩ := kept_box hB; clear hb)
    go_ret
    exact ⟨rfl, bl_step (bl_alloc _ _) hB⟩
  · have hb := (fmtOkB_iff n l).1 hf
    obtain ⟨⟨h1, h2⟩, h3, h4⟩ := hb
    have h5 : n - 1 ≤ 62 := by omega
    have hp := pw_bd (n - 1) h5
    obtain ⟨hp1, hp2⟩ := hp
    cases s
    · have hl : leastB false n l = 0 := by unfold leastB; rw [if_neg (by simp)]
      rw [hl]
      go_enter Tryd.func15, Tryd.ntmps15
      go_wp2_with (go_at_call 31; refine (fmtOk_any _ _ _ _).mono ?_; rintro e w1 ⟨rfl, hb⟩; have hB := bl_step hB hb; obtain ⟨hc, hz⟩ := kept_box hB; clear hb)
      go_ret
      exact ⟨rfl, bl_step (bl_alloc _ _) hB⟩
    · have hl : leastB true n l = - pw (n - 1) := by unfold leastB; rw [if_pos (by simp [hf])]
      rw [hl]
      go_enter Tryd.func15, Tryd.ntmps15
      go_wp2_with (go_at_call 31; refine (fmtOk_any _ _ _ _).mono ?_; rintro e w1 ⟨rfl, hb⟩; have hB := bl_step hB hb; obtain ⟨hc, hz⟩ := kept_box hB; clear hb)
      go_ret
      exact ⟨ret_int (shl_neg n h1 h2), bl_step (bl_alloc _ _) hB⟩
set_option maxHeartbeats 400000 in
theorem iMost_any (s : Bool) (n l : Int) (w : World) : Calls Tryd.prog 16 #[.agg #[.bool s, .int .i64 n, .int .i64 l]] w fun e w' => e = .returned (.int .i64 (mostB s n l)) ∧ Below w.heap.size w w' := by
  have hB := Below.refl (w.alloc (.cells #[.bool s, .int .i64 n, .int .i64 l] 23)).heap.size (w.alloc (.cells #[.bool s, .int .i64 n, .int .i64 l] 23))
  cases hf : fmtOkB n l
  · have hl : mostB s n l = 0 := by unfold mostB; rw [if_neg (by simp [hf])]
    rw [hl]
    go_enter Tryd.func16, Tryd.ntmps16
    go_wp2_with (go_at_call 31; refine (fmtOk_any _ _ _ _).mono ?_; rintro e w1 ⟨rfl, hb⟩; have hB := bl_step hB hb; obtain ⟨hc, hz⟩ := kept_box hB; clear hb)
    go_ret
    exact ⟨rfl, bl_step (bl_alloc _ _) hB⟩
  · have hb := (fmtOkB_iff n l).1 hf
    obtain ⟨⟨h1, h2⟩, h3, h4⟩ := hb
    have h5 : n - 1 ≤ 62 := by omega
    have h6 : n ≤ 62 := by omega
    cases s
    · have hl : mostB false n l = pw n - 1 := by unfold mostB; rw [if_pos hf, if_neg (by simp)]
      rw [hl]
      go_enter Tryd.func16, Tryd.ntmps16
      go_wp2_with (go_at_call 31; refine (fmtOk_any _ _ _ _).mono ?_; rintro e w1 ⟨rfl, hb⟩; have hB := bl_step hB hb; obtain ⟨hc, hz⟩ := kept_box hB; clear hb)
      go_ret
      exact ⟨ret_int (shl_full n h2), bl_step (bl_alloc _ _) hB⟩
    · have hl : mostB true n l = pw (n - 1) - 1 := by unfold mostB; rw [if_pos hf, if_pos rfl]
      rw [hl]
      go_enter Tryd.func16, Tryd.ntmps16
      go_wp2_with (go_at_call 31; refine (fmtOk_any _ _ _ _).mono ?_; rintro e w1 ⟨rfl, hb⟩; have hB := bl_step hB hb; obtain ⟨hc, hz⟩ := kept_box hB; clear hb)
      go_ret
      exact ⟨ret_int (shl_less n h1 h2), bl_step (bl_alloc _ _) hB⟩
end Go.Proofs.YtimjfcipkmcgmaaDoor
