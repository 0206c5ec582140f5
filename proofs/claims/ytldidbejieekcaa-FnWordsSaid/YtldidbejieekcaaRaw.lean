/-
  PROVED: contracts of raw numbers and their words.
  CONDITIONS: none.
-/
import Derived.Test.YtldidbejieekcaaPow
import Derived.Deep.RegionHeld3
namespace Go.Proofs.Ytldidbejieekcaa
open Go.ChangeShapes Go.WideShapes Go.ChangeAt Go.RowKit
set_option linter.unusedVariables false
/-- what a box of three cells at the heap's end keeps -/
theorem keep3 {w wa wb : World} {c0 c1 c2 : Value} (h : (wa.cell? ⟨w.heap.size, 0, none⟩ = some c0 ∧ wa.cell? ⟨w.heap.size, 1, none⟩ = some c1 ∧ wa.cell? ⟨w.heap.size, 2, none⟩ = some c2) ∧ w.heap.size < wa.heap.size ∧ Below w.heap.size w wa)
    (hb : Below wa.heap.size wa wb) : (wb.cell? ⟨w.heap.size, 0, none⟩ = some c0 ∧ wb.cell? ⟨w.heap.size, 1, none⟩ = some c1 ∧ wb.cell? ⟨w.heap.size, 2, none⟩ = some c2) ∧ w.heap.size < wb.heap.size ∧ Below w.heap.size w wb := by
  obtain ⟨⟨h0, h1, h2⟩, hz, hB⟩ := h
  obtain ⟨hc, _⟩ := bcell hb
  exact ⟨⟨by rw [hc _ _ hz, h0], by rw [hc _ _ hz, h1], by rw [hc _ _ hz, h2]⟩, Nat.lt_of_lt_of_le hz hb.size, bl_step hB hb⟩
theorem start3 (w : World) (c0 c1 c2 : Value) (t : TypeId) : ((w.alloc (.cells #[c0, c1, c2] t)).drew.cell? ⟨w.heap.size, 0, none⟩ = some c0 ∧ (w.alloc (.cells #[c0, c1, c2] t)).drew.cell? ⟨w.heap.size, 1, none⟩ = some c1 ∧ (w.alloc (.cells #[c0, c1, c2] t)).drew.cell? ⟨w.heap.size, 2, none⟩ = some c2) ∧ w.heap.size < (w.alloc (.cells #[c0, c1, c2] t)).drew.heap.size ∧ Below w.heap.size w (w.alloc (.cells #[c0, c1, c2] t)).drew :=
  ⟨⟨World.cell?_alloc_mark _ _ _ _ _, World.cell?_alloc_mark _ _ _ _ _, World.cell?_alloc_mark _ _ _ _ _⟩, by show w.heap.size < (w.alloc _).heap.size; simp, (bl_alloc _ _).drew⟩
theorem ret_two {k : IntKind} {a b : Int} {v : Value} (h : a = b) : Ending.returned (.tuple #[.int k a, v]) = .returned (.tuple #[.int k b, v]) := by rw [h]
def rawOkB (s : Bool) (n l v : Int) : Bool := fmtOkB n l && inR v (leastB s n l) (mostB s n l)
def wordB (s : Bool) (n l v : Int) : Int := if rawOkB s n l v = true then (if 0 ≤ v then v else v + pw n) else -1
def rawOfOkB (n l v : Int) : Bool := fmtOkB n l && inR v 0 (pw n - 1)
def rawOfB (s : Bool) (n l v : Int) : Int := if rawOfOkB n l v = true then (if mostB s n l < v then v - pw n else v) else 0
set_option maxHeartbeats 400000 in
theorem iRawOk_any (s : Bool) (n l v : Int) (w : World) : Calls Try.prog 22 #[.agg #[.bool s, .int .i64 n, .int .i64 l], .int .i64 v] w fun e w' => e = .returned (.bool (rawOkB s n l v)) ∧ Below w.heap.size w w' := by
  have hS := start3 w (.bool s) (.int .i64 n) (.int .i64 l) 27
  have HS := Lib.hid hS; clear hS
  cases hf : fmtOkB n l
  · have hr : rawOkB s n l v = false := by unfold rawOkB; rw [hf]; rfl
    rw [hr]
    clear hr
    go_enter Try.func22, Try.ntmps22
    go_wp2_with fail
    (first | go_region_with (go_at_call 39; refine (fmtOk_eq _ _ _ _ hf).mono ?_; rintro e w1 ⟨rfl, hb⟩) | fail)
    all_goals go_wp2
    all_goals go_ret
    all_goals exact ⟨rfl, bl_step (bl_alloc _ _).drew hb⟩
  · have hr : rawOkB s n l v = inR v (leastB s n l) (mostB s n l) := by unfold rawOkB; rw [hf]; rfl
    rw [hr]
    clear hr
    go_enter Try.func22, Try.ntmps22
    go_wp2_with fail
    go_region_held3 (fun w' => (w'.cell? ⟨w.heap.size, 0, none⟩ = some (.bool s) ∧ w'.cell? ⟨w.heap.size, 1, none⟩ = some (.int .i64 n) ∧ w'.cell? ⟨w.heap.size, 2, none⟩ = some (.int .i64 l)) ∧ w.heap.size < w'.heap.size ∧ Below w.heap.size w w')
      (first | exact keep3 (by assumption) hb | exact HS.out)
      (first
      | (go_at_call 39; refine (fmtOk_any _ _ _ _).mono ?_; rintro e w1 ⟨rfl, hb⟩)
      | (go_at_call 46; refine (iLeast_any _ _ _ _).mono ?_; rintro e w1 ⟨rfl, hb⟩)
      | (go_at_call 47; refine (iMost_any _ _ _ _).mono ?_; rintro e w1 ⟨rfl, hb⟩)
      | (go_at_call 45; refine (inRange_any _ _ _ _).mono ?_; rintro e w1 ⟨rfl, rfl⟩; have hb := Below.refl w1.heap.size w1))
    rename_i hK
    obtain ⟨_, _, hB⟩ := hK
    go_wp2
    go_ret
    exact ⟨rfl, hB⟩
set_option maxHeartbeats 400000 in
theorem iWordOf_any (s : Bool) (n l v : Int) (w : World) : Calls Try.prog 29 #[.agg #[.bool s, .int .i64 n, .int .i64 l], .int .i64 v] w fun e w' => e = .returned (.int .i64 (wordB s n l v)) ∧ Below w.heap.size w w' := by
  have hB := Below.refl (w.alloc (.cells #[.bool s, .int .i64 n, .int .i64 l] 27)).heap.size (w.alloc (.cells #[.bool s, .int .i64 n, .int .i64 l] 27))
  cases hf : rawOkB s n l v
  · have hl : wordB s n l v = -1 := by unfold wordB; rw [if_neg (by simp [hf])]
    rw [hl]
    go_enter Try.func29, Try.ntmps29
    go_wp2_with (first
        | (go_at_call 22; refine (iRawOk_any _ _ _ _ _).mono ?_; rintro e w1 ⟨rfl, hb⟩; have hB := bl_step hB hb; obtain ⟨hc, hz⟩ := kept_box hB; clear hb))
    go_ret
    exact ⟨rfl, bl_step (bl_alloc _ _) hB⟩
  · have hf2 := hf
    unfold rawOkB at hf2
    rw [Bool.and_eq_true] at hf2
    obtain ⟨hf3, hf4⟩ := hf2
    obtain ⟨⟨h1, h2⟩, h3, h4⟩ := (fmtOkB_iff n l).1 hf3
    obtain ⟨h7, h8⟩ := (inR_iff _ _ _).1 hf4
    have h6 : n ≤ 62 := by omega
    obtain ⟨hq1, hq2⟩ := pw_bd n h6
    have ha := (leastB_bd s n l).1
    clear hf3 hf4
    by_cases h0 : 0 ≤ v
    · have hl : wordB s n l v = v := by unfold wordB; rw [if_pos hf, if_pos h0]
      rw [hl]
      go_enter Try.func29, Try.ntmps29
      go_wp2_with (first
        | (go_at_call 22; refine (iRawOk_any _ _ _ _ _).mono ?_; rintro e w1 ⟨rfl, hb⟩; have hB := bl_step hB hb; obtain ⟨hc, hz⟩ := kept_box hB; clear hb))
      go_ret
      exact ⟨rfl, bl_step (bl_alloc _ _) hB⟩
    · have hl : wordB s n l v = v + pw n := by unfold wordB; rw [if_pos hf, if_neg h0]
      rw [hl]
      go_enter Try.func29, Try.ntmps29
      go_wp2_with (first
        | (go_at_call 22; refine (iRawOk_any _ _ _ _ _).mono ?_; rintro e w1 ⟨rfl, hb⟩; have hB := bl_step hB hb; obtain ⟨hc, hz⟩ := kept_box hB; clear hb))
      go_ret
      exact ⟨ret_int (by rw [shl_one n h6]; first | rfl | (exact IntWalk.wrap64_in _ ⟨by omega, by omega⟩)), bl_step (bl_alloc _ _) hB⟩
set_option maxHeartbeats 400000 in
theorem iRawOf_any (s : Bool) (n l v : Int) (w : World) : Calls Try.prog 24 #[.agg #[.bool s, .int .i64 n, .int .i64 l], .int .i64 v] w fun e w' => e = .returned (.tuple #[.int .i64 (rawOfB s n l v), .bool (rawOfOkB n l v)]) ∧ Below w.heap.size w w' := by
  have hB := Below.refl (w.alloc (.cells #[.bool s, .int .i64 n, .int .i64 l] 27)).heap.size (w.alloc (.cells #[.bool s, .int .i64 n, .int .i64 l] 27))
  cases hf : rawOfOkB n l v
  · have hl : rawOfB s n l v = 0 := by unfold rawOfB; rw [if_neg (by simp [hf])]
    rw [hl]
    cases hf3 : fmtOkB n l
    · go_enter Try.func24, Try.ntmps24
      go_wp2_with (first
        | (go_at_call 39; refine (fmtOk_any _ _ _ _).mono ?_; rintro e w1 ⟨rfl, hb⟩; have hB := bl_step hB hb; obtain ⟨hc, hz⟩ := kept_box hB; clear hb))
      go_ret2
      exact ⟨rfl, bl_step (bl_alloc _ _) hB⟩
    · have hin : inR v 0 (pw n - 1) = false := by simpa [rawOfOkB, hf3] using hf
      obtain ⟨⟨h1, h2⟩, h3, h4⟩ := (fmtOkB_iff n l).1 hf3
      have h6 : n ≤ 62 := by omega
      obtain ⟨hq1, hq2⟩ := pw_bd n h6
      go_enter Try.func24, Try.ntmps24
      go_wp2_with (first
        | (go_at_call 39; refine (fmtOk_any _ _ _ _).mono ?_; rintro e w1 ⟨rfl, hb⟩; have hB := bl_step hB hb; obtain ⟨hc, hz⟩ := kept_box hB; clear hb)
        | (go_at_call 47; refine (iMost_any _ _ _ _).mono ?_; rintro e w1 ⟨rfl, hb⟩; have hB := bl_step hB hb; obtain ⟨hc, hz⟩ := kept_box hB; clear hb)
        | (go_at_call 45; rw [shl_full n h2]; refine (inRange_any _ _ _ _).mono ?_; rintro e w2 ⟨rfl, rfl⟩))
      go_ret2
      exact ⟨rfl, bl_step (bl_alloc _ _) hB⟩
  · have hf2 := hf
    unfold rawOfOkB at hf2
    rw [Bool.and_eq_true] at hf2
    obtain ⟨hf3, hin⟩ := hf2
    obtain ⟨⟨h1, h2⟩, h3, h4⟩ := (fmtOkB_iff n l).1 hf3
    obtain ⟨h7, h8⟩ := (inR_iff _ _ _).1 hin
    have h6 : n ≤ 62 := by omega
    obtain ⟨hq1, hq2⟩ := pw_bd n h6
    by_cases h0 : mostB s n l < v
    · have hl : rawOfB s n l v = v - pw n := by unfold rawOfB; rw [if_pos hf, if_pos h0]
      rw [hl]
      go_enter Try.func24, Try.ntmps24
      go_wp2_with (first
        | (go_at_call 39; refine (fmtOk_any _ _ _ _).mono ?_; rintro e w1 ⟨rfl, hb⟩; have hB := bl_step hB hb; obtain ⟨hc, hz⟩ := kept_box hB; clear hb)
        | (go_at_call 47; refine (iMost_any _ _ _ _).mono ?_; rintro e w1 ⟨rfl, hb⟩; have hB := bl_step hB hb; obtain ⟨hc, hz⟩ := kept_box hB; clear hb)
        | (go_at_call 45; rw [shl_full n h2]; refine (inRange_any _ _ _ _).mono ?_; rintro e w2 ⟨rfl, rfl⟩))
      go_ret2
      exact ⟨ret_two (by rw [shl_one n h6]; exact IntWalk.wrap64_in _ ⟨by omega, by omega⟩), bl_step (bl_alloc _ _) hB⟩
    · have hl : rawOfB s n l v = v := by unfold rawOfB; rw [if_pos hf, if_neg h0]
      rw [hl]
      go_enter Try.func24, Try.ntmps24
      go_wp2_with (first
        | (go_at_call 39; refine (fmtOk_any _ _ _ _).mono ?_; rintro e w1 ⟨rfl, hb⟩; have hB := bl_step hB hb; obtain ⟨hc, hz⟩ := kept_box hB; clear hb)
        | (go_at_call 47; refine (iMost_any _ _ _ _).mono ?_; rintro e w1 ⟨rfl, hb⟩; have hB := bl_step hB hb; obtain ⟨hc, hz⟩ := kept_box hB; clear hb)
        | (go_at_call 45; rw [shl_full n h2]; refine (inRange_any _ _ _ _).mono ?_; rintro e w2 ⟨rfl, rfl⟩))
      go_ret2
      exact ⟨rfl, bl_step (bl_alloc _ _) hB⟩
set_option maxHeartbeats 400000 in
theorem sRawOk_any (s : Bool) (n l v : Int) (w : World) : Calls Try.prog 20 #[.agg #[.bool s, .int .i64 n, .int .i64 l], .int .i64 v] w fun e w' => e = .returned (.bool (rawOkB s n l v)) ∧ Below w.heap.size w w' := by
  have hS := start3 w (.bool s) (.int .i64 n) (.int .i64 l) 27
  have HS := Lib.hid hS; clear hS
  cases hf : fmtOkB n l
  · have hr : rawOkB s n l v = false := by unfold rawOkB; rw [hf]; rfl
    rw [hr]
    clear hr
    go_enter Try.func20, Try.ntmps20
    go_wp2_with fail
    (first | go_region_with (go_at_call 36; refine (sfmtOk_eq _ _ _ _ hf).mono ?_; rintro e w1 ⟨rfl, hb⟩) | fail)
    all_goals go_wp2
    all_goals go_ret
    all_goals exact ⟨rfl, bl_step (bl_alloc _ _).drew hb⟩
  · have hr : rawOkB s n l v = inR v (leastB s n l) (mostB s n l) := by unfold rawOkB; rw [hf]; rfl
    rw [hr]
    clear hr
    go_enter Try.func20, Try.ntmps20
    go_wp2_with fail
    go_region_held3 (fun w' => (w'.cell? ⟨w.heap.size, 0, none⟩ = some (.bool s) ∧ w'.cell? ⟨w.heap.size, 1, none⟩ = some (.int .i64 n) ∧ w'.cell? ⟨w.heap.size, 2, none⟩ = some (.int .i64 l)) ∧ w.heap.size < w'.heap.size ∧ Below w.heap.size w w')
      (first | exact keep3 (by assumption) hb | exact HS.out)
      (first
      | (go_at_call 36; refine (sfmtOk_any _ _ _ _).mono ?_; rintro e w1 ⟨rfl, hb⟩)
      | (go_at_call 43; refine (sLeast_any _ _ _ _).mono ?_; rintro e w1 ⟨rfl, hb⟩)
      | (go_at_call 44; refine (sMost_any _ _ _ _).mono ?_; rintro e w1 ⟨rfl, hb⟩)
      | (go_at_call 38; refine (l1In_any _ _ _ _).mono ?_; rintro e w1 ⟨rfl, rfl⟩; have hb := Below.refl w1.heap.size w1))
    rename_i hK
    obtain ⟨_, _, hB⟩ := hK
    go_wp2
    go_ret
    exact ⟨rfl, hB⟩
set_option maxHeartbeats 400000 in
theorem sWordOf_any (s : Bool) (n l v : Int) (w : World) : Calls Try.prog 28 #[.agg #[.bool s, .int .i64 n, .int .i64 l], .int .i64 v] w fun e w' => e = .returned (.int .i64 (wordB s n l v)) ∧ Below w.heap.size w w' := by
  have hB := Below.refl (w.alloc (.cells #[.bool s, .int .i64 n, .int .i64 l] 27)).heap.size (w.alloc (.cells #[.bool s, .int .i64 n, .int .i64 l] 27))
  cases hf : rawOkB s n l v
  · have hl : wordB s n l v = -1 := by unfold wordB; rw [if_neg (by simp [hf])]
    rw [hl]
    go_enter Try.func28, Try.ntmps28
    go_wp2_with (first
        | (go_at_call 20; refine (sRawOk_any _ _ _ _ _).mono ?_; rintro e w1 ⟨rfl, hb⟩; have hB := bl_step hB hb; obtain ⟨hc, hz⟩ := kept_box hB; clear hb))
    go_ret
    exact ⟨rfl, bl_step (bl_alloc _ _) hB⟩
  · have hf2 := hf
    unfold rawOkB at hf2
    rw [Bool.and_eq_true] at hf2
    obtain ⟨hf3, hf4⟩ := hf2
    obtain ⟨⟨h1, h2⟩, h3, h4⟩ := (fmtOkB_iff n l).1 hf3
    obtain ⟨h7, h8⟩ := (inR_iff _ _ _).1 hf4
    have h6 : n ≤ 62 := by omega
    obtain ⟨hq1, hq2⟩ := pw_bd n h6
    have ha := (leastB_bd s n l).1
    clear hf3 hf4
    by_cases h0 : 0 ≤ v
    · have hl : wordB s n l v = v := by unfold wordB; rw [if_pos hf, if_pos h0]
      rw [hl]
      go_enter Try.func28, Try.ntmps28
      go_wp2_with (first
        | (go_at_call 20; refine (sRawOk_any _ _ _ _ _).mono ?_; rintro e w1 ⟨rfl, hb⟩; have hB := bl_step hB hb; obtain ⟨hc, hz⟩ := kept_box hB; clear hb))
      go_ret
      exact ⟨rfl, bl_step (bl_alloc _ _) hB⟩
    · have hl : wordB s n l v = v + pw n := by unfold wordB; rw [if_pos hf, if_neg h0]
      rw [hl]
      go_enter Try.func28, Try.ntmps28
      go_wp2_with (first
        | (go_at_call 20; refine (sRawOk_any _ _ _ _ _).mono ?_; rintro e w1 ⟨rfl, hb⟩; have hB := bl_step hB hb; obtain ⟨hc, hz⟩ := kept_box hB; clear hb)
        | (go_at_call 48; refine (l2Pow_any _ _ h6).mono ?_; rintro e w2 ⟨rfl, rfl⟩))
      go_ret
      exact ⟨rfl, bl_step (bl_alloc _ _) hB⟩
set_option maxHeartbeats 400000 in
theorem sRawOf_any (s : Bool) (n l v : Int) (w : World) : Calls Try.prog 23 #[.agg #[.bool s, .int .i64 n, .int .i64 l], .int .i64 v] w fun e w' => e = .returned (.tuple #[.int .i64 (rawOfB s n l v), .bool (rawOfOkB n l v)]) ∧ Below w.heap.size w w' := by
  have hB := Below.refl (w.alloc (.cells #[.bool s, .int .i64 n, .int .i64 l] 27)).heap.size (w.alloc (.cells #[.bool s, .int .i64 n, .int .i64 l] 27))
  cases hf : rawOfOkB n l v
  · have hl : rawOfB s n l v = 0 := by unfold rawOfB; rw [if_neg (by simp [hf])]
    rw [hl]
    cases hf3 : fmtOkB n l
    · go_enter Try.func23, Try.ntmps23
      go_wp2_with (first
        | (go_at_call 36; refine (sfmtOk_any _ _ _ _).mono ?_; rintro e w1 ⟨rfl, hb⟩; have hB := bl_step hB hb; obtain ⟨hc, hz⟩ := kept_box hB; clear hb))
      go_ret2
      exact ⟨rfl, bl_step (bl_alloc _ _) hB⟩
    · have hin : inR v 0 (pw n - 1) = false := by simpa [rawOfOkB, hf3] using hf
      obtain ⟨⟨h1, h2⟩, h3, h4⟩ := (fmtOkB_iff n l).1 hf3
      have h6 : n ≤ 62 := by omega
      obtain ⟨hq1, hq2⟩ := pw_bd n h6
      go_enter Try.func23, Try.ntmps23
      go_wp2_with (first
        | (go_at_call 36; refine (sfmtOk_any _ _ _ _).mono ?_; rintro e w1 ⟨rfl, hb⟩; have hB := bl_step hB hb; obtain ⟨hc, hz⟩ := kept_box hB; clear hb)
        | (go_at_call 44; refine (sMost_any _ _ _ _).mono ?_; rintro e w1 ⟨rfl, hb⟩; have hB := bl_step hB hb; obtain ⟨hc, hz⟩ := kept_box hB; clear hb)
        | (go_at_call 48; refine (l2Pow_any _ _ h6).mono ?_; rintro e w2 ⟨rfl, rfl⟩)
        | (go_at_call 38; refine (l1In_any _ _ _ _).mono ?_; rintro e w2 ⟨rfl, rfl⟩))
      go_ret2
      exact ⟨rfl, bl_step (bl_alloc _ _) hB⟩
  · have hf2 := hf
    unfold rawOfOkB at hf2
    rw [Bool.and_eq_true] at hf2
    obtain ⟨hf3, hin⟩ := hf2
    obtain ⟨⟨h1, h2⟩, h3, h4⟩ := (fmtOkB_iff n l).1 hf3
    obtain ⟨h7, h8⟩ := (inR_iff _ _ _).1 hin
    have h6 : n ≤ 62 := by omega
    obtain ⟨hq1, hq2⟩ := pw_bd n h6
    by_cases h0 : mostB s n l < v
    · have hl : rawOfB s n l v = v - pw n := by unfold rawOfB; rw [if_pos hf, if_pos h0]
      rw [hl]
      go_enter Try.func23, Try.ntmps23
      go_wp2_with (first
        | (go_at_call 36; refine (sfmtOk_any _ _ _ _).mono ?_; rintro e w1 ⟨rfl, hb⟩; have hB := bl_step hB hb; obtain ⟨hc, hz⟩ := kept_box hB; clear hb)
        | (go_at_call 44; refine (sMost_any _ _ _ _).mono ?_; rintro e w1 ⟨rfl, hb⟩; have hB := bl_step hB hb; obtain ⟨hc, hz⟩ := kept_box hB; clear hb)
        | (go_at_call 48; refine (l2Pow_any _ _ h6).mono ?_; rintro e w2 ⟨rfl, rfl⟩)
        | (go_at_call 38; refine (l1In_any _ _ _ _).mono ?_; rintro e w2 ⟨rfl, rfl⟩))
      go_ret2
      exact ⟨rfl, bl_step (bl_alloc _ _) hB⟩
    · have hl : rawOfB s n l v = v := by unfold rawOfB; rw [if_pos hf, if_neg h0]
      rw [hl]
      go_enter Try.func23, Try.ntmps23
      go_wp2_with (first
        | (go_at_call 36; refine (sfmtOk_any _ _ _ _).mono ?_; rintro e w1 ⟨rfl, hb⟩; have hB := bl_step hB hb; obtain ⟨hc, hz⟩ := kept_box hB; clear hb)
        | (go_at_call 44; refine (sMost_any _ _ _ _).mono ?_; rintro e w1 ⟨rfl, hb⟩; have hB := bl_step hB hb; obtain ⟨hc, hz⟩ := kept_box hB; clear hb)
        | (go_at_call 48; refine (l2Pow_any _ _ h6).mono ?_; rintro e w2 ⟨rfl, rfl⟩)
        | (go_at_call 38; refine (l1In_any _ _ _ _).mono ?_; rintro e w2 ⟨rfl, rfl⟩))
      go_ret2
      exact ⟨rfl, bl_step (bl_alloc _ _) hB⟩
set_option maxHeartbeats 400000 in
theorem walkFnExactRawOk (a0 : Bool) (a1 : Int) (a2 : Int) (a3 : Int) (w : World) (w1 : (Lit.int .i64 a1).wf = true) (w2 : (Lit.int .i64 a2).wf = true) (w3 : (Lit.int .i64 a3).wf = true) :
    Calls Try.prog 5 #[.agg #[.bool a0, .int .i64 a1, .int .i64 a2], .int .i64 a3] w fun e w' => e = .returned (.bool true) ∧ Below w.heap.size w w' := by
  clear w1 w2 w3
  have hB := Below.refl (w.alloc (.cells #[.bool a0, .int .i64 a1, .int .i64 a2] 23)).heap.size (w.alloc (.cells #[.bool a0, .int .i64 a1, .int .i64 a2] 23))
  go_enter Try.func5, Try.ntmps5
  go_wp2_with (first
    | (go_at_call 21; refine (toFmt_any _ _ _ _).mono ?_; rintro e w1 ⟨rfl, hb⟩; have hB := bl_step hB hb; obtain ⟨hc, hz⟩ := kept_box hB; clear hb)
    | (go_at_call 20; refine (sRawOk_any _ _ _ _ _).mono ?_; rintro e w1 ⟨rfl, hb⟩; have hB := bl_step hB hb; obtain ⟨hc, hz⟩ := kept_box hB; clear hb)
    | (go_at_call 22; refine (iRawOk_any _ _ _ _ _).mono ?_; rintro e w1 ⟨rfl, hb⟩; have hB := bl_step hB hb; obtain ⟨hc, hz⟩ := kept_box hB; clear hb))
  go_ret
  exact ⟨rfl, bl_step (bl_alloc _ _) hB⟩
set_option maxHeartbeats 400000 in
theorem walkFnExactWordOf (a0 : Bool) (a1 : Int) (a2 : Int) (a3 : Int) (w : World) (w1 : (Lit.int .i64 a1).wf = true) (w2 : (Lit.int .i64 a2).wf = true) (w3 : (Lit.int .i64 a3).wf = true) :
    Calls Try.prog 8 #[.agg #[.bool a0, .int .i64 a1, .int .i64 a2], .int .i64 a3] w fun e w' => e = .returned (.bool true) ∧ Below w.heap.size w w' := by
  clear w1 w2 w3
  have hB := Below.refl (w.alloc (.cells #[.bool a0, .int .i64 a1, .int .i64 a2] 23)).heap.size (w.alloc (.cells #[.bool a0, .int .i64 a1, .int .i64 a2] 23))
  go_enter Try.func8, Try.ntmps8
  go_wp2_with (first
    | (go_at_call 21; refine (toFmt_any _ _ _ _).mono ?_; rintro e w1 ⟨rfl, hb⟩; have hB := bl_step hB hb; obtain ⟨hc, hz⟩ := kept_box hB; clear hb)
    | (go_at_call 28; refine (sWordOf_any _ _ _ _ _).mono ?_; rintro e w1 ⟨rfl, hb⟩; have hB := bl_step hB hb; obtain ⟨hc, hz⟩ := kept_box hB; clear hb)
    | (go_at_call 29; refine (iWordOf_any _ _ _ _ _).mono ?_; rintro e w1 ⟨rfl, hb⟩; have hB := bl_step hB hb; obtain ⟨hc, hz⟩ := kept_box hB; clear hb))
  go_ret
  exact ⟨rfl, bl_step (bl_alloc _ _) hB⟩
set_option maxHeartbeats 400000 in
theorem walkFnExactRawOf (a0 : Bool) (a1 : Int) (a2 : Int) (a3 : Int) (w : World) (w1 : (Lit.int .i64 a1).wf = true) (w2 : (Lit.int .i64 a2).wf = true) (w3 : (Lit.int .i64 a3).wf = true) :
    Calls Try.prog 6 #[.agg #[.bool a0, .int .i64 a1, .int .i64 a2], .int .i64 a3] w fun e w' => e = .returned (.bool true) ∧ Below w.heap.size w w' := by
  clear w1 w2 w3
  have hB := Below.refl (w.alloc (.cells #[.bool a0, .int .i64 a1, .int .i64 a2] 23)).heap.size (w.alloc (.cells #[.bool a0, .int .i64 a1, .int .i64 a2] 23))
  go_enter Try.func6, Try.ntmps6
  go_wp2_with (first
    | (go_at_call 21; refine (toFmt_any _ _ _ _).mono ?_; rintro e w1 ⟨rfl, hb⟩; have hB := bl_step hB hb; obtain ⟨hc, hz⟩ := kept_box hB; clear hb)
    | (go_at_call 23; refine (sRawOf_any _ _ _ _ _).mono ?_; rintro e w1 ⟨rfl, hb⟩; have hB := bl_step hB hb; obtain ⟨hc, hz⟩ := kept_box hB; clear hb)
    | (go_at_call 24; refine (iRawOf_any _ _ _ _ _).mono ?_; rintro e w1 ⟨rfl, hb⟩; have hB := bl_step hB hb; obtain ⟨hc, hz⟩ := kept_box hB; clear hb))
  go_ret
  exact ⟨rfl, bl_step (bl_alloc _ _) hB⟩
end Go.Proofs.Ytldidbejieekcaa
