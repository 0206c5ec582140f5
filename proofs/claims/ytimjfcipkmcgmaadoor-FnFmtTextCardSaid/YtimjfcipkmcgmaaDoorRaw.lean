/-
  PROVED: contracts of raw numbers and their words.
  CONDITIONS: none.
-/
import Derived.Test.YtimjfcipkmcgmaaDoorPow
import Derived.Deep.RegionHeld3
namespace Go.Proofs.YtimjfcipkmcgmaaDoor
open Go.ChangeShapes Go.WideShapes Go.ChangeAt Go.RowKit
set_option linter.unusedVariables false
/-- what a box of three cells at the heap's end keeps -/
theorem keep3 {w wa wb : World} {c0 c1 c2 : Value} (h : (wa.cell? ⟨w.heap.size, 0, none⟩ = some c0 ∧ wa.cell? ⟨w.heap.size, 1, none⟩ = some c1 ∧ wa.cell? ⟨w.heap.size, 2, none⟩ = some c2) ∧ w.heap.size < wa.heap.size ∧ Below w.heap.size w wa)
    (hb : Below wa.heap.size wa wb) : (wb.cell? ⟨w.heap.size, 0, none⟩ = some c0 ∧ wb.cell? ⟨w.heap.size, 1, none⟩ = some c1 ∧ wb.cell? ⟨w.heap.size, 2, none⟩ = some c2) ∧ w.heap.size < wb.heap.size ∧ Below w.heap.size w wb := by
  obtain ⟨⟨h0, h1, h2⟩, hz, hB⟩ := h
  obtain ⟨hc, _⟩ := bcell hb
  exact ⟨⟨by rw [hc _ _ hz, h0], by rw [hc _ _ hz, h1], by rw [hc _ _ hz, h2]⟩, Nat.lt_of_lt_of_le hz hb.size, bl_step hB hb⟩
theorem start3 (w : World) (c0 c1 c2 : Value) (t : TypeId) : ((w.alloc (.cells #[c0, c1, c2] t)).drew.cell? ⟨w.heap.size, 0, none⟩ = some c0 ∧ (w.alloc (.cells #[c0, c1, c2] t)).drew.cell? ⟨w.heap.size, 1, none⟩ = some c1 ∧ (w.alloc (.cells #[c0, c1, c2] t)).drew.cell? ⟨w.heap.size, 2, none⟩ = some c2) ∧ w.heap.size < (w.alloc (.cells #[c0, c1, c2] t)).drew.heap.size ∧ Below w.heap.size w (w.alloc (.cells #[c0, c1, c2] t)).drew :=
  ⟨⟨World.cell?_alloc_mark _ _ _ _ _, World.cell?_alloc_mark _ _ _ _ _, World.cell?_alloc_mark _ _ _ _ _⟩, by show w.heap.size < (w.alloc _).heap.size; simp, (bl_alloc _ _).drew⟩
theorem ret_two {k : IntKind} {a b : Int} {v : Value} (h : a = b) : Ending.returned (.tuple #[.int k a, v]) = .returned (.tuple #[.int k b, v]) := by rw [h]
def rawOkB (s : Bool) (n l v : Int) : Bool := fmtOkB n l && inR v (leastB s n l) (mostB s n l)
def wordB (s : Bool) (n l v : Int) : Int := if rawOkB s n l v = true then (if 0 ≤ v then v else v + pw n) else -1
def rawOfOkB (n l v : Int) : Bool := fmtOkB n l && inR v 0 (pw n - 1)
def rawOfB (s : Bool) (n l v : Int) : Int := if rawOfOkB n l v = true then (if mostB s n l < v then v - pw n else v) else 0
set_option maxHeartbeats 400000 in
theorem iRawOk_any (s : Bool) (n l v : Int) (w : World) : Calls Tryd.prog 17 #[.agg #[.bool s, .int .i64 n, .int .i64 l], .int .i64 v] w fun e w' => e = .returned (.bool (rawOkB s n l v)) ∧ Below w.heap.size w w' := by
  have hS := start3 w (.bool s) (.int .i64 n) (.int .i64 l) 23
  have HS := Lib.hid hS; clear hS
  cases hf : fmtOkB n l
  · have hr : rawOkB s n l v = false := by unfold rawOkB; rw [hf]; rfl
    rw [hr]
    clear hr
    go_enter Tryd.func17, Tryd.ntmps17
    go_wp2_with fail
    (first | go_region_with (go_at_call 31; refine (fmtOk_eq _ _ _ _ hf).mono ?_; rintro e w1 ⟨rfl, hb⟩) | fail)
    all_goals go_wp2
    all_goals go_ret
    all_goals exact ⟨rfl, bl_step (bl_alloc _ _).drew hb⟩
  · have hr : rawOkB s n l v = inR v (leastB s n l) (mostB s n l) := by unfold rawOkB; rw [hf]; rfl
    rw [hr]
    clear hr
    go_enter Tryd.func17, Tryd.ntmps17
    go_wp2_with fail
    go_region_held3 (fun w' => (w'.cell? ⟨w.heap.size, 0, none⟩ = some (.bool s) ∧ w'.cell? ⟨w.heap.size, 1, none⟩ = some (.int .i64 n) ∧ w'.cell? ⟨w.heap.size, 2, none⟩ = some (.int .i64 l)) ∧ w.heap.size < w'.heap.size ∧ Below w.heap.size w w')
      (first | exact keep3 (by assumption) hb | exact HS.out)
      (first
      | (go_at_call 31; refine (fmtOk_any _ _ _ _).mono ?_; rintro e w1 ⟨rfl, hb⟩)
      | (go_at_call 15; refine (iLeast_any _ _ _ _).mono ?_; rintro e w1 ⟨rfl, hb⟩)
      | (go_at_call 16; refine (iMost_any _ _ _ _).mono ?_; rintro e w1 ⟨rfl, hb⟩)
      | (go_at_call 39; refine (inRange_any _ _ _ _).mono ?_; rintro e w1 ⟨rfl, rfl⟩; have hb := Below.refl w1.heap.size w1))
    rename_i hK
    obtain ⟨_, _, hB⟩ := hK
    go_wp2
    go_ret
    exact ⟨rfl, hB⟩
end Go.Proofs.YtimjfcipkmcgmaaDoor
