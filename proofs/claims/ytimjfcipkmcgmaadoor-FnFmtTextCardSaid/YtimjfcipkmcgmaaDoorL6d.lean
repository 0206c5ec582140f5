/-
  PROVED: contracts of the draws of a format, right or bent.
  CONDITIONS: none.
-/
import Derived.Test.YtimjfcipkmcgmaaDoorL6
namespace Go.Proofs.YtimjfcipkmcgmaaDoor
open Go.ChangeShapes Go.WideShapes Go.ChangeAt Go.RowKit
set_option linter.unusedVariables false
set_option maxHeartbeats 4000000 in
theorem l6Draw_any (w : World) (g : Nat) (S : Src) (i : Nat) (h : Int) (hw : CurAt w g S i h) :
    Calls Tryd.prog 32 #[.pointer (some ⟨g, 0, none⟩)] w (FmtDraw w g S) := by
  have I0 := (Inv.start hw).add #[.bool false, .int .i64 0, .int .i64 0]
  clear hw
  obtain ⟨i0, h0, hc0⟩ := I0.cur
  have HC0 := Lib.hid (l6Right_any _ g S i0 h0 hc0)
  clear hc0
  go_enter Tryd.func32, Tryd.ntmps32
  go_wp2_with fail
  refine HC0.out.mono ?_
  rintro e w1 ⟨s, n, l, rfl, ⟨i1, h1, hc1⟩, ho1⟩
  have I2 := (I0.grown hc1 ho1).add #[.bool s, .int .i64 n, .int .i64 l]
  have hRF0 : w.heap.size < w1.heap.size := lt_of_heap ((I0.grown hc1 ho1).box _ (.head _)).1
  clear hc1 ho1
  obtain ⟨F, hF⟩ : ∃ F, F = w1.heap.size := ⟨_, rfl⟩
  have HF := Lib.hid hF
  rw [← hF] at hRF0 I2
  have hRF : w.heap.size ≤ F := Nat.le_of_lt hRF0
  have hneF : w.heap.size ≠ F := Nat.ne_of_lt hRF0
  clear hRF0 I0
  go_wp2_with fail
  refine (inv_below I2 12 (by omega)).mono ?_
  rintro e w3 ⟨v, rfl, ⟨v0, v1⟩, I3⟩
  rw [← hF]
  clear hF
  rcases (show v = 0 ∨ v = 1 ∨ (v ≠ 0 ∧ v ≠ 1) by omega) with rfl | rfl | ⟨hv0, hv1⟩
  · go_wp2_with fail
    refine (inv_pick I3 _ 6 _ ?_ ?_ (by omega) (by omega)).mono ?_
    · exact List.forall_mem_cons.2 ⟨⟨_, rfl⟩, List.forall_mem_cons.2 ⟨⟨_, rfl⟩, List.forall_mem_cons.2 ⟨⟨_, rfl⟩, List.forall_mem_cons.2 ⟨⟨_, rfl⟩, List.forall_mem_cons.2 ⟨⟨_, rfl⟩, List.forall_mem_cons.2 ⟨⟨_, rfl⟩, List.forall_mem_nil _⟩⟩⟩⟩⟩⟩
    · rfl
    rintro e w4 ⟨x, rfl, I4⟩
    obtain ⟨e0, e1, e2⟩ := I4.three (.head _)
    have ef := I4.free (.head _)
    have I5 := I4.set (.head _) hRF 1 (.int .i64 x) [(F, #[.bool s, .int .i64 x, .int .i64 l]), (w.heap.size, #[.bool false, .int .i64 0, .int .i64 0])] (by
      intro p hp
      rcases List.mem_cons.1 hp with rfl | hp
      · exact .inr rfl
      · obtain rfl := List.mem_singleton.1 hp
        exact .inl ⟨.tail _ (.head _), hneF⟩)
    obtain ⟨d0, d1, d2⟩ := I5.three (.head _)
    obtain ⟨r0, r1, r2⟩ := I5.three (.tail _ (.head _))
    have rf := I5.free (.tail _ (.head _))
    have I8 := I5.out3 (.tail _ (.head _)) (Nat.le_refl _) (.bool s) (.int .i64 x) (.int .i64 l)
    obtain ⟨g0, g1, g2⟩ := set3h (I5.box _ (.tail _ (.head _))).1 (.bool s) (.int .i64 x) (.int .i64 l)
    go_wp2_with fail
    try simp only [Exit.inBlock, Exit.then]
    refine bodyPost_ret (v := .agg #[.bool s, .int .i64 x, .int .i64 l]) (by simp [results, Tryd.results32, go_sem, g0, g1, g2]) rfl ?_
    exact ⟨_, _, _, rfl, I8.cur, I8.own⟩
  · obtain ⟨e0, e1, e2⟩ := I3.three (.head _)
    go_wp2_with fail
    refine (inv_pick I3 _ 4 _ ?_ ?_ (by omega) (by omega)).mono ?_
    · exact List.forall_mem_cons.2 ⟨⟨_, rfl⟩, List.forall_mem_cons.2 ⟨⟨_, rfl⟩, List.forall_mem_cons.2 ⟨⟨_, rfl⟩, List.forall_mem_cons.2 ⟨⟨_, rfl⟩, List.forall_mem_nil _⟩⟩⟩⟩
    · rfl
    rintro e w4 ⟨x, rfl, I4⟩
    obtain ⟨e0, e1, e2⟩ := I4.three (.head _)
    have ef := I4.free (.head _)
    have I5 := I4.set (.head _) hRF 2 (.int .i64 x) [(F, #[.bool s, .int .i64 n, .int .i64 x]), (w.heap.size, #[.bool false, .int .i64 0, .int .i64 0])] (by
      intro p hp
      rcases List.mem_cons.1 hp with rfl | hp
      · exact .inr rfl
      · obtain rfl := List.mem_singleton.1 hp
        exact .inl ⟨.tail _ (.head _), hneF⟩)
    obtain ⟨d0, d1, d2⟩ := I5.three (.head _)
    obtain ⟨r0, r1, r2⟩ := I5.three (.tail _ (.head _))
    have rf := I5.free (.tail _ (.head _))
    have I8 := I5.out3 (.tail _ (.head _)) (Nat.le_refl _) (.bool s) (.int .i64 n) (.int .i64 x)
    obtain ⟨g0, g1, g2⟩ := set3h (I5.box _ (.tail _ (.head _))).1 (.bool s) (.int .i64 n) (.int .i64 x)
    go_wp2_with fail
    try simp only [Exit.inBlock, Exit.then]
    refine bodyPost_ret (v := .agg #[.bool s, .int .i64 n, .int .i64 x]) (by simp [results, Tryd.results32, go_sem, g0, g1, g2]) rfl ?_
    exact ⟨_, _, _, rfl, I8.cur, I8.own⟩
  · obtain ⟨d0, d1, d2⟩ := I3.three (.head _)
    obtain ⟨r0, r1, r2⟩ := I3.three (.tail _ (.head _))
    have rf := I3.free (.tail _ (.head _))
    have I8 := I3.out3 (.tail _ (.head _)) (Nat.le_refl _) (.bool s) (.int .i64 n) (.int .i64 l)
    obtain ⟨g0, g1, g2⟩ := set3h (I3.box _ (.tail _ (.head _))).1 (.bool s) (.int .i64 n) (.int .i64 l)
    go_wp2_with fail
    try simp only [Exit.inBlock, Exit.then]
    refine bodyPost_ret (v := .agg #[.bool s, .int .i64 n, .int .i64 l]) (by simp [results, Tryd.results32, go_sem, g0, g1, g2]) rfl ?_
    exact ⟨_, _, _, rfl, I8.cur, I8.own⟩
end Go.Proofs.YtimjfcipkmcgmaaDoor
