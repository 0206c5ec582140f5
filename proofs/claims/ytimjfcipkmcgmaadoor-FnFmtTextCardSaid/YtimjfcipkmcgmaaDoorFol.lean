/-
  PROVED: the walk of the law of the reading of a format's text.
  CONDITIONS: none.
-/
import Derived.Test.YtimjfcipkmcgmaaDoorFoi
import Derived.Test.YtimjfcipkmcgmaaDoorShp
namespace Go.Proofs.YtimjfcipkmcgmaaDoor
open Go.ChangeShapes Go.WideShapes Go.ChangeAt Go.RowKit
set_option linter.unusedVariables false
theorem eqFmt_refl (x : Bool) (n l : Int) (w : World) : Calls Tryd.prog 9 #[.agg #[.bool x, .int .i64 n, .int .i64 l], .agg #[.bool x, .int .i64 n, .int .i64 l]] w fun e w' => e = .returned (.bool true) ∧ Below w.heap.size w w' := by
  go_enter Tryd.func9, Tryd.ntmps9
  go_wp2
  go_ret
  exact ⟨rfl, bl_al (bl_alloc _ _) _⟩
set_option maxHeartbeats 1000000 in
theorem walkFnExactFmtOf (a0 : ByteArray) (w : World) (w0 : a0.size ≤ maxLen) (ht : Lib.TabIs Tryd.prog w "internal/strconv.uint64pow10" .u64 Lib.pow10Tab) (mx : Int) (hmx : w.cell? ⟨0, 0, none⟩ = some (.int .i64 mx)) :
    Calls Tryd.prog 3 #[.string a0] w fun e w' => e = .returned (.bool true) ∧ Below w.heap.size w w' := by
  have HML := Lib.hid (lt_of_cell hmx)
  have HMX := Lib.hid hmx
  have HT := Lib.hid (Lib.tabBelow_of_tabIs ht)
  clear ht hmx
  by_cases hbig : (a0.size : Int) > 1048576
  · go_enter Tryd.func3, Tryd.ntmps3
    go_wp2
    go_ret
    exact ⟨rfl, Below.refl _ _⟩
  · have hs : a0.size ≤ 1048576 := by omega
    clear w0
    have HS := Lib.hid (sFmtOf_any a0 w hs)
    have HI := Lib.hid (fun (W : World) (hW : Below w.heap.size w W) => iFmtOf_any a0 mx W hs ((hW.cell (p := ⟨0, 0, none⟩) HML.out).trans HMX.out) (Nat.lt_of_lt_of_le HML.out hW.size) (HT.out _ hW))
    unfold fV at HS HI
    generalize fS a0 = x at *
    generalize fW a0 = n at *
    generalize fF a0 = l at *
    generalize fOk a0 = o at *
    have hr : (o != o) = false := by cases o <;> rfl
    go_enter Tryd.func3, Tryd.ntmps3
    go_wp2_with fail
    refine HS.out.mono ?_
    rintro e w1 ⟨rfl, hb1⟩
    have hb2 := bl_al hb1 (.cells #[.bool x, .int .i64 n, .int .i64 l] 23)
    go_wp2_with fail
    refine (HI.out _ hb2).mono ?_
    rintro e w2 ⟨rfl, hb3⟩
    obtain ⟨hc, hz⟩ := kept_box hb3
    go_wp2_with fail
    refine (eqFmt_refl _ _ _ _).mono ?_
    rintro e w3 ⟨rfl, hb4⟩
    go_wp2_with fail
    go_ret
    exact ⟨rfl, bl_step hb2 (bl_step hb3 (bl_step (bl_alloc _ _) hb4))⟩
end Go.Proofs.YtimjfcipkmcgmaaDoor
