/-
  PROVED: contract of the program's reading of a format's text.
  CONDITIONS: none.
-/
import Derived.Test.YtimjfcipkmcgmaaDoorFof
namespace Go.Proofs.YtimjfcipkmcgmaaDoor
open Go.ChangeShapes Go.WideShapes Go.ChangeAt Go.RowKit
set_option linter.unusedVariables false
theorem cut_any (b : UInt8) (s : ByteArray) (w : World) : Calls Tryd.prog 29 #[.string s, .string ⟨#[b]⟩] w fun e w' => e = .returned (.tuple #[.string (cutB b s), .bool (hasB b s)]) ∧ w = w' :=
  (Tryd.strings_CutPrefix s ⟨#[b]⟩ w).mono fun e w' ⟨h1, h2⟩ => ⟨h1, h2.symm⟩
theorem cutB_size (b : UInt8) (s : ByteArray) : (cutB b s).size ≤ s.size := by
  cases h : hasB b s
  · rw [(hasB_no h).1]; exact Nat.le_refl _
  · obtain ⟨_, _, e⟩ := hasB_yes h
    rw [e, ByteArray.size_extract]; omega
theorem iParts46 (t : ByteArray) (m : Int) (w : World) (hs : t.size ≤ 1048576) (hm : w.cell? ⟨0, 0, none⟩ = some (.int .i64 m)) (hml : 0 < w.heap.size) : Calls Tryd.prog 19 #[.string t, .int .u8 46] w (PartsOwn (partsB 46 t) w) := iParts_any t 46 m w hs hm hml
set_option maxRecDepth 100000 in
set_option maxHeartbeats 8000000 in
theorem iFmtOf_any (s : ByteArray) (m : Int) (w : World) (hs : s.size ≤ 1048576) (hm : w.cell? ⟨0, 0, none⟩ = some (.int .i64 m)) (hml : 0 < w.heap.size) (ht : Lib.TabIs Tryd.prog w "internal/strconv.uint64pow10" .u64 Lib.pow10Tab) :
    Calls Tryd.prog 8 #[.string s] w fun e w' => e = .returned (fV s) ∧ Below w.heap.size w w' := by
  have HTB := Lib.hid (Lib.tabBelow_of_tabIs ht); clear ht
  have hz1 := cutB_size 85 s
  have hz2 := cutB_size 81 (cutB 85 s)
  have HCU := Lib.hid (fun W : World => cut_any 85 s W)
  have HCQ := Lib.hid (fun W : World => cut_any 81 (cutB 85 s) W)
  have HB0 : Hid (Below w.heap.size w (w.alloc (.cells #[.bool false, .int .i64 0, .int .i64 0] 23))) := bl_alloc _ _
  have HPA := Lib.hid (iParts46 (cutB 81 (cutB 85 s)) m (w.alloc (.cells #[.bool false, .int .i64 0, .int .i64 0] 23)) (by omega) ((HB0.out.cell (p := ⟨0, 0, none⟩) hml).trans hm) (Nat.lt_of_lt_of_le hml HB0.out.size))
  have HSZ := Lib.hid (fun p hp => Nat.le_trans (partsB_size 46 (cutB 81 (cutB 85 s)) p hp) (by omega : _ ≤ 1048576))
  have HOK : Hid (fOk s = (hasB 81 (cutB 85 s) && ((fP s).length == 2) && numOk (f0 s) && numOk (f1 s) && fmtOkB (numR (f0 s) + numR (f1 s)) (numR (f1 s)))) := rfl
  have HL0 : Hid (f0 s = (fP s).getD 0 ByteArray.empty) := rfl
  have HL1 : Hid (f1 s = (fP s).getD 1 ByteArray.empty) := rfl
  have HU : Hid (fOk s = true → fV s = .tuple #[.agg #[.bool (!(hasB 85 s)), .int .i64 (numR (f0 s) + numR (f1 s)), .int .i64 (numR (f1 s))], .bool true]) := fun h => fV_yes h
  have HP : Hid (partsB 46 (cutB 81 (cutB 85 s)) = fP s) := rfl
  rw [HP.out] at HPA HSZ
  clear HP hm hml hz1 hz2
  have HR0 := Lib.hid (heap_alloc_new w (.cells #[.bool false, .int .i64 0, .int .i64 0] 23))
  generalize cutB 81 (cutB 85 s) = tq at *
  generalize hasB 81 (cutB 85 s) = oq at *
  generalize cutB 85 s = tu at *
  generalize hasB 85 s = ou at *
  generalize fP s = L at *
  go_enter Tryd.func8, Tryd.ntmps8
  go_wp2_with fail
  refine (HCU.out _).mono ?_
  rintro e w' ⟨rfl, rfl⟩
  go_wp2_with fail
  refine (HCQ.out _).mono ?_
  rintro e w' ⟨rfl, rfl⟩
  go_wp2_with fail
  refine HPA.out.mono ?_
  rintro e w1 ⟨a, c, rfl, ho, hb⟩
  have hst := ho.row
  clear ho
  have hR1 := (hb.block w.heap.size (by simp)).trans HR0.out
  replace hb := bl_step HB0.out hb
  have HR1 := Lib.hid hR1
  have rc1 := cell_of_heap hR1
  have rf1 := free_of_heap hR1
  have hlt1 := lt_of_heap hR1
  clear HCU HCQ HPA HR0 HB0
  cases oq
  · have hno : Hid (fOk s = false) := by show _ = _; rw [HOK.out]; rfl
    clear hst
    go_wp2_with fail
    obtain ⟨g0, g1, g2⟩ := set3_heap hR1 (.bool false) (.int .i64 0) (.int .i64 0)
    try simp only [Exit.inBlock, Exit.then]
    refine bodyPost_ret (v := .tuple #[.agg #[.bool false, .int .i64 0, .int .i64 0], .bool false]) (by simp [results, Tryd.results8, go_sem, g0, g1, g2]) rfl ?_
    exact ⟨by rw [fV_no hno.out], below_out hb (out_three (w := w1) (r := w.heap.size) _ _ _) (Nat.le_refl _)⟩
  · by_cases hl : L.length = 2
    · obtain ⟨p0, p1, rfl⟩ : ∃ x y, L = [x, y] := by
        match L, hl with
        | [x, y], _ => exact ⟨x, y, rfl⟩
      have e0 : f0 s = p0 := HL0.out
      have e1 : f1 s = p1 := HL1.out
      have hz0 := HSZ.out p0 (by simp)
      have hz1 := HSZ.out p1 (by simp)
      rw [e0, e1] at HOK HU
      have HOK2 : Hid (fOk s = (numOk p0 && numOk p1 && fmtOkB (numR p0 + numR p1) (numR p1))) := by show _ = _; rw [HOK.out]; rfl
      clear HOK HL0 HL1 HSZ e0 e1 hl
      rcases hst with hst | ⟨b, off, rfl, hlt, hcell⟩
      · cases hst
      have c0 : w1.cell? ⟨b, off, none⟩ = some (.string p0) := hcell 0 (by simp)
      have c1 : w1.cell? ⟨b, off + 1, none⟩ = some (.string p1) := hcell 1 (by simp)
      clear hcell hR1 rc1 rf1
      obtain ⟨n00, n01⟩ := numR_bd p0
      obtain ⟨n10, n11⟩ := numR_bd p1
      have HC0 := Lib.hid (fun (W : World) (hW : Below w.heap.size w W) => iNumber_any p0 W (by omega) (HTB.out _ hW))
      have HC1 := Lib.hid (fun (W : World) (hW : Below w.heap.size w W) => iNumber_any p1 W (by omega) (HTB.out _ hW))
      generalize numR p0 = v0 at *
      generalize numR p1 = v1 at *
      generalize numOk p0 = o0 at *
      generalize numOk p1 = o1 at *
      go_wp2_with fail
      refine (HC0.out _ hb).mono ?_
      rintro e w2 ⟨rfl, hb2⟩
      have c2 : w2.cell? ⟨b, off + 1, none⟩ = some (.string p1) := (hb2.cell (p := ⟨b, off + 1, none⟩) hlt).trans c1
      go_wp2_with fail
      refine (HC1.out _ (bl_step hb hb2)).mono ?_
      rintro e w3 ⟨rfl, hb3⟩
      have hb23 := bl_step hb2 hb3
      have hR3 := ((hb23.block w.heap.size (lt_of_heap HR1.out)).trans HR1.out)
      replace hb := bl_step hb hb23
      clear hb2 hb3 hb23 c0 c1 c2 hlt HC0 HC1
      have hlt3 := lt_of_heap hR3
      have hRA : (w3.alloc (.cells #[.bool (!ou), .int .i64 (v0 + v1), .int .i64 v1] 23)).heap[w.heap.size]? = some (.cells #[.bool false, .int .i64 0, .int .i64 0] 23 (0, 0)) := ((bl_alloc w3 _).block w.heap.size hlt3).trans hR3
      have HRA := Lib.hid hRA
      have rcA := cell_of_heap hRA
      have rfA := free_of_heap hRA
      have rc3 := cell_of_heap hR3
      have rf3 := free_of_heap hR3
      have hbA := bl_al hb (.cells #[.bool (!ou), .int .i64 (v0 + v1), .int .i64 v1] 23)
      cases o0
      · have hno : Hid (fOk s = false) := by show _ = _; rw [HOK2.out]; rfl
        clear HOK2
        cases o1
        all_goals
          go_wp2_with fail
          have hG := (bl_alloc (((w3.setCell ⟨w.heap.size, 0, none⟩ (.bool false)).setCell ⟨w.heap.size, 1, none⟩ (.int .i64 0)).setCell ⟨w.heap.size, 2, none⟩ (.int .i64 0)) (.cells #[.bool (!ou), .int .i64 (v0 + v1), .int .i64 v1] 23)).block w.heap.size (by simp [World.setCell]; exact hlt3)
          have hG2 := hG.trans (setCell_block (setCell_block (setCell_block hR3 (i := 0) (.bool false)) (i := 1) (.int .i64 0)) (i := 2) (.int .i64 0))
          have g0 := cell_of_heap hG2 0
          have g1 := cell_of_heap hG2 1
          have g2 := cell_of_heap hG2 2
          try simp only [Exit.inBlock, Exit.then]
          refine bodyPost_ret (v := .tuple #[.agg #[.bool false, .int .i64 0, .int .i64 0], .bool false]) (by simp [results, Tryd.results8, go_sem, g0, g1, g2]) rfl ?_
          exact ⟨by rw [fV_no hno.out], bl_al (below_out hb (out_three (w := w3) (r := w.heap.size) _ _ _) (Nat.le_refl _)) _⟩
      · cases o1
        · have hno : Hid (fOk s = false) := by show _ = _; rw [HOK2.out]; rfl
          clear HOK2
          go_wp2_with fail
          have hG := (bl_alloc (((w3.setCell ⟨w.heap.size, 0, none⟩ (.bool false)).setCell ⟨w.heap.size, 1, none⟩ (.int .i64 0)).setCell ⟨w.heap.size, 2, none⟩ (.int .i64 0)) (.cells #[.bool (!ou), .int .i64 (v0 + v1), .int .i64 v1] 23)).block w.heap.size (by simp [World.setCell]; exact hlt3)
          have hG2 := hG.trans (setCell_block (setCell_block (setCell_block hR3 (i := 0) (.bool false)) (i := 1) (.int .i64 0)) (i := 2) (.int .i64 0))
          have g0 := cell_of_heap hG2 0
          have g1 := cell_of_heap hG2 1
          have g2 := cell_of_heap hG2 2
          try simp only [Exit.inBlock, Exit.then]
          refine bodyPost_ret (v := .tuple #[.agg #[.bool false, .int .i64 0, .int .i64 0], .bool false]) (by simp [results, Tryd.results8, go_sem, g0, g1, g2]) rfl ?_
          exact ⟨by rw [fV_no hno.out], bl_al (below_out hb (out_three (w := w3) (r := w.heap.size) _ _ _) (Nat.le_refl _)) _⟩
        · have HOK3 : Hid (fOk s = fmtOkB (v0 + v1) v1) := by show _ = _; rw [HOK2.out]; rfl
          clear HOK2
          have HFO := Lib.hid (fun W : World => fmtOk_any (!ou) (v0 + v1) v1 W)
          have hFA := heap_alloc_new w3 (.cells #[.bool (!ou), .int .i64 (v0 + v1), .int .i64 v1] 23)
          have HFA := Lib.hid hFA
          clear hFA hRA rcA rfA rc3 rf3 hR3
          go_wp2_with fail
          refine (HFO.out _).mono ?_
          rintro e w5 ⟨rfl, hb5⟩
          have hR5 := (hb5.block w.heap.size (lt_of_heap HRA.out)).trans HRA.out
          have hF5 := (hb5.block w3.heap.size (lt_of_heap HFA.out)).trans HFA.out
          have rc5 := cell_of_heap hR5
          have rf5 := free_of_heap hR5
          have fc5 := cell_of_heap hF5
          cases hfo : fmtOkB (v0 + v1) v1
          · have hno : Hid (fOk s = false) := by show _ = _; rw [HOK3.out, hfo]
            go_wp2_with fail
            obtain ⟨g0, g1, g2⟩ := set3_heap hR5 (.bool false) (.int .i64 0) (.int .i64 0)
            try simp only [Exit.inBlock, Exit.then]
            refine bodyPost_ret (v := .tuple #[.agg #[.bool false, .int .i64 0, .int .i64 0], .bool false]) (by simp [results, Tryd.results8, go_sem, g0, g1, g2]) rfl ?_
            exact ⟨by rw [fV_no hno.out], below_out (bl_step hbA hb5) (out_three (w := w5) (r := w.heap.size) _ _ _) (Nat.le_refl _)⟩
          · have hyes : Hid (fOk s = true) := by show _ = _; rw [HOK3.out, hfo]
            go_wp2_with fail
            obtain ⟨g0, g1, g2⟩ := set3_heap hR5 (.bool (!ou)) (.int .i64 (v0 + v1)) (.int .i64 v1)
            try simp only [Exit.inBlock, Exit.then]
            refine bodyPost_ret (v := .tuple #[.agg #[.bool (!ou), .int .i64 (v0 + v1), .int .i64 v1], .bool true]) (by simp [results, Tryd.results8, go_sem, g0, g1, g2]) rfl ?_
            exact ⟨by rw [HU.out hyes.out], below_out (bl_step hbA hb5) (out_three (w := w5) (r := w.heap.size) _ _ _) (Nat.le_refl _)⟩
    · have hno : Hid (fOk s = false) := by
        show _ = _
        rw [HOK.out, beq_eq_false_iff_ne.2 hl]; rfl
      have hl2 : ¬ ((L.length : Nat) : Int) = 2 := by omega
      clear hst
      go_wp2_with fail
      obtain ⟨g0, g1, g2⟩ := set3_heap hR1 (.bool false) (.int .i64 0) (.int .i64 0)
      try simp only [Exit.inBlock, Exit.then]
      refine bodyPost_ret (v := .tuple #[.agg #[.bool false, .int .i64 0, .int .i64 0], .bool false]) (by simp [results, Tryd.results8, go_sem, g0, g1, g2]) rfl ?_
      exact ⟨by rw [fV_no hno.out], below_out hb (out_three (w := w1) (r := w.heap.size) _ _ _) (Nat.le_refl _)⟩
end Go.Proofs.YtimjfcipkmcgmaaDoor
