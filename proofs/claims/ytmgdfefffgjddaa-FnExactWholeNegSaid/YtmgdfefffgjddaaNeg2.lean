/-
  PROVED: the contract of the program's turning of a whole number's sign.
  CONDITIONS: none.
-/
import Derived.Test.YtmgdfefffgjddaaNeg
namespace Go.Proofs.Ytmgdfefffgjddaa
open Go.ChangeShapes Go.WideShapes Go.ChangeAt Go.RowKit
set_option linter.unusedVariables false
set_option maxHeartbeats 1000000 in
theorem iWholeNeg_pos (b n c : Nat) (zs : List Int) (w : World) (hz : zs.length = n) (hn : n ≤ 1048576) (ha : RowAt .i64 w (some ⟨b, 0, none⟩) zs) (hok : wholeOkB false zs = true) :
    Calls Try.prog 43 #[.agg #[.bool false, .slice (some ⟨b, 0, none⟩) n c]] w (WholeOwn (wnegS false zs) (wnegL false zs) w) := by
  have HZ := Lib.hid hz; clear hz
  have hb2 : Below w.heap.size w ((w.alloc (.cells #[.bool false, .slice (some ⟨b, 0, none⟩) n c] 41)).alloc (.cells #[.bool false, .slice none 0 0] 41)) := bl_al (bl_alloc _ _) _
  have X0 := (BoxAt.new w #[.bool false, .slice (some ⟨b, 0, none⟩) n c] 41).below (bl_alloc (w.alloc (.cells #[.bool false, .slice (some ⟨b, 0, none⟩) n c] 41)) (.cells #[.bool false, .slice none 0 0] 41))
  have R0 := BoxAt.new_at (w.alloc (.cells #[.bool false, .slice (some ⟨b, 0, none⟩) n c] 41)) #[.bool false, .slice none 0 0] 41 (n := w.heap.size + 1) (by simp)
  have e1 : ((w.alloc (.cells #[.bool false, .slice (some ⟨b, 0, none⟩) n c] 41)).alloc (.cells #[.bool false, .slice none 0 0] 41)).heap.size = w.heap.size + 1 + 1 := by simp
  have E1 := Lib.hid e1; clear e1
  have ha2 := ha.below hb2
  clear ha
  rw [wnegS_ok hok, wnegL_ok hok]
  have hlen : (!false && decide (0 < zs.length)) = (decide (0 < n)) := by rw [HZ.out]; simp
  rw [hlen]; clear hlen
  go_enter Try.func43, Try.ntmps43
  go_wp2_with fail
  refine (iWholeOk_eq _ _ _ _ zs _ HZ.out hn ha2 hok).mono ?_
  rintro e w1 ⟨rfl, hb⟩
  have hbd := hb.drew
  have hx1 := (X0.below hb).cell
  have xd := X0.below hbd
  have ha3 := ha2.below hbd
  go_wp2_with fail
  go_region_held3 (fun w' => w'.cell? ⟨w.heap.size, 0, none⟩ = some (.bool false) ∧ w'.cell? ⟨w.heap.size, 1, none⟩ = some (.slice (some ⟨b, 0, none⟩) n c))
    (first | exact ⟨((X0.below hg2).out (out_two _ _) (.inl (Nat.lt_succ_self _))).cell 0, ((X0.below hg2).out (out_two _ _) (.inl (Nat.lt_succ_self _))).cell 1⟩ | exact ⟨(X0.below hg2).cell 0, (X0.below hg2).cell 1⟩ | exact ⟨xd.cell 0, xd.cell 1⟩)
    (first | (go_at_call 62; refine (clone_any _ _ _ _ zs _ HZ.out hn ha3).mono ?_; rintro e w2 ⟨a2, c2, rfl, ho, hb'⟩; have hg2 := bl_step hbd hb'; have hx2 := (X0.below hg2).cell; have hr2 := R0.below hg2; have hc2 := hr2.cell; have hf2 : ∀ i, w2.frozen? ⟨w.heap.size + 1, i, none⟩ = false := fun i => (hg2.frozen (p := ⟨w.heap.size + 1, i, none⟩) (by simp)).trans (by simp)))
  go_wp2
  obtain ⟨_, g1, g2⟩ := set_two hr2
  refine bodyPost_ret (v := .agg #[.bool (decide (0 < n)), .slice a2 n c2]) (by simp [results, Try.results43, go_sem, g1, g2]) rfl ?_
  have hO := out_two (w := w2) (r := w.heap.size + 1) (.bool (decide (0 < n))) (.slice a2 n c2)
  have hle : w.heap.size + 1 + 1 ≤ w1.drew.heap.size := by rw [← E1.out]; exact hbd.size
  have ho3 := (ho.out hO (.inr hle)).wide (lo' := w.heap.size) (by omega) (Nat.le_refl _)
  exact ⟨a2, c2, by rw [HZ.out], ho3.wide (Nat.le_refl _) hO.size, below_out (bl_step hb2 hg2) hO (by omega)⟩
set_option maxHeartbeats 1000000 in
theorem iWholeNeg_neg (b n c : Nat) (zs : List Int) (w : World) (hz : zs.length = n) (hn : n ≤ 1048576) (ha : RowAt .i64 w (some ⟨b, 0, none⟩) zs) (hok : wholeOkB true zs = true) :
    Calls Try.prog 43 #[.agg #[.bool true, .slice (some ⟨b, 0, none⟩) n c]] w (WholeOwn (wnegS true zs) (wnegL true zs) w) := by
  have HZ := Lib.hid hz; clear hz
  have hb2 : Below w.heap.size w ((w.alloc (.cells #[.bool true, .slice (some ⟨b, 0, none⟩) n c] 41)).alloc (.cells #[.bool false, .slice none 0 0] 41)) := bl_al (bl_alloc _ _) _
  have X0 := (BoxAt.new w #[.bool true, .slice (some ⟨b, 0, none⟩) n c] 41).below (bl_alloc (w.alloc (.cells #[.bool true, .slice (some ⟨b, 0, none⟩) n c] 41)) (.cells #[.bool false, .slice none 0 0] 41))
  have R0 := BoxAt.new_at (w.alloc (.cells #[.bool true, .slice (some ⟨b, 0, none⟩) n c] 41)) #[.bool false, .slice none 0 0] 41 (n := w.heap.size + 1) (by simp)
  have e1 : ((w.alloc (.cells #[.bool true, .slice (some ⟨b, 0, none⟩) n c] 41)).alloc (.cells #[.bool false, .slice none 0 0] 41)).heap.size = w.heap.size + 1 + 1 := by simp
  have E1 := Lib.hid e1; clear e1
  have ha2 := ha.below hb2
  clear ha
  rw [wnegS_ok hok, wnegL_ok hok]
  have hlen : (!true && decide (0 < zs.length)) = (false) := by rw [HZ.out]; simp
  rw [hlen]; clear hlen
  go_enter Try.func43, Try.ntmps43
  go_wp2_with fail
  refine (iWholeOk_eq _ _ _ _ zs _ HZ.out hn ha2 hok).mono ?_
  rintro e w1 ⟨rfl, hb⟩
  have hbd := hb.drew
  have hx1 := (X0.below hb).cell
  have xd := X0.below hbd
  have ha3 := ha2.below hbd
  go_wp2_with fail
  (first | go_region_with (go_at_call 62; refine (clone_any _ _ _ _ zs _ HZ.out hn ha3).mono ?_; rintro e w2 ⟨a2, c2, rfl, ho, hb'⟩; have hg2 := bl_step hbd hb'; have hx2 := (X0.below hg2).cell; have hr2 := R0.below hg2; have hc2 := hr2.cell; have hf2 : ∀ i, w2.frozen? ⟨w.heap.size + 1, i, none⟩ = false := fun i => (hg2.frozen (p := ⟨w.heap.size + 1, i, none⟩) (by simp)).trans (by simp)) | fail)
  all_goals go_wp2
  all_goals obtain ⟨_, g1, g2⟩ := set_two hr2
  all_goals refine bodyPost_ret (v := .agg #[.bool false, .slice a2 n c2]) (by simp [results, Try.results43, go_sem, g1, g2]) rfl ?_
  all_goals have hO := out_two (w := w2) (r := w.heap.size + 1) (.bool false) (.slice a2 n c2)
  all_goals have hle : w.heap.size + 1 + 1 ≤ w1.drew.heap.size := by rw [← E1.out]; exact hbd.size
  all_goals have ho3 := (ho.out hO (.inr hle)).wide (lo' := w.heap.size) (by omega) (Nat.le_refl _)
  all_goals exact ⟨a2, c2, by rw [HZ.out], ho3.wide (Nat.le_refl _) hO.size, below_out (bl_step hb2 hg2) hO (by omega)⟩
set_option maxHeartbeats 2000000 in
theorem iWholeNeg_any (neg : Bool) (b n c : Nat) (zs : List Int) (w : World) (hz : zs.length = n) (hn : n ≤ 1048576) (ha : RowAt .i64 w (some ⟨b, 0, none⟩) zs) :
    Calls Try.prog 43 #[.agg #[.bool neg, .slice (some ⟨b, 0, none⟩) n c]] w (WholeOwn (wnegS neg zs) (wnegL neg zs) w) := by
  cases hok : wholeOkB neg zs
  · have HZ := Lib.hid hz; clear hz
    have hb2 : Below w.heap.size w ((w.alloc (.cells #[.bool neg, .slice (some ⟨b, 0, none⟩) n c] 41)).alloc (.cells #[.bool false, .slice none 0 0] 41)) := bl_al (bl_alloc _ _) _
    have X0 := (BoxAt.new w #[.bool neg, .slice (some ⟨b, 0, none⟩) n c] 41).below (bl_alloc (w.alloc (.cells #[.bool neg, .slice (some ⟨b, 0, none⟩) n c] 41)) (.cells #[.bool false, .slice none 0 0] 41))
    have R0 := BoxAt.new_at (w.alloc (.cells #[.bool neg, .slice (some ⟨b, 0, none⟩) n c] 41)) #[.bool false, .slice none 0 0] 41 (n := w.heap.size + 1) (by simp)
    have e1 : ((w.alloc (.cells #[.bool neg, .slice (some ⟨b, 0, none⟩) n c] 41)).alloc (.cells #[.bool false, .slice none 0 0] 41)).heap.size = w.heap.size + 1 + 1 := by simp
    have E1 := Lib.hid e1; clear e1
    have ha2 := ha.below hb2
    clear ha
    rw [wnegS_no hok, wnegL_no hok]
    go_enter Try.func43, Try.ntmps43
    go_wp2_with fail
    refine (iWholeOk_eq _ _ _ _ zs _ HZ.out hn ha2 hok).mono ?_
    rintro e w1 ⟨rfl, hb⟩
    have hr1 := R0.below hb
    have hc1 := hr1.cell
    have hx1 := (X0.below hb).cell
    have hf1 : ∀ i, w1.frozen? ⟨w.heap.size + 1, i, none⟩ = false := fun i => (hb.frozen (p := ⟨w.heap.size + 1, i, none⟩) (by simp)).trans (by simp)
    go_wp2_with fail
    obtain ⟨_, g1, g2⟩ := set_two hr1
    refine bodyPost_ret (v := .agg #[.bool false, .slice none 0 0]) (by simp [results, Try.results43, go_sem, g1, g2]) rfl ?_
    exact ⟨none, 0, rfl, own_nil _ _ _ _, below_out (bl_step hb2 hb) (out_two _ _) (by omega)⟩
  · cases neg
    · exact iWholeNeg_pos b n c zs w hz hn ha hok
    · exact iWholeNeg_neg b n c zs w hz hn ha hok
end Go.Proofs.Ytmgdfefffgjddaa
