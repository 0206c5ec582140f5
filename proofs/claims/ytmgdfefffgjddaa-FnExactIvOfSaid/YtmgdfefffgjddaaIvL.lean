/-
  PROVED: the walk of the law on the interval of one number.
  CONDITIONS: none.
-/
import Derived.Test.YtmgdfefffgjddaaIv
namespace Go.Proofs.Ytmgdfefffgjddaa
open Go.ChangeShapes Go.WideShapes Go.ChangeAt Go.RowKit
set_option linter.unusedVariables false
theorem size_alloc'' (w : World) (o : Obj) : (w.alloc o).heap.size = w.heap.size + 1 := by simp
theorem ivL_len (neg : Bool) (zs : List Int) : (ivL neg zs).length ≤ zs.length := by unfold ivL; split <;> simp
set_option maxHeartbeats 2000000 in
theorem walkFnExactIvOf (a0 : Bool) (a1 : Option Addr) (len1 cap1 : Nat) (z1 : List Int) (w : World) (w1 : IsRow .i64 w a1 len1 cap1 z1) :
    Calls Try.prog 11 #[.agg #[.bool a0, .slice a1 len1 cap1]] w fun e w' => e = .returned (.bool true) ∧ Below w.heap.size w w' := by
  obtain ⟨r0, hz, hwf⟩ := w1.rowAt
  have hml := w1.len_le
  clear w1 hwf
  generalize z1.take len1 = zs at *
  have hnl0 := ivL_len a0 zs
  have HZ := Lib.hid hz; clear hz
  by_cases hsz : szB 1048576 len1 < 0
  · have B1 := Below.refl (w.alloc (.cells #[.bool a0, .slice a1 len1 cap1] 38)).heap.size (w.alloc (.cells #[.bool a0, .slice a1 len1 cap1] 38))
    go_enter Try.func11, Try.ntmps11
    go_wp2_with fail
    refine (szWhole_any _ _ _ _ _ _ hml (by omega) (by omega)).mono ?_
    rintro e w2 ⟨rfl, hb⟩
    go_wp2_with fail
    go_ret
    exact ⟨rfl, bl_step (bl_alloc _ _) (bl_step B1 hb)⟩
  · have hbig : len1 ≤ 1048576 := by have := (szB_fits hsz).1; omega
    have hnl : (ivL a0 zs).length ≤ 1048576 := by rw [HZ.out] at hnl0; omega
    clear hnl0
    have T := bl_alloc w (.cells #[.bool a0, .slice a1 len1 cap1] 38)
    have x_1 := BoxAt.new w #[.bool a0, .slice a1 len1 cap1] 38
    go_enter Try.func11, Try.ntmps11
    go_wp2_with fail
    refine (szWhole_any _ _ _ _ _ _ hml (by omega) (by omega)).mono ?_
    rintro e wv1 ⟨rfl, hb⟩
    have hs1 : _ ≤ wv1.heap.size := hb.size
    simp only [size_alloc''] at hs1
    replace x_1 := x_1.below hb
    replace T := bl_step T hb
    have c_1 := x_1.cell
    have l_1 := x_1.lt
    go_wp2_with fail
    refine (toWhole_own _ _ _ _ zs _ HZ.out hbig (r0.below T)).mono ?_
    rintro e wv2 ⟨b1, c1, rfl, o_a, hb⟩
    have hs2 : _ ≤ wv2.heap.size := hb.size
    clear c_1 l_1
    replace x_1 := x_1.below hb
    replace T := bl_step T hb
    have c_1 := x_1.cell
    have l_1 := x_1.lt
    go_wp2_with fail
    refine (sIvOf_any _ _ _ _ zs _ HZ.out hbig o_a.row).mono ?_
    rintro e wv3 ⟨a4, c4, b4, d4, m4, rfl, hm4, hn4, o_4, o_4b, hb⟩
    have hs3 : _ ≤ wv3.heap.size := hb.size
    clear c_1 l_1
    replace x_1 := x_1.below hb
    replace T := bl_step T hb
    have c_1 := x_1.cell
    have l_1 := x_1.lt
    have hba4 := bl_alloc wv3 (.cells #[.bool (ivS a0 zs), .slice a4 (ivL a0 zs).length c4, .bool (ivS a0 zs), .slice b4 (ivL a0 zs).length d4] 64)
    clear c_1 l_1
    replace x_1 := x_1.below hba4
    replace o_4 := o_4.below hba4
    replace o_4b := o_4b.below hba4
    replace T := bl_step T hba4
    have x_4 := BoxAt.new wv3 #[.bool (ivS a0 zs), .slice a4 (ivL a0 zs).length c4, .bool (ivS a0 zs), .slice b4 (ivL a0 zs).length d4] 64
    clear hba4
    have c_1 := x_1.cell
    have l_1 := x_1.lt
    have c_4 := x_4.cell
    have l_4 := x_4.lt
    go_wp2_with fail
    refine (toWhole_own _ _ _ _ zs _ HZ.out hbig (r0.below T)).mono ?_
    rintro e wv5 ⟨b5, c5, rfl, o_5, hb⟩
    have hs5 : _ ≤ wv5.heap.size := hb.size
    simp only [size_alloc''] at hs5
    clear c_1 l_1 c_4 l_4
    replace x_1 := x_1.below hb
    replace x_4 := x_4.below hb
    replace o_4 := o_4.below hb
    replace o_4b := o_4b.below hb
    replace T := bl_step T hb
    have c_1 := x_1.cell
    have l_1 := x_1.lt
    have c_4 := x_4.cell
    have l_4 := x_4.lt
    replace o_5 := o_5.wide (lo' := wv3.heap.size + 1) (hi' := wv5.heap.size) (by simp) (Nat.le_refl _)
    have hba6 := bl_alloc wv5 (.cells #[.bool a0, .slice (some ⟨b5, 0, none⟩) len1 c5] 41)
    clear c_1 l_1 c_4 l_4
    replace x_1 := x_1.below hba6
    replace x_4 := x_4.below hba6
    replace o_4 := o_4.below hba6
    replace o_4b := o_4b.below hba6
    replace o_5 := o_5.below hba6
    replace T := bl_step T hba6
    have x_5 := BoxAt.new wv5 #[.bool a0, .slice (some ⟨b5, 0, none⟩) len1 c5] 41
    clear hba6
    have c_1 := x_1.cell
    have l_1 := x_1.lt
    have c_4 := x_4.cell
    have l_4 := x_4.lt
    have c_5 := x_5.cell
    have l_5 := x_5.lt
    go_wp2_with fail
    refine (iIvOf_any _ _ _ _ zs _ HZ.out hbig o_5.row).mono ?_
    rintro e wv7 ⟨a6, c6, b6, d6, m6, rfl, hm6, hn6, o_6, o_6b, hb⟩
    have hs7 : _ ≤ wv7.heap.size := hb.size
    simp only [size_alloc''] at hs7
    clear c_1 l_1 c_4 l_4 c_5 l_5
    replace x_1 := x_1.below hb
    replace x_4 := x_4.below hb
    replace x_5 := x_5.below hb
    replace o_4 := o_4.below hb
    replace o_4b := o_4b.below hb
    replace o_5 := o_5.below hb
    replace T := bl_step T hb
    have c_1 := x_1.cell
    have l_1 := x_1.lt
    have c_4 := x_4.cell
    have l_4 := x_4.lt
    have c_5 := x_5.cell
    have l_5 := x_5.lt
    simp only [size_alloc''] at hm6
    replace o_6 := o_6.wide (lo' := wv5.heap.size + 1) (hi' := m6) (by simp) (Nat.le_refl _)
    have hba8 := bl_alloc wv7 (.cells #[.bool (ivS a0 zs), .slice a6 (ivL a0 zs).length c6, .bool (ivS a0 zs), .slice b6 (ivL a0 zs).length d6] 64)
    clear c_1 l_1 c_4 l_4 c_5 l_5
    replace x_1 := x_1.below hba8
    replace x_4 := x_4.below hba8
    replace x_5 := x_5.below hba8
    replace o_4 := o_4.below hba8
    replace o_4b := o_4b.below hba8
    replace o_5 := o_5.below hba8
    replace o_6 := o_6.below hba8
    replace o_6b := o_6b.below hba8
    replace T := bl_step T hba8
    have x_6 := BoxAt.new wv7 #[.bool (ivS a0 zs), .slice a6 (ivL a0 zs).length c6, .bool (ivS a0 zs), .slice b6 (ivL a0 zs).length d6] 64
    clear hba8
    have c_1 := x_1.cell
    have l_1 := x_1.lt
    have c_4 := x_4.cell
    have l_4 := x_4.lt
    have c_5 := x_5.cell
    have l_5 := x_5.lt
    have c_6 := x_6.cell
    have l_6 := x_6.lt
    go_wp2_with fail
    refine (eqIv_eq _ _ _ _ _ _ _ _ _ _ (ivL a0 zs) _ rfl hnl o_6.row o_6b.row o_4.row o_4b.row).mono ?_
    rintro e wv9 ⟨rfl, hb⟩
    have hs9 : _ ≤ wv9.heap.size := hb.size
    simp only [size_alloc''] at hs9
    clear c_1 l_1 c_4 l_4 c_5 l_5 c_6 l_6
    replace x_1 := x_1.below hb
    replace x_4 := x_4.below hb
    replace x_5 := x_5.below hb
    replace x_6 := x_6.below hb
    replace o_4 := o_4.below hb
    replace o_4b := o_4b.below hb
    replace o_5 := o_5.below hb
    replace o_6 := o_6.below hb
    replace o_6b := o_6b.below hb
    replace T := bl_step T hb
    have c_1 := x_1.cell
    have l_1 := x_1.lt
    have c_4 := x_4.cell
    have l_4 := x_4.lt
    have c_5 := x_5.cell
    have l_5 := x_5.lt
    have c_6 := x_6.cell
    have l_6 := x_6.lt
    go_wp2_with fail
    have hb := bl_drew wv9
    clear c_1 l_1 c_4 l_4 c_5 l_5 c_6 l_6
    replace x_1 := x_1.below hb
    replace x_4 := x_4.below hb
    replace x_5 := x_5.below hb
    replace x_6 := x_6.below hb
    replace o_4 := o_4.below hb
    replace o_4b := o_4b.below hb
    replace o_5 := o_5.below hb
    replace o_6 := o_6.below hb
    replace o_6b := o_6b.below hb
    replace T := bl_step T hb
    have c_1 := x_1.cell
    have l_1 := x_1.lt
    have c_4 := x_4.cell
    have l_4 := x_4.lt
    have c_5 := x_5.cell
    have l_5 := x_5.lt
    have c_6 := x_6.cell
    have l_6 := x_6.lt
    have r0d := r0.below T
    have k0 : _ ∧ _ := ⟨x_5.two, x_1.two⟩
    go_region_held3 (fun w' => (w'.cell? ⟨wv5.heap.size, 0, none⟩ = some (.bool a0) ∧ w'.cell? ⟨wv5.heap.size, 1, none⟩ = some (.slice (some ⟨b5, 0, none⟩) len1 c5)) ∧ w'.cell? ⟨w.heap.size, 0, none⟩ = some (.bool a0) ∧ w'.cell? ⟨w.heap.size, 1, none⟩ = some (.slice a1 len1 cap1))
      (first | with_reducible exact k2 | with_reducible exact k1 | with_reducible exact k0)
      (first
      | (go_at_call 29; refine (toWhole_own _ _ _ _ zs _ HZ.out hbig r0d).mono ?_; rintro e wvA ⟨b7, c7, rfl, o_7, hb6⟩; have k1 : _ ∧ _ := ⟨(x_5.below hb6).two, (x_1.below hb6).two⟩)
      | (go_at_call 31; refine (eqWhole_eq _ _ _ _ _ _ zs _ HZ.out hbig (o_5.row.below hb6) o_7.row).mono ?_; rintro e wvB ⟨rfl, hb7⟩; have k2 : _ ∧ _ := ⟨(x_5.below (bl_step hb6 hb7)).two, (x_1.below (bl_step hb6 hb7)).two⟩))
    have hb := bl_step hb6 hb7
    have hsB := hb.size
    clear c_1 l_1 c_4 l_4 c_5 l_5 c_6 l_6
    replace x_1 := x_1.below hb
    replace x_4 := x_4.below hb
    replace x_5 := x_5.below hb
    replace x_6 := x_6.below hb
    replace o_4 := o_4.below hb
    replace o_4b := o_4b.below hb
    replace o_5 := o_5.below hb
    replace o_6 := o_6.below hb
    replace o_6b := o_6b.below hb
    replace T := bl_step T hb
    have c_1 := x_1.cell
    have l_1 := x_1.lt
    have c_4 := x_4.cell
    have l_4 := x_4.lt
    have c_5 := x_5.cell
    have l_5 := x_5.lt
    have c_6 := x_6.cell
    have l_6 := x_6.lt
    clear o_7 hb6 hb7 r0d k0 k1 k2
    go_wp2_with fail
    refine (markWhole_any _ _ _ _ _ zs _ _ _ HZ.out (by omega) (by omega) (by omega) o_5).mono ?_
    rintro e wv10 ⟨rfl, o_5', ho⟩
    clear c_1 l_1 c_4 l_4 c_5 l_5 c_6 l_6
    replace x_1 := x_1.out ho (by omega)
    replace x_4 := x_4.out ho (by omega)
    replace x_5 := x_5.out ho (by omega)
    replace x_6 := x_6.out ho (by omega)
    replace o_4 := o_4.out ho (by omega)
    replace o_4b := o_4b.out ho (by omega)
    replace o_6 := o_6.out ho (by omega)
    replace o_6b := o_6b.out ho (by omega)
    replace T := below_out T ho (by omega)
    have hs10 := ho.size
    have c_1 := x_1.cell
    have l_1 := x_1.lt
    have c_4 := x_4.cell
    have l_4 := x_4.lt
    have c_5 := x_5.cell
    have l_5 := x_5.lt
    have c_6 := x_6.cell
    have l_6 := x_6.lt
    clear o_5
    go_wp2_with fail
    refine (eqIv_eq _ _ _ _ _ _ _ _ _ _ (ivL a0 zs) _ rfl hnl o_6.row o_6b.row o_4.row o_4b.row).mono ?_
    rintro e wv11 ⟨rfl, hb⟩
    have hs11 : _ ≤ wv11.heap.size := hb.size
    clear c_1 l_1 c_4 l_4 c_5 l_5 c_6 l_6
    replace x_1 := x_1.below hb
    replace x_4 := x_4.below hb
    replace x_5 := x_5.below hb
    replace x_6 := x_6.below hb
    replace o_4 := o_4.below hb
    replace o_4b := o_4b.below hb
    replace o_6 := o_6.below hb
    replace o_6b := o_6b.below hb
    replace T := bl_step T hb
    have c_1 := x_1.cell
    have l_1 := x_1.lt
    have c_4 := x_4.cell
    have l_4 := x_4.lt
    have c_5 := x_5.cell
    have l_5 := x_5.lt
    have c_6 := x_6.cell
    have l_6 := x_6.lt
    go_wp2_with fail
    refine (markIv_any _ _ _ _ _ _ _ (ivL a0 zs) _ _ _ _ rfl hnl (by omega) (by omega) hm6 hn6 o_6 o_6b (by omega)).mono ?_
    rintro e wv12 ⟨rfl, o_6', o_6b', ho⟩
    clear c_1 l_1 c_4 l_4 c_5 l_5 c_6 l_6
    replace x_1 := x_1.out ho (by omega)
    replace x_4 := x_4.out ho (by omega)
    replace x_5 := x_5.out ho (by omega)
    replace x_6 := x_6.out ho (by omega)
    replace o_4 := o_4.out ho (by omega)
    replace o_4b := o_4b.out ho (by omega)
    replace T := below_out T ho (by omega)
    have hs12 := ho.size
    have c_1 := x_1.cell
    have l_1 := x_1.lt
    have c_4 := x_4.cell
    have l_4 := x_4.lt
    have c_5 := x_5.cell
    have l_5 := x_5.lt
    have c_6 := x_6.cell
    have l_6 := x_6.lt
    replace o_6 := o_6'
    replace o_6b := o_6b'
    go_wp2_with fail
    refine (heldIv_any _ _ _ _ _ _ _ _ hnl (by omega) (by omega) o_6.row o_6b.row).mono ?_
    rintro e wv13 ⟨rfl, hb⟩
    have hs13 : _ ≤ wv13.heap.size := hb.size
    clear c_1 l_1 c_4 l_4 c_5 l_5 c_6 l_6
    replace x_1 := x_1.below hb
    replace x_4 := x_4.below hb
    replace x_5 := x_5.below hb
    replace x_6 := x_6.below hb
    replace o_4 := o_4.below hb
    replace o_4b := o_4b.below hb
    replace o_6 := o_6.below hb
    replace o_6b := o_6b.below hb
    replace T := bl_step T hb
    have c_1 := x_1.cell
    have l_1 := x_1.lt
    have c_4 := x_4.cell
    have l_4 := x_4.lt
    have c_5 := x_5.cell
    have l_5 := x_5.lt
    have c_6 := x_6.cell
    have l_6 := x_6.lt
    go_wp2_with fail
    refine (toWhole_own _ _ _ _ zs _ HZ.out hbig (r0.below T)).mono ?_
    rintro e wv14 ⟨b8, c8, rfl, o_8, hb⟩
    have hs14 : _ ≤ wv14.heap.size := hb.size
    clear c_1 l_1 c_4 l_4 c_5 l_5 c_6 l_6
    replace x_1 := x_1.below hb
    replace x_4 := x_4.below hb
    replace x_5 := x_5.below hb
    replace x_6 := x_6.below hb
    replace o_4 := o_4.below hb
    replace o_4b := o_4b.below hb
    replace o_6 := o_6.below hb
    replace o_6b := o_6b.below hb
    replace T := bl_step T hb
    have c_1 := x_1.cell
    have l_1 := x_1.lt
    have c_4 := x_4.cell
    have l_4 := x_4.lt
    have c_5 := x_5.cell
    have l_5 := x_5.lt
    have c_6 := x_6.cell
    have l_6 := x_6.lt
    go_wp2_with fail
    refine (iIvOf_any _ _ _ _ zs _ HZ.out hbig o_8.row).mono ?_
    rintro e wv15 ⟨a9, c9, b9, d9, m9, rfl, hm9, hn9, o_9, o_9b, hb⟩
    have hs15 : _ ≤ wv15.heap.size := hb.size
    clear c_1 l_1 c_4 l_4 c_5 l_5 c_6 l_6
    replace x_1 := x_1.below hb
    replace x_4 := x_4.below hb
    replace x_5 := x_5.below hb
    replace x_6 := x_6.below hb
    replace o_4 := o_4.below hb
    replace o_4b := o_4b.below hb
    replace o_6 := o_6.below hb
    replace o_6b := o_6b.below hb
    replace T := bl_step T hb
    have c_1 := x_1.cell
    have l_1 := x_1.lt
    have c_4 := x_4.cell
    have l_4 := x_4.lt
    have c_5 := x_5.cell
    have l_5 := x_5.lt
    have c_6 := x_6.cell
    have l_6 := x_6.lt
    clear o_8
    have hba16 := bl_alloc wv15 (.cells #[.bool (ivS a0 zs), .slice a9 (ivL a0 zs).length c9, .bool (ivS a0 zs), .slice b9 (ivL a0 zs).length d9] 64)
    clear c_1 l_1 c_4 l_4 c_5 l_5 c_6 l_6
    replace x_1 := x_1.below hba16
    replace x_4 := x_4.below hba16
    replace x_5 := x_5.below hba16
    replace x_6 := x_6.below hba16
    replace o_4 := o_4.below hba16
    replace o_4b := o_4b.below hba16
    replace o_6 := o_6.below hba16
    replace o_6b := o_6b.below hba16
    replace o_9 := o_9.below hba16
    replace o_9b := o_9b.below hba16
    replace T := bl_step T hba16
    have x_9 := BoxAt.new wv15 #[.bool (ivS a0 zs), .slice a9 (ivL a0 zs).length c9, .bool (ivS a0 zs), .slice b9 (ivL a0 zs).length d9] 64
    clear hba16
    have c_1 := x_1.cell
    have l_1 := x_1.lt
    have c_4 := x_4.cell
    have l_4 := x_4.lt
    have c_5 := x_5.cell
    have l_5 := x_5.lt
    have c_6 := x_6.cell
    have l_6 := x_6.lt
    have c_9 := x_9.cell
    have l_9 := x_9.lt
    go_wp2_with fail
    refine (eqIv_eq _ _ _ _ _ _ _ _ _ _ (ivL a0 zs) _ rfl hnl o_9.row o_9b.row o_4.row o_4b.row).mono ?_
    rintro e wv17 ⟨rfl, hb⟩
    have hs17 : _ ≤ wv17.heap.size := hb.size
    simp only [size_alloc''] at hs17
    clear c_1 l_1 c_4 l_4 c_5 l_5 c_6 l_6 c_9 l_9
    replace x_1 := x_1.below hb
    replace x_4 := x_4.below hb
    replace x_5 := x_5.below hb
    replace x_6 := x_6.below hb
    replace x_9 := x_9.below hb
    replace o_4 := o_4.below hb
    replace o_4b := o_4b.below hb
    replace o_6 := o_6.below hb
    replace o_6b := o_6b.below hb
    replace o_9 := o_9.below hb
    replace o_9b := o_9b.below hb
    replace T := bl_step T hb
    have c_1 := x_1.cell
    have l_1 := x_1.lt
    have c_4 := x_4.cell
    have l_4 := x_4.lt
    have c_5 := x_5.cell
    have l_5 := x_5.lt
    have c_6 := x_6.cell
    have l_6 := x_6.lt
    have c_9 := x_9.cell
    have l_9 := x_9.lt
    go_wp2_with fail
    refine (heldIv_any _ _ _ _ _ _ _ _ hnl (by omega) (by omega) o_6.row o_6b.row).mono ?_
    rintro e wv18 ⟨rfl, hb⟩
    have hs18 : _ ≤ wv18.heap.size := hb.size
    clear c_1 l_1 c_4 l_4 c_5 l_5 c_6 l_6 c_9 l_9
    replace x_1 := x_1.below hb
    replace x_4 := x_4.below hb
    replace x_5 := x_5.below hb
    replace x_6 := x_6.below hb
    replace x_9 := x_9.below hb
    replace o_4 := o_4.below hb
    replace o_4b := o_4b.below hb
    replace o_6 := o_6.below hb
    replace o_6b := o_6b.below hb
    replace o_9 := o_9.below hb
    replace o_9b := o_9b.below hb
    replace T := bl_step T hb
    have c_1 := x_1.cell
    have l_1 := x_1.lt
    have c_4 := x_4.cell
    have l_4 := x_4.lt
    have c_5 := x_5.cell
    have l_5 := x_5.lt
    have c_6 := x_6.cell
    have l_6 := x_6.lt
    have c_9 := x_9.cell
    have l_9 := x_9.lt
    go_wp2_with fail
    go_ret
    exact ⟨rfl, T⟩
end Go.Proofs.Ytmgdfefffgjddaa
