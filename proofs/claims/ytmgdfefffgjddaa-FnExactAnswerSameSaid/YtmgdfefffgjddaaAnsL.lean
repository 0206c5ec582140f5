/-
  PROVED: the walk of the law on the sameness of answers.
  CONDITIONS: none.
-/
import Derived.Test.YtmgdfefffgjddaaAns
import Derived.Deep.RegionHeld3
namespace Go.Proofs.Ytmgdfefffgjddaa
open Go.ChangeShapes Go.WideShapes Go.ChangeAt Go.RowKit
set_option linter.unusedVariables false
theorem size_allocA (w : World) (o : Obj) : (w.alloc o).heap.size = w.heap.size + 1 := by simp
theorem BoxAt.six {w : World} {b : Nat} {c0 c1 c2 c3 c4 c5 : Value} (h : BoxAt w b #[c0, c1, c2, c3, c4, c5]) : w.cell? ⟨b, 0, none⟩ = some c0 ∧ w.cell? ⟨b, 1, none⟩ = some c1 ∧ w.cell? ⟨b, 2, none⟩ = some c2 ∧ w.cell? ⟨b, 3, none⟩ = some c3 ∧ w.cell? ⟨b, 4, none⟩ = some c4 ∧ w.cell? ⟨b, 5, none⟩ = some c5 :=
  ⟨h.cell 0, h.cell 1, h.cell 2, h.cell 3, h.cell 4, h.cell 5⟩
theorem eqAnswer_eq (c v x s : Int) (t : ByteArray) (a b : Option Addr) (n ca cb : Nat) (zs : List Int) (w : World) (hz : zs.length = n) (hn : n ≤ 1048576) (ha : RowAt .u8 w a zs) (hb : RowAt .u8 w b zs) :
    Calls Try.prog 36 #[.agg #[.int .i64 c, .int .i64 v, .int .i64 x, .int .i64 s, .string t, .slice a n ca], .agg #[.int .i64 c, .int .i64 v, .int .i64 x, .int .i64 s, .string t, .slice b n cb]] w fun e w' => e = .returned (.bool true) ∧ Below w.heap.size w w' := by
  have := eqAnswer_any c v x s t a n ca zs c v x s t b n cb zs w hz hz hn hn ha hb
  rw [ansSameB_refl] at this
  exact this
set_option maxHeartbeats 8000000 in
theorem walkFnExactAnswerSame (a0 : Int) (a1 : Int) (a2 : Int) (a3 : Int) (a4 : ByteArray) (a5 : Option Addr) (len5 cap5 : Nat) (z5 : List Int) (a6 : Int) (a7 : Int) (a8 : Int) (a9 : Int) (a10 : ByteArray) (a11 : Option Addr) (len11 cap11 : Nat) (z11 : List Int) (w : World) (w0 : (Lit.int .i64 a0).wf = true) (w1 : (Lit.int .i64 a1).wf = true) (w2 : (Lit.int .i64 a2).wf = true) (w3 : (Lit.int .i64 a3).wf = true) (w4 : a4.size ≤ maxLen) (w5 : IsRow .u8 w a5 len5 cap5 z5) (w6 : (Lit.int .i64 a6).wf = true) (w7 : (Lit.int .i64 a7).wf = true) (w8 : (Lit.int .i64 a8).wf = true) (w9 : (Lit.int .i64 a9).wf = true) (w10 : a10.size ≤ maxLen) (w11 : IsRow .u8 w a11 len11 cap11 z11) :
    Calls Try.prog 8 #[.agg #[.int .i64 a0, .int .i64 a1, .int .i64 a2, .int .i64 a3, .string a4, .slice a5 len5 cap5], .agg #[.int .i64 a6, .int .i64 a7, .int .i64 a8, .int .i64 a9, .string a10, .slice a11 len11 cap11]] w fun e w' => e = .returned (.bool true) ∧ Below w.heap.size w w' := by
  obtain ⟨r0, hz, hwf⟩ := w5.rowAt
  obtain ⟨s0, hy, hwf2⟩ := w11.rowAt
  have hml5 := w5.len_le
  have hml11 := w11.len_le
  have h8 : ∀ z ∈ z5.take len5, 0 ≤ z ∧ z ≤ 255 := fun z hz => bounds_u8 (hwf z hz)
  have h8' : ∀ z ∈ z11.take len11, 0 ≤ z ∧ z ≤ 255 := fun z hz => bounds_u8 (hwf2 z hz)
  clear w0 w1 w2 w3 w5 w6 w7 w8 w9 w11 hwf hwf2
  generalize z5.take len5 = zs at *
  generalize z11.take len11 = ys at *
  have HZ := Lib.hid hz; clear hz
  have HY := Lib.hid hy; clear hy
  have H8 := Lib.hid h8; clear h8
  have H8' := Lib.hid h8'; clear h8'
  by_cases hsz : szAn 1048576 a4.size len5 < 0
  · generalize hl : szAn 1048576 a4.size len5 = l1 at *
    have HL := Lib.hid hl; clear hl
    have T := bl_alloc w (.cells #[.int .i64 a0, .int .i64 a1, .int .i64 a2, .int .i64 a3, .string a4, .slice a5 len5 cap5] 46)
    have x_1 := BoxAt.new w #[.int .i64 a0, .int .i64 a1, .int .i64 a2, .int .i64 a3, .string a4, .slice a5 len5 cap5] 46
    have hba := bl_alloc (w.alloc (.cells #[.int .i64 a0, .int .i64 a1, .int .i64 a2, .int .i64 a3, .string a4, .slice a5 len5 cap5] 46)) (.cells #[.int .i64 a6, .int .i64 a7, .int .i64 a8, .int .i64 a9, .string a10, .slice a11 len11 cap11] 46)
    have x_2 := BoxAt.new_at (w.alloc (.cells #[.int .i64 a0, .int .i64 a1, .int .i64 a2, .int .i64 a3, .string a4, .slice a5 len5 cap5] 46)) #[.int .i64 a6, .int .i64 a7, .int .i64 a8, .int .i64 a9, .string a10, .slice a11 len11 cap11] 46 (n := w.heap.size + 1) (by simp)
    replace T := bl_step T hba
    replace x_1 := x_1.below hba
    clear hba
    go_enter Try.func8, Try.ntmps8
    go_wp2_with fail
    refine (szAnswer_any _ _ _ _ _ _ _ _ _ _ w4 hml5 (by omega) (by omega)).mono ?_
    rintro e wv1 ⟨rfl, hb⟩
    have hs1 : _ ≤ wv1.heap.size := hb.size
    simp only [size_allocA] at hs1
    replace x_1 := x_1.below hb
    replace x_2 := x_2.below hb
    replace T := bl_step T hb
    have c_1 := x_1.cell
    have l_1 := x_1.lt
    have c_2 := x_2.cell
    have l_2 := x_2.lt
    rw [HL.out]
    go_wp2_with fail
    go_ret
    exact ⟨rfl, T⟩
  · obtain ⟨f1, f2, f3⟩ := szAn_fits hsz
    have hb5 : len5 ≤ 1048576 := by omega
    generalize hl : szAn 1048576 a4.size len5 = l1 at *
    have HL := Lib.hid hl; clear hl
    have hl0 : 0 ≤ l1 := by omega
    have hl1 : l1 ≤ 1048576 := by omega
    clear f1 f2 f3
    by_cases hsz2 : szAn l1 a10.size len11 < 0
    · generalize hl : szAn l1 a10.size len11 = l2 at *
      have HL2 := Lib.hid hl; clear hl
      have T := bl_alloc w (.cells #[.int .i64 a0, .int .i64 a1, .int .i64 a2, .int .i64 a3, .string a4, .slice a5 len5 cap5] 46)
      have x_1 := BoxAt.new w #[.int .i64 a0, .int .i64 a1, .int .i64 a2, .int .i64 a3, .string a4, .slice a5 len5 cap5] 46
      have hba := bl_alloc (w.alloc (.cells #[.int .i64 a0, .int .i64 a1, .int .i64 a2, .int .i64 a3, .string a4, .slice a5 len5 cap5] 46)) (.cells #[.int .i64 a6, .int .i64 a7, .int .i64 a8, .int .i64 a9, .string a10, .slice a11 len11 cap11] 46)
      have x_2 := BoxAt.new_at (w.alloc (.cells #[.int .i64 a0, .int .i64 a1, .int .i64 a2, .int .i64 a3, .string a4, .slice a5 len5 cap5] 46)) #[.int .i64 a6, .int .i64 a7, .int .i64 a8, .int .i64 a9, .string a10, .slice a11 len11 cap11] 46 (n := w.heap.size + 1) (by simp)
      replace T := bl_step T hba
      replace x_1 := x_1.below hba
      clear hba
      go_enter Try.func8, Try.ntmps8
      go_wp2_with fail
      refine (szAnswer_any _ _ _ _ _ _ _ _ _ _ w4 hml5 (by omega) (by omega)).mono ?_
      rintro e wv1 ⟨rfl, hb⟩
      have hs1 : _ ≤ wv1.heap.size := hb.size
      simp only [size_allocA] at hs1
      replace x_1 := x_1.below hb
      replace x_2 := x_2.below hb
      replace T := bl_step T hb
      have c_1 := x_1.cell
      have l_1 := x_1.lt
      have c_2 := x_2.cell
      have l_2 := x_2.lt
      rw [HL.out]
      go_wp2_with fail
      refine (szAnswer_any _ _ _ _ _ _ _ _ _ _ w10 hml11 hl0 hl1).mono ?_
      rintro e wv2 ⟨rfl, hb⟩
      have hs2 : _ ≤ wv2.heap.size := hb.size
      clear c_1 l_1 c_2 l_2
      replace x_1 := x_1.below hb
      replace x_2 := x_2.below hb
      replace T := bl_step T hb
      have c_1 := x_1.cell
      have l_1 := x_1.lt
      have c_2 := x_2.cell
      have l_2 := x_2.lt
      rw [HL2.out]
      go_wp2_with fail
      go_ret
      exact ⟨rfl, T⟩
    · obtain ⟨f1, f2, f3⟩ := szAn_fits hsz2
      have hb11 : len11 ≤ 1048576 := by omega
      generalize hl : szAn l1 a10.size len11 = l2 at *
      have HL2 := Lib.hid hl; clear hl
      clear f1 f2 f3
      generalize hbb : ansSameB a0 a1 a2 a3 a4 zs a6 a7 a8 a9 a10 ys = bb at *
      have HBB := Lib.hid hbb; clear hbb
      have hne : (bb != bb) = false := by cases bb <;> rfl
      have T := bl_alloc w (.cells #[.int .i64 a0, .int .i64 a1, .int .i64 a2, .int .i64 a3, .string a4, .slice a5 len5 cap5] 46)
      have x_1 := BoxAt.new w #[.int .i64 a0, .int .i64 a1, .int .i64 a2, .int .i64 a3, .string a4, .slice a5 len5 cap5] 46
      have hba := bl_alloc (w.alloc (.cells #[.int .i64 a0, .int .i64 a1, .int .i64 a2, .int .i64 a3, .string a4, .slice a5 len5 cap5] 46)) (.cells #[.int .i64 a6, .int .i64 a7, .int .i64 a8, .int .i64 a9, .string a10, .slice a11 len11 cap11] 46)
      have x_2 := BoxAt.new_at (w.alloc (.cells #[.int .i64 a0, .int .i64 a1, .int .i64 a2, .int .i64 a3, .string a4, .slice a5 len5 cap5] 46)) #[.int .i64 a6, .int .i64 a7, .int .i64 a8, .int .i64 a9, .string a10, .slice a11 len11 cap11] 46 (n := w.heap.size + 1) (by simp)
      replace T := bl_step T hba
      replace x_1 := x_1.below hba
      clear hba
      go_enter Try.func8, Try.ntmps8
      go_wp2_with fail
      refine (szAnswer_any _ _ _ _ _ _ _ _ _ _ w4 hml5 (by omega) (by omega)).mono ?_
      rintro e wv1 ⟨rfl, hb⟩
      have hs1 : _ ≤ wv1.heap.size := hb.size
      simp only [size_allocA] at hs1
      replace x_1 := x_1.below hb
      replace x_2 := x_2.below hb
      replace T := bl_step T hb
      have c_1 := x_1.cell
      have l_1 := x_1.lt
      have c_2 := x_2.cell
      have l_2 := x_2.lt
      rw [HL.out]
      go_wp2_with fail
      refine (szAnswer_any _ _ _ _ _ _ _ _ _ _ w10 hml11 hl0 hl1).mono ?_
      rintro e wv2 ⟨rfl, hb⟩
      have hs2 : _ ≤ wv2.heap.size := hb.size
      clear c_1 l_1 c_2 l_2
      replace x_1 := x_1.below hb
      replace x_2 := x_2.below hb
      replace T := bl_step T hb
      have c_1 := x_1.cell
      have l_1 := x_1.lt
      have c_2 := x_2.cell
      have l_2 := x_2.lt
      rw [HL2.out]
      go_wp2_with fail
      have hb := bl_drew wv2
      clear c_1 l_1 c_2 l_2
      replace x_1 := x_1.below hb
      replace x_2 := x_2.below hb
      replace T := bl_step T hb
      have r0d := r0.below T
      have s0d := s0.below T
      have k0 : _ ∧ _ := ⟨x_1.six, x_2.six⟩
      go_region_held3 (fun w' => (w'.cell? ⟨w.heap.size, 0, none⟩ = some (.int .i64 a0) ∧ w'.cell? ⟨w.heap.size, 1, none⟩ = some (.int .i64 a1) ∧ w'.cell? ⟨w.heap.size, 2, none⟩ = some (.int .i64 a2) ∧ w'.cell? ⟨w.heap.size, 3, none⟩ = some (.int .i64 a3) ∧ w'.cell? ⟨w.heap.size, 4, none⟩ = some (.string a4) ∧ w'.cell? ⟨w.heap.size, 5, none⟩ = some (.slice a5 len5 cap5)) ∧ (w'.cell? ⟨w.heap.size + 1, 0, none⟩ = some (.int .i64 a6) ∧ w'.cell? ⟨w.heap.size + 1, 1, none⟩ = some (.int .i64 a7) ∧ w'.cell? ⟨w.heap.size + 1, 2, none⟩ = some (.int .i64 a8) ∧ w'.cell? ⟨w.heap.size + 1, 3, none⟩ = some (.int .i64 a9) ∧ w'.cell? ⟨w.heap.size + 1, 4, none⟩ = some (.string a10) ∧ w'.cell? ⟨w.heap.size + 1, 5, none⟩ = some (.slice a11 len11 cap11)))
        (first | with_reducible exact k3 | with_reducible exact k2 | with_reducible exact k1 | with_reducible exact k0)
        (first
        | (go_at_call 34; refine (toAnswer_any a6 _ _ _ _ a11 _ _ ys _ HY.out hb11 (s0d.below hbA)).mono ?_; rintro e wvC ⟨P2, rfl, rB, hbB⟩; have k2 : _ ∧ _ := ⟨((x_1.below hbA).below hbB).six, ((x_2.below hbA).below hbB).six⟩)
        | (go_at_call 33; refine (sAnswerSame_any _ _ _ _ _ _ _ _ zs _ _ _ _ _ _ _ _ ys _ HZ.out HY.out hb5 hb11 (rA.below hbB) rB H8.out H8'.out).mono ?_; rintro e wvD ⟨rfl, hbC⟩; have k3 : _ ∧ _ := ⟨(((x_1.below hbA).below hbB).below hbC).six, (((x_2.below hbA).below hbB).below hbC).six⟩)
        | (go_at_call 34; refine (toAnswer_any a0 _ _ _ _ a5 _ _ zs _ HZ.out hb5 r0d).mono ?_; rintro e wvA ⟨P1, rfl, rA, hbA⟩; have k1 : _ ∧ _ := ⟨(x_1.below hbA).six, (x_2.below hbA).six⟩))
      rw [HBB.out]
      have hb := bl_step (bl_step hbA hbB) hbC
      replace x_1 := x_1.below hb
      replace x_2 := x_2.below hb
      replace T := bl_step T hb
      have c_1 := x_1.cell
      have l_1 := x_1.lt
      have c_2 := x_2.cell
      have l_2 := x_2.lt
      clear rA rB hbA hbB hbC r0d s0d k0 k1 k2 k3
      go_wp2_with fail
      refine (toAnswer_any _ _ _ _ _ _ _ _ zs _ HZ.out hb5 (r0.below T)).mono ?_
      rintro e wv3 ⟨B3, rfl, o_3, hb⟩
      have hs3 : _ ≤ wv3.heap.size := hb.size
      clear c_1 l_1 c_2 l_2
      replace x_1 := x_1.below hb
      replace x_2 := x_2.below hb
      replace T := bl_step T hb
      have c_1 := x_1.cell
      have l_1 := x_1.lt
      have c_2 := x_2.cell
      have l_2 := x_2.lt
      have hba4 := bl_alloc wv3 (.cells #[.int .i64 a0, .int .i64 a1, .int .i64 a2, .int .i64 a3, .string a4, .slice (some ⟨B3, 0, none⟩) len5 len5] 49)
      clear c_1 l_1 c_2 l_2
      replace x_1 := x_1.below hba4
      replace x_2 := x_2.below hba4
      replace o_3 := o_3.below hba4
      replace T := bl_step T hba4
      have x_3 := BoxAt.new wv3 #[.int .i64 a0, .int .i64 a1, .int .i64 a2, .int .i64 a3, .string a4, .slice (some ⟨B3, 0, none⟩) len5 len5] 49
      clear hba4
      have c_1 := x_1.cell
      have l_1 := x_1.lt
      have c_2 := x_2.cell
      have l_2 := x_2.lt
      have c_3 := x_3.cell
      have l_3 := x_3.lt
      go_wp2_with fail
      refine (toAnswer_any _ _ _ _ _ _ _ _ ys _ HY.out hb11 (s0.below T)).mono ?_
      rintro e wv5 ⟨B4, rfl, o_4, hb⟩
      have hs5 : _ ≤ wv5.heap.size := hb.size
      simp only [size_allocA] at hs5
      clear c_1 l_1 c_2 l_2 c_3 l_3
      replace x_1 := x_1.below hb
      replace x_2 := x_2.below hb
      replace x_3 := x_3.below hb
      replace o_3 := o_3.below hb
      replace T := bl_step T hb
      have c_1 := x_1.cell
      have l_1 := x_1.lt
      have c_2 := x_2.cell
      have l_2 := x_2.lt
      have c_3 := x_3.cell
      have l_3 := x_3.lt
      have hba6 := bl_alloc wv5 (.cells #[.int .i64 a6, .int .i64 a7, .int .i64 a8, .int .i64 a9, .string a10, .slice (some ⟨B4, 0, none⟩) len11 len11] 49)
      clear c_1 l_1 c_2 l_2 c_3 l_3
      replace x_1 := x_1.below hba6
      replace x_2 := x_2.below hba6
      replace x_3 := x_3.below hba6
      replace o_3 := o_3.below hba6
      replace o_4 := o_4.below hba6
      replace T := bl_step T hba6
      have x_4 := BoxAt.new wv5 #[.int .i64 a6, .int .i64 a7, .int .i64 a8, .int .i64 a9, .string a10, .slice (some ⟨B4, 0, none⟩) len11 len11] 49
      clear hba6
      have c_1 := x_1.cell
      have l_1 := x_1.lt
      have c_2 := x_2.cell
      have l_2 := x_2.lt
      have c_3 := x_3.cell
      have l_3 := x_3.lt
      have c_4 := x_4.cell
      have l_4 := x_4.lt
      go_wp2_with fail
      refine (iAnswerSame_any _ _ _ _ _ _ _ _ zs _ _ _ _ _ _ _ _ ys _ HZ.out HY.out hb5 hb11 o_3 o_4).mono ?_
      rintro e wv7 ⟨rfl, hb⟩
      have hs7 : _ ≤ wv7.heap.size := hb.size
      simp only [size_allocA] at hs7
      clear c_1 l_1 c_2 l_2 c_3 l_3 c_4 l_4
      replace x_1 := x_1.below hb
      replace x_2 := x_2.below hb
      replace x_3 := x_3.below hb
      replace x_4 := x_4.below hb
      replace o_3 := o_3.below hb
      replace o_4 := o_4.below hb
      replace T := bl_step T hb
      have c_1 := x_1.cell
      have l_1 := x_1.lt
      have c_2 := x_2.cell
      have l_2 := x_2.lt
      have c_3 := x_3.cell
      have l_3 := x_3.lt
      have c_4 := x_4.cell
      have l_4 := x_4.lt
      rw [HBB.out]
      go_wp2_with fail
      have hb := bl_drew wv7
      clear c_1 l_1 c_2 l_2 c_3 l_3 c_4 l_4
      replace x_1 := x_1.below hb
      replace x_2 := x_2.below hb
      replace x_3 := x_3.below hb
      replace x_4 := x_4.below hb
      replace o_3 := o_3.below hb
      replace o_4 := o_4.below hb
      replace T := bl_step T hb
      have rd := r0.below T
      have k0 : _ ∧ _ := ⟨x_3.six, x_1.six⟩
      go_region_held3 (fun w' => (w'.cell? ⟨wv3.heap.size, 0, none⟩ = some (.int .i64 a0) ∧ w'.cell? ⟨wv3.heap.size, 1, none⟩ = some (.int .i64 a1) ∧ w'.cell? ⟨wv3.heap.size, 2, none⟩ = some (.int .i64 a2) ∧ w'.cell? ⟨wv3.heap.size, 3, none⟩ = some (.int .i64 a3) ∧ w'.cell? ⟨wv3.heap.size, 4, none⟩ = some (.string a4) ∧ w'.cell? ⟨wv3.heap.size, 5, none⟩ = some (.slice (some ⟨B3, 0, none⟩) len5 len5)) ∧ (w'.cell? ⟨w.heap.size, 0, none⟩ = some (.int .i64 a0) ∧ w'.cell? ⟨w.heap.size, 1, none⟩ = some (.int .i64 a1) ∧ w'.cell? ⟨w.heap.size, 2, none⟩ = some (.int .i64 a2) ∧ w'.cell? ⟨w.heap.size, 3, none⟩ = some (.int .i64 a3) ∧ w'.cell? ⟨w.heap.size, 4, none⟩ = some (.string a4) ∧ w'.cell? ⟨w.heap.size, 5, none⟩ = some (.slice a5 len5 cap5)))
        (first | with_reducible exact k2 | with_reducible exact k1 | with_reducible exact k0)
        (first
        | (go_at_call 34; refine (toAnswer_any _ _ _ _ _ _ _ _ zs _ HZ.out hb5 rd).mono ?_; rintro e wvE1 ⟨P5, rfl, rA, hbA⟩; have k1 : _ ∧ _ := ⟨(x_3.below hbA).six, (x_1.below hbA).six⟩)
        | (go_at_call 36; refine (eqAnswer_eq _ _ _ _ _ _ _ _ _ _ zs _ HZ.out hb5 (o_3.below hbA) rA).mono ?_; rintro e wvF1 ⟨rfl, hbB⟩; have k2 : _ ∧ _ := ⟨((x_3.below hbA).below hbB).six, ((x_1.below hbA).below hbB).six⟩))
      have hb := bl_step hbA hbB
      replace x_1 := x_1.below hb
      replace x_2 := x_2.below hb
      replace x_3 := x_3.below hb
      replace x_4 := x_4.below hb
      replace o_3 := o_3.below hb
      replace o_4 := o_4.below hb
      replace T := bl_step T hb
      have c_1 := x_1.cell
      have l_1 := x_1.lt
      have c_2 := x_2.cell
      have l_2 := x_2.lt
      have c_3 := x_3.cell
      have l_3 := x_3.lt
      have c_4 := x_4.cell
      have l_4 := x_4.lt
      clear rA hbA hbB rd k0 k1 k2
      go_wp2_with fail
      have hb := bl_drew wvF1
      clear c_1 l_1 c_2 l_2 c_3 l_3 c_4 l_4
      replace x_1 := x_1.below hb
      replace x_2 := x_2.below hb
      replace x_3 := x_3.below hb
      replace x_4 := x_4.below hb
      replace o_3 := o_3.below hb
      replace o_4 := o_4.below hb
      replace T := bl_step T hb
      have rd := s0.below T
      have k0 : _ ∧ _ := ⟨x_4.six, x_2.six⟩
      go_region_held3 (fun w' => (w'.cell? ⟨wv5.heap.size, 0, none⟩ = some (.int .i64 a6) ∧ w'.cell? ⟨wv5.heap.size, 1, none⟩ = some (.int .i64 a7) ∧ w'.cell? ⟨wv5.heap.size, 2, none⟩ = some (.int .i64 a8) ∧ w'.cell? ⟨wv5.heap.size, 3, none⟩ = some (.int .i64 a9) ∧ w'.cell? ⟨wv5.heap.size, 4, none⟩ = some (.string a10) ∧ w'.cell? ⟨wv5.heap.size, 5, none⟩ = some (.slice (some ⟨B4, 0, none⟩) len11 len11)) ∧ (w'.cell? ⟨w.heap.size + 1, 0, none⟩ = some (.int .i64 a6) ∧ w'.cell? ⟨w.heap.size + 1, 1, none⟩ = some (.int .i64 a7) ∧ w'.cell? ⟨w.heap.size + 1, 2, none⟩ = some (.int .i64 a8) ∧ w'.cell? ⟨w.heap.size + 1, 3, none⟩ = some (.int .i64 a9) ∧ w'.cell? ⟨w.heap.size + 1, 4, none⟩ = some (.string a10) ∧ w'.cell? ⟨w.heap.size + 1, 5, none⟩ = some (.slice a11 len11 cap11)))
        (first | with_reducible exact k2 | with_reducible exact k1 | with_reducible exact k0)
        (first
        | (go_at_call 34; refine (toAnswer_any _ _ _ _ _ _ _ _ ys _ HY.out hb11 rd).mono ?_; rintro e wvE2 ⟨P5, rfl, rA, hbA⟩; have k1 : _ ∧ _ := ⟨(x_4.below hbA).six, (x_2.below hbA).six⟩)
        | (go_at_call 36; refine (eqAnswer_eq _ _ _ _ _ _ _ _ _ _ ys _ HY.out hb11 (o_4.below hbA) rA).mono ?_; rintro e wvF2 ⟨rfl, hbB⟩; have k2 : _ ∧ _ := ⟨((x_4.below hbA).below hbB).six, ((x_2.below hbA).below hbB).six⟩))
      have hb := bl_step hbA hbB
      replace x_1 := x_1.below hb
      replace x_2 := x_2.below hb
      replace x_3 := x_3.below hb
      replace x_4 := x_4.below hb
      replace o_3 := o_3.below hb
      replace o_4 := o_4.below hb
      replace T := bl_step T hb
      have c_1 := x_1.cell
      have l_1 := x_1.lt
      have c_2 := x_2.cell
      have l_2 := x_2.lt
      have c_3 := x_3.cell
      have l_3 := x_3.lt
      have c_4 := x_4.cell
      have l_4 := x_4.lt
      clear rA hbA hbB rd k0 k1 k2
      go_wp2_with fail
      go_ret
      exact ⟨rfl, T⟩
end Go.Proofs.Ytmgdfefffgjddaa
