/-
  PROVED: contracts of the functions of signed great numbers: size, copy, check, equality; the law on the check.
  CONDITIONS: none.
-/
import Derived.Test.YtmgdfefffgjddaaNat
import Derived.Deep.RegionHeld3
namespace Go.Proofs.Ytmgdfefffgjddaa
open Go.ChangeShapes Go.WideShapes Go.ChangeAt Go.RowKit
set_option linter.unusedVariables false
def szB (left : Int) (n : Nat) : Int := if left - n < 0 then -1 else left - n
theorem szB_le (left : Int) (n : Nat) : szB left n ≤ left ∨ szB left n = -1 := by unfold szB; split <;> omega
theorem szB_ge (left : Int) (n : Nat) : -1 ≤ szB left n := by unfold szB; split <;> omega
theorem szB_fits {left : Int} {n : Nat} (h : ¬ szB left n < 0) : (n : Int) ≤ left ∧ szB left n = left - n := by unfold szB at h ⊢; split at h <;> (rw [if_neg (by omega)]; omega)
def wholeOkB (neg : Bool) (zs : List Int) : Bool := natOkB zs && !(neg && zs.length == 0)
/-- what a copied whole number is: the same sign, the same limbs, in memory of its own -/
def WholeRet (neg : Bool) (n : Nat) (zs : List Int) (w : World) : Ending → World → Prop := fun e w' =>
  ∃ B, w.heap.size ≤ B ∧ e = .returned (.agg #[.bool neg, .slice (some ⟨B, 0, none⟩) n n]) ∧ RowAt .i64 w' (some ⟨B, 0, none⟩) zs ∧ Below w.heap.size w w'
set_option maxHeartbeats 400000 in
theorem szIntS_any (a : Option Addr) (n cap : Nat) (left : Int) (w : World) (hn : n ≤ 9223372036854775807) (hl : 0 ≤ left) (hl2 : left ≤ 1048576) :
    Calls Try.prog 58 #[.slice a n cap, .int .i64 left] w fun e w' => e = .returned (.int .i64 (szB left n)) ∧ w = w' := by
  by_cases h : left - (n : Int) < 0
  · have hs : szB left n = -1 := by unfold szB; rw [if_pos h]
    rw [hs]; clear hs
    go_enter Try.func58, Try.ntmps58
    go_wp2
    go_ret
    exact ⟨rfl, rfl⟩
  · have hs : szB left n = left - n := by unfold szB; rw [if_neg h]
    rw [hs]; clear hs
    go_enter Try.func58, Try.ntmps58
    go_wp2
    go_ret
    exact ⟨rfl, rfl⟩
set_option maxHeartbeats 400000 in
theorem szWhole_any (neg : Bool) (a : Option Addr) (n cap : Nat) (left : Int) (w : World) (hn : n ≤ 9223372036854775807) (hl : 0 ≤ left) (hl2 : left ≤ 1048576) :
    Calls Try.prog 27 #[.agg #[.bool neg, .slice a n cap], .int .i64 left] w fun e w' => e = .returned (.int .i64 (szB left n)) ∧ Below w.heap.size w w' := by
  have hg := szB_ge left n
  by_cases h : szB left n < 0
  · have hs : szB left n = -1 := by omega
    have HS := Lib.hid hs
    go_enter Try.func27, Try.ntmps27
    go_wp2_with (go_at_call 58; refine (szIntS_any _ _ _ _ _ hn hl hl2).mono ?_; rintro e w2 ⟨rfl, rfl⟩)
    go_ret
    exact ⟨ret_int (by first | rfl | rw [HS.out]), bl_alloc _ _⟩
  · go_enter Try.func27, Try.ntmps27
    go_wp2_with (go_at_call 58; refine (szIntS_any _ _ _ _ _ hn hl hl2).mono ?_; rintro e w2 ⟨rfl, rfl⟩)
    go_ret
    exact ⟨rfl, bl_alloc _ _⟩
set_option maxHeartbeats 400000 in
theorem toWhole_eq (neg : Bool) (a : Option Addr) (n cap : Nat) (zs : List Int) (w : World) (hz : zs.length = n) (hn : n ≤ 1048576) (ha : RowAt .i64 w a zs) :
    Calls Try.prog 29 #[.agg #[.bool neg, .slice a n cap]] w fun e w' => e = .returned (.agg #[.bool neg, .slice (some ⟨w.heap.size + 1 + 1 + 1, 0, none⟩) n n]) ∧
      (((w.alloc (.cells #[.bool neg, .slice a n cap] 38)).alloc (.cells #[.bool neg, .slice (some ⟨w.heap.size + 1 + 1 + 1, 0, none⟩) n n] 41)).alloc (.cells #[.bool neg, .slice (some ⟨w.heap.size + 1 + 1 + 1, 0, none⟩) n n] 41)).alloc (.cells (rowArr .i64 zs) 3) = w' := by
  have HZ := Lib.hid hz; clear hz
  go_enter Try.func29, Try.ntmps29
  go_wp2_with fail
  refine (toIntS_eq _ _ _ zs _ HZ.out hn (ha.below (bl_al (bl_al (bl_alloc _ _) _) _))).mono ?_
  rintro e w2 ⟨rfl, rfl⟩
  go_wp2_with fail
  exact bodyPost_ret (v := .agg #[.bool neg, .slice (some ⟨w.heap.size + 1 + 1 + 1, 0, none⟩) n n]) (by simp [results, Try.results29, go_sem]) rfl ⟨rfl, rfl⟩
set_option maxHeartbeats 400000 in
theorem toWhole_any (neg : Bool) (a : Option Addr) (n cap : Nat) (zs : List Int) (w : World) (hz : zs.length = n) (hn : n ≤ 1048576) (ha : RowAt .i64 w a zs) :
    Calls Try.prog 29 #[.agg #[.bool neg, .slice a n cap]] w (WholeRet neg n zs w) := by
  refine (toWhole_eq neg a n cap zs w hz hn ha).mono ?_
  rintro e w' ⟨rfl, rfl⟩
  refine ⟨_, by omega, rfl, ?_, bl_al (bl_al (bl_al (bl_alloc _ _) _) _) _⟩
  have := rowAt_new .i64 zs (((w.alloc (.cells #[.bool neg, .slice a n cap] 38)).alloc (.cells #[.bool neg, .slice (some ⟨w.heap.size + 1 + 1 + 1, 0, none⟩) n n] 41)).alloc (.cells #[.bool neg, .slice (some ⟨w.heap.size + 1 + 1 + 1, 0, none⟩) n n] 41)) 3
  simpa using this
set_option maxHeartbeats 400000 in
theorem sWholeOk_any (neg : Bool) (a : Option Addr) (n cap : Nat) (zs : List Int) (w : World) (hz : zs.length = n) (hn : n ≤ 1048576) (ha : RowAt .i64 w a zs) :
    Calls Try.prog 28 #[.agg #[.bool neg, .slice a n cap]] w fun e w' => e = .returned (.bool (wholeOkB neg zs)) ∧ Below w.heap.size w w' := by
  have HZ := Lib.hid hz; clear hz
  have hr : wholeOkB neg zs = (natOkB zs && !(neg && n == 0)) := by unfold wholeOkB; rw [HZ.out]
  rw [hr]; clear hr
  have ha1 := ha.below (bl_alloc w (.cells #[.bool neg, .slice a n cap] 41))
  cases hk : natOkB zs
  · have hc := sNatOk_any a n cap zs _ HZ.out hn ha1
    rw [hk] at hc
    have HC := Lib.hid hc; clear hc
    go_enter Try.func28, Try.ntmps28
    go_wp2_with fail
    refine HC.out.mono ?_
    rintro e w2 ⟨rfl, rfl⟩
    go_wp2
    go_ret
    exact ⟨rfl, bl_alloc _ _⟩
  · have hc := sNatOk_any a n cap zs _ HZ.out hn ha1
    rw [hk] at hc
    have HC := Lib.hid hc; clear hc
    cases neg
    · go_enter Try.func28, Try.ntmps28
      go_wp2_with fail
      refine HC.out.mono ?_
      rintro e w2 ⟨rfl, rfl⟩
      go_wp2
      go_ret
      exact ⟨rfl, bl_alloc _ _⟩
    · by_cases h0 : n = 0
      · subst h0
        go_enter Try.func28, Try.ntmps28
        go_wp2_with fail
        refine HC.out.mono ?_
        rintro e w2 ⟨rfl, rfl⟩
        go_wp2
        go_ret
        exact ⟨rfl, bl_alloc _ _⟩
      · have h0' : ((n : Int) == 0) = false := by rw [beq_eq_false_iff_ne]; omega
        have h1' : decide ((0 : Int) < (n : Int)) = true := by rw [decide_eq_true_iff]; omega
        have hr : (true && !(true && n == 0)) = true := by simp [h0]
        rw [hr]; clear hr
        have hp : 0 < n := by omega
        clear h0
        go_enter Try.func28, Try.ntmps28
        go_wp2_with fail
        refine HC.out.mono ?_
        rintro e w2 ⟨rfl, rfl⟩
        go_wp2
        go_ret
        exact ⟨rfl, bl_alloc _ _⟩
set_option maxHeartbeats 400000 in
theorem iWholeOk_any (neg : Bool) (a : Option Addr) (n cap : Nat) (zs : List Int) (w : World) (hz : zs.length = n) (hn : n ≤ 1048576) (ha : RowAt .i64 w a zs) :
    Calls Try.prog 30 #[.agg #[.bool neg, .slice a n cap]] w fun e w' => e = .returned (.bool (wholeOkB neg zs)) ∧ Below w.heap.size w w' := by
  have HZ := Lib.hid hz; clear hz
  have hr : wholeOkB neg zs = (natOkB zs && !(neg && n == 0)) := by unfold wholeOkB; rw [HZ.out]
  rw [hr]; clear hr
  have ha1 := ha.below (bl_alloc w (.cells #[.bool neg, .slice a n cap] 41))
  cases hk : natOkB zs
  · have hc := iNatOk_any a n cap zs _ HZ.out hn ha1
    rw [hk] at hc
    have HC := Lib.hid hc; clear hc
    go_enter Try.func30, Try.ntmps30
    go_wp2_with fail
    refine HC.out.mono ?_
    rintro e w2 ⟨rfl, rfl⟩
    go_wp2
    go_ret
    exact ⟨rfl, bl_alloc _ _⟩
  · have hc := iNatOk_any a n cap zs _ HZ.out hn ha1
    rw [hk] at hc
    have HC := Lib.hid hc; clear hc
    cases neg
    · go_enter Try.func30, Try.ntmps30
      go_wp2_with fail
      refine HC.out.mono ?_
      rintro e w2 ⟨rfl, rfl⟩
      go_wp2
      go_ret
      exact ⟨rfl, bl_alloc _ _⟩
    · by_cases h0 : n = 0
      · subst h0
        go_enter Try.func30, Try.ntmps30
        go_wp2_with fail
        refine HC.out.mono ?_
        rintro e w2 ⟨rfl, rfl⟩
        go_wp2
        go_ret
        exact ⟨rfl, bl_alloc _ _⟩
      · have h0' : ((n : Int) == 0) = false := by rw [beq_eq_false_iff_ne]; omega
        have h1' : decide ((0 : Int) < (n : Int)) = true := by rw [decide_eq_true_iff]; omega
        have hr : (true && !(true && n == 0)) = true := by simp [h0]
        rw [hr]; clear hr
        have hp : 0 < n := by omega
        clear h0
        go_enter Try.func30, Try.ntmps30
        go_wp2_with fail
        refine HC.out.mono ?_
        rintro e w2 ⟨rfl, rfl⟩
        go_wp2
        go_ret
        exact ⟨rfl, bl_alloc _ _⟩
set_option maxHeartbeats 400000 in
theorem eqWhole_any (neg neg' : Bool) (a a' : Option Addr) (n m cap cap' : Nat) (zs ys : List Int) (w : World) (hz : zs.length = n) (hy : ys.length = m) (hn : n ≤ 1048576) (hm : m ≤ 1048576) (ha : RowAt .i64 w a zs) (ha' : RowAt .i64 w a' ys) :
    Calls Try.prog 31 #[.agg #[.bool neg, .slice a n cap], .agg #[.bool neg', .slice a' m cap']] w fun e w' => e = .returned (.bool (neg == neg' && zs == ys)) ∧ Below w.heap.size w w' := by
  have HZ := Lib.hid hz; clear hz
  have HY := Lib.hid hy; clear hy
  have hb2 := bl_al (bl_alloc w (.cells #[.bool neg, .slice a n cap] 41)) (.cells #[.bool neg', .slice a' m cap'] 41)
  have hc := eqIntS_any a a' n m cap cap' zs ys _ HZ.out HY.out hn hm (ha.below hb2) (ha'.below hb2)
  have HC := Lib.hid hc; clear hc
  by_cases hneg : neg = neg'
  · subst hneg
    have hne : (neg != neg) = false := by cases neg <;> rfl
    have hr : (neg == neg && zs == ys) = (zs == ys) := by simp
    rw [hr]; clear hr
    go_enter Try.func31, Try.ntmps31
    go_wp2_with fail
    refine HC.out.mono ?_
    rintro e w2 ⟨rfl, hb⟩
    cases hq : (zs == ys)
    · go_wp2
      go_ret
      exact ⟨ret_bool hq.symm, bl_step hb2 hb⟩
    · go_wp2
      go_ret
      exact ⟨ret_bool hq.symm, bl_step hb2 hb⟩
  · clear HC
    cases neg
    · cases neg'
      · exact absurd rfl hneg
      · clear hneg
        go_enter Try.func31, Try.ntmps31
        go_wp2
        go_ret
        exact ⟨rfl, hb2⟩
    · cases neg'
      · clear hneg
        go_enter Try.func31, Try.ntmps31
        go_wp2
        go_ret
        exact ⟨rfl, hb2⟩
      · exact absurd rfl hneg
theorem sWholeOk_eq (neg : Bool) (a : Option Addr) (n cap : Nat) (zs : List Int) (w : World) (hz : zs.length = n) (hn : n ≤ 1048576) (ha : RowAt .i64 w a zs) {r : Bool} (hr : wholeOkB neg zs = r) :
    Calls Try.prog 28 #[.agg #[.bool neg, .slice a n cap]] w fun e w' => e = .returned (.bool r) ∧ Below w.heap.size w w' := by
  have := sWholeOk_any neg a n cap zs w hz hn ha
  rw [hr] at this
  exact this
theorem iWholeOk_eq (neg : Bool) (a : Option Addr) (n cap : Nat) (zs : List Int) (w : World) (hz : zs.length = n) (hn : n ≤ 1048576) (ha : RowAt .i64 w a zs) {r : Bool} (hr : wholeOkB neg zs = r) :
    Calls Try.prog 30 #[.agg #[.bool neg, .slice a n cap]] w fun e w' => e = .returned (.bool r) ∧ Below w.heap.size w w' := by
  have := iWholeOk_any neg a n cap zs w hz hn ha
  rw [hr] at this
  exact this
theorem eqWhole_eq (neg : Bool) (a a' : Option Addr) (n cap cap' : Nat) (zs : List Int) (w : World) (hz : zs.length = n) (hn : n ≤ 1048576) (ha : RowAt .i64 w a zs) (ha' : RowAt .i64 w a' zs) :
    Calls Try.prog 31 #[.agg #[.bool neg, .slice a n cap], .agg #[.bool neg, .slice a' n cap']] w fun e w' => e = .returned (.bool true) ∧ Below w.heap.size w w' := by
  have := eqWhole_any neg neg a a' n n cap cap' zs zs w hz hz hn hn ha ha'
  rw [show (neg == neg && zs == zs) = true by simp] at this
  exact this
set_option maxHeartbeats 1000000 in
theorem walkFnExactWholeOk (a0 : Bool) (a1 : Option Addr) (len1 cap1 : Nat) (z1 : List Int) (w : World) (w1 : IsRow .i64 w a1 len1 cap1 z1) :
    Calls Try.prog 7 #[.agg #[.bool a0, .slice a1 len1 cap1]] w fun e w' => e = .returned (.bool true) ∧ Below w.heap.size w w' := by
  obtain ⟨r0, hz, hwf⟩ := w1.rowAt
  have hml := w1.len_le
  clear w1 hwf
  generalize z1.take len1 = zs at *
  have HZ := Lib.hid hz; clear hz
  have r0 := r0.below (bl_alloc w (.cells #[.bool a0, .slice a1 len1 cap1] 38))
  have B1 := Below.refl (w.alloc (.cells #[.bool a0, .slice a1 len1 cap1] 38)).heap.size (w.alloc (.cells #[.bool a0, .slice a1 len1 cap1] 38))
  by_cases hsz : szB 1048576 len1 < 0
  · go_enter Try.func7, Try.ntmps7
    go_wp2_with fail
    refine (szWhole_any _ _ _ _ _ _ hml (by omega) (by omega)).mono ?_
    rintro e w2 ⟨rfl, hb⟩
    go_wp2_with fail
    go_ret
    exact ⟨rfl, bl_step (bl_alloc _ _) (bl_step B1 hb)⟩
  · have hbig : len1 ≤ 1048576 := by have := (szB_fits hsz).1; omega
    go_enter Try.func7, Try.ntmps7
    go_wp2_with fail
    refine (szWhole_any _ _ _ _ _ _ hml (by omega) (by omega)).mono ?_
    rintro e wv1 ⟨rfl, hb⟩
    have B1 := bl_step B1 hb
    obtain ⟨hcB1, hzB1⟩ := kept_box B1
    have r0 := r0.below hb
    go_wp2_with fail
    refine (toWhole_any _ _ _ _ zs _ HZ.out hbig r0).mono ?_
    rintro e wv2 ⟨X1, _, rfl, r1, hb⟩
    have B1 := bl_step B1 hb
    obtain ⟨hcB1, hzB1⟩ := kept_box B1
    have r0 := r0.below hb
    go_wp2_with fail
    refine (sWholeOk_any _ _ _ _ zs _ HZ.out hbig r1).mono ?_
    rintro e wv3 ⟨rfl, hb⟩
    have B1 := bl_step B1 hb
    obtain ⟨hcB1, hzB1⟩ := kept_box B1
    have r0 := r0.below hb
    have r1 := r1.below hb
    go_wp2_with fail
    refine (toWhole_any _ _ _ _ zs _ HZ.out hbig r0).mono ?_
    rintro e wv4 ⟨X2, _, rfl, r2, hb⟩
    have B1 := bl_step B1 hb
    obtain ⟨hcB1, hzB1⟩ := kept_box B1
    have r0 := r0.below hb
    have hb := bl_alloc wv4 (.cells #[.bool a0, .slice (some ⟨X2, 0, none⟩) len1 len1] 41)
    have B1 := bl_step B1 hb
    obtain ⟨hcB1, hzB1⟩ := kept_box B1
    have r0 := r0.below hb
    have r2 := r2.below hb
    have B2 := Below.refl (wv4.alloc (.cells #[.bool a0, .slice (some ⟨X2, 0, none⟩) len1 len1] 41)).heap.size (wv4.alloc (.cells #[.bool a0, .slice (some ⟨X2, 0, none⟩) len1 len1] 41))
    go_wp2_with fail
    refine (iWholeOk_any _ _ _ _ zs _ HZ.out hbig r2).mono ?_
    rintro e wv5 ⟨rfl, hb⟩
    have B1 := bl_step B1 hb
    obtain ⟨hcB1, hzB1⟩ := kept_box B1
    have B2 := bl_step B2 hb
    obtain ⟨hcB2, hzB2⟩ := kept_box B2
    have r0 := r0.below hb
    have r2 := r2.below hb
    go_wp2_with fail
    have B1d := bl_dr B1
    have B2d := bl_dr B2
    have r0d := r0.below (bl_drew wv5)
    have r2d := r2.below (bl_drew wv5)
    (first | go_region_with (first
      | (go_at_call 29; refine (toWhole_any _ _ _ _ zs _ HZ.out hbig r0d).mono ?_; rintro e w6 ⟨X3, _, rfl, r3, hb6⟩; have B1e := bl_step B1d hb6; have B2e := bl_step B2d hb6; have r2e := r2d.below hb6; obtain ⟨hc7, hz7⟩ := kept_box B1e; obtain ⟨hc8, hz8⟩ := kept_box B2e)
      | (go_at_call 31; refine (eqWhole_any _ _ _ _ _ _ _ _ zs zs _ HZ.out HZ.out hbig hbig r2e r3).mono ?_; rintro e w7 ⟨rfl, hb7⟩)) | fail)
    all_goals go_wp2
    all_goals go_ret
    all_goals exact ⟨rfl, bl_step (bl_alloc _ _) (bl_step B1e hb7)⟩
end Go.Proofs.Ytmgdfefffgjddaa
