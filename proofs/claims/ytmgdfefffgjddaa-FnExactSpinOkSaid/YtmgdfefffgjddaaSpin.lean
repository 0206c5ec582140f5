/-
  PROVED: contracts of the functions of spins: size, copy, check, equality; the law on the check.
  CONDITIONS: none.
-/
import Derived.Test.YtmgdfefffgjddaaWhole
namespace Go.Proofs.Ytmgdfefffgjddaa
open Go.ChangeShapes Go.WideShapes Go.ChangeAt Go.RowKit
set_option linter.unusedVariables false
def spinOkB (p : Bool) (xs : List Int) (q : Bool) (ys : List Int) (k : Int) : Bool := wholeOkB p xs && wholeOkB q ys && inR k 0 2000
def SpinRet (p : Bool) (n : Nat) (xs : List Int) (q : Bool) (m : Nat) (ys : List Int) (k : Int) (w : World) : Ending → World → Prop := fun e w' =>
  ∃ B C, e = .returned (.agg #[.bool p, .slice (some ⟨B, 0, none⟩) n n, .bool q, .slice (some ⟨C, 0, none⟩) m m, .int .i64 k]) ∧ RowAt .i64 w' (some ⟨B, 0, none⟩) xs ∧ RowAt .i64 w' (some ⟨C, 0, none⟩) ys ∧ Below w.heap.size w w'
set_option maxHeartbeats 1000000 in
theorem toSpin_any (p : Bool) (a : Option Addr) (n ca : Nat) (q : Bool) (b : Option Addr) (m cb : Nat) (k : Int) (xs ys : List Int) (w : World) (hx : xs.length = n) (hy : ys.length = m) (hn : n ≤ 1048576) (hm : m ≤ 1048576) (ha : RowAt .i64 w a xs) (hb : RowAt .i64 w b ys) :
    Calls Try.prog 39 #[.agg #[.bool p, .slice a n ca, .bool q, .slice b m cb, .int .i64 k]] w (SpinRet p n xs q m ys k w) := by
  have HX := Lib.hid hx; clear hx
  have HY := Lib.hid hy; clear hy
  go_enter Try.func39, Try.ntmps39
  go_wp2_with fail
  refine (toWhole_eq _ _ _ _ xs _ HX.out hn (ha.below (bl_al (bl_al (bl_alloc _ _) _) _))).mono ?_
  rintro e w2 ⟨rfl, rfl⟩
  go_wp2_with fail
  refine (toWhole_eq _ _ _ _ ys _ HY.out hm (hb.below (bl_al (bl_al (bl_al (bl_al (bl_al (bl_al (bl_alloc _ _) _) _) _) _) _) _))).mono ?_
  rintro e w2 ⟨rfl, rfl⟩
  go_wp2_with fail
  have r1 := rowAt_new .i64 xs ((((((w.alloc (.cells #[.bool p, .slice a n ca, .bool q, .slice b m cb, .int .i64 k] 53)).alloc (.cells #[.bool p, .slice (some ⟨w.heap.size + 1 + 1 + 1 + 1 + 1 + 1, 0, none⟩) n n, .bool q, .slice (some ⟨w.heap.size + 1 + 1 + 1 + 1 + 1 + 1 + 1 + 1 + 1 + 1, 0, none⟩) m m, .int .i64 k] 57)).alloc (.cells #[.bool p, .slice (some ⟨w.heap.size + 1 + 1 + 1 + 1 + 1 + 1, 0, none⟩) n n, .bool q, .slice (some ⟨w.heap.size + 1 + 1 + 1 + 1 + 1 + 1 + 1 + 1 + 1 + 1, 0, none⟩) m m, .int .i64 k] 57)).alloc (.cells #[.bool p, .slice a n ca] 38)).alloc (.cells #[.bool p, .slice (some ⟨w.heap.size + 1 + 1 + 1 + 1 + 1 + 1, 0, none⟩) n n] 41)).alloc (.cells #[.bool p, .slice (some ⟨w.heap.size + 1 + 1 + 1 + 1 + 1 + 1, 0, none⟩) n n] 41)) 3
  have r1 := r1.below (bl_al (bl_al (bl_al (bl_alloc _ _) _) _) _ : Below _ _ (((((((((((w.alloc (.cells #[.bool p, .slice a n ca, .bool q, .slice b m cb, .int .i64 k] 53)).alloc (.cells #[.bool p, .slice (some ⟨w.heap.size + 1 + 1 + 1 + 1 + 1 + 1, 0, none⟩) n n, .bool q, .slice (some ⟨w.heap.size + 1 + 1 + 1 + 1 + 1 + 1 + 1 + 1 + 1 + 1, 0, none⟩) m m, .int .i64 k] 57)).alloc (.cells #[.bool p, .slice (some ⟨w.heap.size + 1 + 1 + 1 + 1 + 1 + 1, 0, none⟩) n n, .bool q, .slice (some ⟨w.heap.size + 1 + 1 + 1 + 1 + 1 + 1 + 1 + 1 + 1 + 1, 0, none⟩) m m, .int .i64 k] 57)).alloc (.cells #[.bool p, .slice a n ca] 38)).alloc (.cells #[.bool p, .slice (some ⟨w.heap.size + 1 + 1 + 1 + 1 + 1 + 1, 0, none⟩) n n] 41)).alloc (.cells #[.bool p, .slice (some ⟨w.heap.size + 1 + 1 + 1 + 1 + 1 + 1, 0, none⟩) n n] 41)).alloc (.cells (rowArr .i64 xs) 3)).alloc (.cells #[.bool q, .slice b m cb] 38)).alloc (.cells #[.bool q, .slice (some ⟨w.heap.size + 1 + 1 + 1 + 1 + 1 + 1 + 1 + 1 + 1 + 1, 0, none⟩) m m] 41)).alloc (.cells #[.bool q, .slice (some ⟨w.heap.size + 1 + 1 + 1 + 1 + 1 + 1 + 1 + 1 + 1 + 1, 0, none⟩) m m] 41)).alloc (.cells (rowArr .i64 ys) 3)))
  have r2 := rowAt_new .i64 ys ((((((((((w.alloc (.cells #[.bool p, .slice a n ca, .bool q, .slice b m cb, .int .i64 k] 53)).alloc (.cells #[.bool p, .slice (some ⟨w.heap.size + 1 + 1 + 1 + 1 + 1 + 1, 0, none⟩) n n, .bool q, .slice (some ⟨w.heap.size + 1 + 1 + 1 + 1 + 1 + 1 + 1 + 1 + 1 + 1, 0, none⟩) m m, .int .i64 k] 57)).alloc (.cells #[.bool p, .slice (some ⟨w.heap.size + 1 + 1 + 1 + 1 + 1 + 1, 0, none⟩) n n, .bool q, .slice (some ⟨w.heap.size + 1 + 1 + 1 + 1 + 1 + 1 + 1 + 1 + 1 + 1, 0, none⟩) m m, .int .i64 k] 57)).alloc (.cells #[.bool p, .slice a n ca] 38)).alloc (.cells #[.bool p, .slice (some ⟨w.heap.size + 1 + 1 + 1 + 1 + 1 + 1, 0, none⟩) n n] 41)).alloc (.cells #[.bool p, .slice (some ⟨w.heap.size + 1 + 1 + 1 + 1 + 1 + 1, 0, none⟩) n n] 41)).alloc (.cells (rowArr .i64 xs) 3)).alloc (.cells #[.bool q, .slice b m cb] 38)).alloc (.cells #[.bool q, .slice (some ⟨w.heap.size + 1 + 1 + 1 + 1 + 1 + 1 + 1 + 1 + 1 + 1, 0, none⟩) m m] 41)).alloc (.cells #[.bool q, .slice (some ⟨w.heap.size + 1 + 1 + 1 + 1 + 1 + 1 + 1 + 1 + 1 + 1, 0, none⟩) m m] 41)) 3
  refine bodyPost_ret (v := .agg #[.bool p, .slice (some ⟨w.heap.size + 1 + 1 + 1 + 1 + 1 + 1, 0, none⟩) n n, .bool q, .slice (some ⟨w.heap.size + 1 + 1 + 1 + 1 + 1 + 1 + 1 + 1 + 1 + 1, 0, none⟩) m m, .int .i64 k]) (by simp [results, Try.results39, go_sem]) rfl ⟨_, _, rfl, ?_, ?_, bl_al (bl_al (bl_al (bl_al (bl_al (bl_al (bl_al (bl_al (bl_al (bl_al (bl_alloc _ _) _) _) _) _) _) _) _) _) _) _⟩
  · simpa using r1
  · simpa using r2
set_option maxHeartbeats 1000000 in
theorem szSpin_any (p : Bool) (a : Option Addr) (n ca : Nat) (q : Bool) (b : Option Addr) (m cb : Nat) (k : Int) (left : Int) (w : World) (hn : n ≤ 9223372036854775807) (hm : m ≤ 9223372036854775807) (hl : 0 ≤ left) (hl2 : left ≤ 1048576) :
    Calls Try.prog 37 #[.agg #[.bool p, .slice a n ca, .bool q, .slice b m cb, .int .i64 k], .int .i64 left] w fun e w' => e = .returned (.int .i64 (if szB left n < 0 then -1 else szB (szB left n) m)) ∧ Below w.heap.size w w' := by
  have B1 := Below.refl (w.alloc (.cells #[.bool p, .slice a n ca, .bool q, .slice b m cb, .int .i64 k] 53)).heap.size (w.alloc (.cells #[.bool p, .slice a n ca, .bool q, .slice b m cb, .int .i64 k] 53))
  by_cases h : szB left n < 0
  · have hr : (if szB left n < 0 then -1 else szB (szB left n) m) = -1 := by rw [if_pos h]
    rw [hr]; clear hr
    go_enter Try.func37, Try.ntmps37
    go_wp2_with fail
    refine (szWhole_any _ _ _ _ _ _ hn hl hl2).mono ?_
    rintro e w1 ⟨rfl, hb⟩
    go_wp2_with fail
    go_ret
    exact ⟨rfl, bl_step (bl_alloc _ _) (bl_step B1 hb)⟩
  · have hr : (if szB left n < 0 then -1 else szB (szB left n) m) = szB (szB left n) m := by rw [if_neg h]
    rw [hr]; clear hr
    have h1 := szB_fits h
    have h2 : szB left n ≤ 1048576 := by omega
    have h3 : 0 ≤ szB left n := by omega
    clear h1
    generalize hl2e : szB left n = l2 at *
    have HL := Lib.hid hl2e; clear hl2e
    have hg := szB_ge l2 m
    by_cases h4 : szB l2 m < 0
    · have hs : szB l2 m = -1 := by omega
      have HS := Lib.hid hs; clear hs
      go_enter Try.func37, Try.ntmps37
      go_wp2_with fail
      refine (szWhole_any _ _ _ _ _ _ hn hl hl2).mono ?_
      rintro e w1 ⟨rfl, hb1⟩
      rw [HL.out]
      have B1 := bl_step B1 hb1
      obtain ⟨hcB1, hzB1⟩ := kept_box B1
      go_wp2_with fail
      refine (szWhole_any _ _ _ _ _ _ hm h3 h2).mono ?_
      rintro e w2 ⟨rfl, hb2⟩
      go_wp2_with fail
      go_ret
      exact ⟨ret_int (by first | rfl | rw [HS.out]), bl_step (bl_alloc _ _) (bl_step B1 hb2)⟩
    · go_enter Try.func37, Try.ntmps37
      go_wp2_with fail
      refine (szWhole_any _ _ _ _ _ _ hn hl hl2).mono ?_
      rintro e w1 ⟨rfl, hb1⟩
      rw [HL.out]
      have B1 := bl_step B1 hb1
      obtain ⟨hcB1, hzB1⟩ := kept_box B1
      go_wp2_with fail
      refine (szWhole_any _ _ _ _ _ _ hm h3 h2).mono ?_
      rintro e w2 ⟨rfl, hb2⟩
      go_wp2_with fail
      go_ret
      exact ⟨rfl, bl_step (bl_alloc _ _) (bl_step B1 hb2)⟩
theorem sWholeOk_eq (neg : Bool) (a : Option Addr) (n cap : Nat) (zs : List Int) (w : World) (hz : zs.length = n) (hn : n ≤ 1048576) (ha : RowAt .i64 w a zs) {r : Bool} (hr : wholeOkB neg zs = r) :
    Calls Try.prog 28 #[.agg #[.bool neg, .slice a n cap]] w fun e w' => e = .returned (.bool r) ∧ Below w.heap.size w w' := by
  have := sWholeOk_any neg a n cap zs w hz hn ha
  rw [hr] at this
  exact this
set_option maxHeartbeats 1000000 in
theorem sSpinOk_any (p : Bool) (a : Option Addr) (n ca : Nat) (q : Bool) (b : Option Addr) (m cb : Nat) (k : Int) (xs ys : List Int) (w : World) (hx : xs.length = n) (hy : ys.length = m) (hn : n ≤ 1048576) (hm : m ≤ 1048576) (ha : RowAt .i64 w a xs) (hb : RowAt .i64 w b ys) :
    Calls Try.prog 38 #[.agg #[.bool p, .slice a n ca, .bool q, .slice b m cb, .int .i64 k]] w fun e w' => e = .returned (.bool (spinOkB p xs q ys k)) ∧ Below w.heap.size w w' := by
  have HX := Lib.hid hx; clear hx
  have HY := Lib.hid hy; clear hy
  have B1 := Below.refl (w.alloc (.cells #[.bool p, .slice a n ca, .bool q, .slice b m cb, .int .i64 k] 57)).heap.size (w.alloc (.cells #[.bool p, .slice a n ca, .bool q, .slice b m cb, .int .i64 k] 57))
  have ha := ha.below (bl_alloc w (.cells #[.bool p, .slice a n ca, .bool q, .slice b m cb, .int .i64 k] 57))
  have hb := hb.below (bl_alloc w (.cells #[.bool p, .slice a n ca, .bool q, .slice b m cb, .int .i64 k] 57))
  cases hX : wholeOkB p xs
  · have hr : spinOkB p xs q ys k = false := by unfold spinOkB; rw [hX]; rfl
    rw [hr]; clear hr
    go_enter Try.func38, Try.ntmps38
    go_wp2_with fail
    refine (sWholeOk_eq _ _ _ _ xs _ HX.out hn ha hX).mono ?_
    rintro e wv1 ⟨rfl, hb9⟩
    have B1 := bl_step B1 hb9
    obtain ⟨hcB1, hzB1⟩ := kept_box B1
    have ha := ha.below hb9
    have hb := hb.below hb9
    go_wp2_with fail
    go_ret
    exact ⟨rfl, bl_step (bl_alloc _ _) B1⟩
  · cases hY : wholeOkB q ys
    · have hr : spinOkB p xs q ys k = false := by unfold spinOkB; rw [hX, hY]; rfl
      rw [hr]; clear hr
      go_enter Try.func38, Try.ntmps38
      go_wp2_with fail
      refine (sWholeOk_eq _ _ _ _ xs _ HX.out hn ha hX).mono ?_
      rintro e wv1 ⟨rfl, hb9⟩
      have B1 := bl_step B1 hb9
      obtain ⟨hcB1, hzB1⟩ := kept_box B1
      have ha := ha.below hb9
      have hb := hb.below hb9
      go_wp2_with fail
      refine (sWholeOk_eq _ _ _ _ ys _ HY.out hm hb hY).mono ?_
      rintro e wv2 ⟨rfl, hb8⟩
      have B1 := bl_step B1 hb8
      obtain ⟨hcB1, hzB1⟩ := kept_box B1
      have ha := ha.below hb8
      have hb := hb.below hb8
      go_wp2_with fail
      go_ret
      exact ⟨rfl, bl_step (bl_alloc _ _) B1⟩
    · have hr : spinOkB p xs q ys k = inR k 0 2000 := by unfold spinOkB; rw [hX, hY]; rfl
      rw [hr]; clear hr
      go_enter Try.func38, Try.ntmps38
      go_wp2_with fail
      refine (sWholeOk_eq _ _ _ _ xs _ HX.out hn ha hX).mono ?_
      rintro e wv1 ⟨rfl, hb9⟩
      have B1 := bl_step B1 hb9
      obtain ⟨hcB1, hzB1⟩ := kept_box B1
      have ha := ha.below hb9
      have hb := hb.below hb9
      go_wp2_with fail
      refine (sWholeOk_eq _ _ _ _ ys _ HY.out hm hb hY).mono ?_
      rintro e wv2 ⟨rfl, hb8⟩
      have B1 := bl_step B1 hb8
      obtain ⟨hcB1, hzB1⟩ := kept_box B1
      have ha := ha.below hb8
      have hb := hb.below hb8
      go_wp2_with (go_at_call 56; refine (l1In_any _ _ _ _).mono ?_; rintro e w9 ⟨rfl, rfl⟩)
      go_ret
      exact ⟨rfl, bl_step (bl_alloc _ _) B1⟩
theorem iWholeOk_eq (neg : Bool) (a : Option Addr) (n cap : Nat) (zs : List Int) (w : World) (hz : zs.length = n) (hn : n ≤ 1048576) (ha : RowAt .i64 w a zs) {r : Bool} (hr : wholeOkB neg zs = r) :
    Calls Try.prog 30 #[.agg #[.bool neg, .slice a n cap]] w fun e w' => e = .returned (.bool r) ∧ Below w.heap.size w w' := by
  have := iWholeOk_any neg a n cap zs w hz hn ha
  rw [hr] at this
  exact this
set_option maxHeartbeats 1000000 in
theorem iSpinOk_any (p : Bool) (a : Option Addr) (n ca : Nat) (q : Bool) (b : Option Addr) (m cb : Nat) (k : Int) (xs ys : List Int) (w : World) (hx : xs.length = n) (hy : ys.length = m) (hn : n ≤ 1048576) (hm : m ≤ 1048576) (ha : RowAt .i64 w a xs) (hb : RowAt .i64 w b ys) :
    Calls Try.prog 40 #[.agg #[.bool p, .slice a n ca, .bool q, .slice b m cb, .int .i64 k]] w fun e w' => e = .returned (.bool (spinOkB p xs q ys k)) ∧ Below w.heap.size w w' := by
  have HX := Lib.hid hx; clear hx
  have HY := Lib.hid hy; clear hy
  have B1 := Below.refl (w.alloc (.cells #[.bool p, .slice a n ca, .bool q, .slice b m cb, .int .i64 k] 57)).heap.size (w.alloc (.cells #[.bool p, .slice a n ca, .bool q, .slice b m cb, .int .i64 k] 57))
  have ha := ha.below (bl_alloc w (.cells #[.bool p, .slice a n ca, .bool q, .slice b m cb, .int .i64 k] 57))
  have hb := hb.below (bl_alloc w (.cells #[.bool p, .slice a n ca, .bool q, .slice b m cb, .int .i64 k] 57))
  cases hX : wholeOkB p xs
  · have hr : spinOkB p xs q ys k = false := by unfold spinOkB; rw [hX]; rfl
    rw [hr]; clear hr
    go_enter Try.func40, Try.ntmps40
    go_wp2_with fail
    refine (iWholeOk_eq _ _ _ _ xs _ HX.out hn ha hX).mono ?_
    rintro e wv1 ⟨rfl, hb9⟩
    have B1 := bl_step B1 hb9
    obtain ⟨hcB1, hzB1⟩ := kept_box B1
    have ha := ha.below hb9
    have hb := hb.below hb9
    go_wp2_with fail
    go_ret
    exact ⟨rfl, bl_step (bl_alloc _ _) B1⟩
  · cases hY : wholeOkB q ys
    · have hr : spinOkB p xs q ys k = false := by unfold spinOkB; rw [hX, hY]; rfl
      rw [hr]; clear hr
      go_enter Try.func40, Try.ntmps40
      go_wp2_with fail
      refine (iWholeOk_eq _ _ _ _ xs _ HX.out hn ha hX).mono ?_
      rintro e wv1 ⟨rfl, hb9⟩
      have B1 := bl_step B1 hb9
      obtain ⟨hcB1, hzB1⟩ := kept_box B1
      have ha := ha.below hb9
      have hb := hb.below hb9
      go_wp2_with fail
      refine (iWholeOk_eq _ _ _ _ ys _ HY.out hm hb hY).mono ?_
      rintro e wv2 ⟨rfl, hb8⟩
      have B1 := bl_step B1 hb8
      obtain ⟨hcB1, hzB1⟩ := kept_box B1
      have ha := ha.below hb8
      have hb := hb.below hb8
      go_wp2_with fail
      go_ret
      exact ⟨rfl, bl_step (bl_alloc _ _) B1⟩
    · have hr : spinOkB p xs q ys k = inR k 0 2000 := by unfold spinOkB; rw [hX, hY]; rfl
      rw [hr]; clear hr
      go_enter Try.func40, Try.ntmps40
      go_wp2_with fail
      refine (iWholeOk_eq _ _ _ _ xs _ HX.out hn ha hX).mono ?_
      rintro e wv1 ⟨rfl, hb9⟩
      have B1 := bl_step B1 hb9
      obtain ⟨hcB1, hzB1⟩ := kept_box B1
      have ha := ha.below hb9
      have hb := hb.below hb9
      go_wp2_with fail
      refine (iWholeOk_eq _ _ _ _ ys _ HY.out hm hb hY).mono ?_
      rintro e wv2 ⟨rfl, hb8⟩
      have B1 := bl_step B1 hb8
      obtain ⟨hcB1, hzB1⟩ := kept_box B1
      have ha := ha.below hb8
      have hb := hb.below hb8
      go_wp2_with (go_at_call 57; refine (inRange_any _ _ _ _).mono ?_; rintro e w9 ⟨rfl, rfl⟩)
      go_ret
      exact ⟨rfl, bl_step (bl_alloc _ _) B1⟩
theorem eqWhole_eq (neg : Bool) (a a' : Option Addr) (n cap cap' : Nat) (zs : List Int) (w : World) (hz : zs.length = n) (hn : n ≤ 1048576) (ha : RowAt .i64 w a zs) (ha' : RowAt .i64 w a' zs) :
    Calls Try.prog 31 #[.agg #[.bool neg, .slice a n cap], .agg #[.bool neg, .slice a' n cap']] w fun e w' => e = .returned (.bool true) ∧ Below w.heap.size w w' := by
  have := eqWhole_any neg neg a a' n n cap cap' zs zs w hz hz hn hn ha ha'
  rw [show (neg == neg && zs == zs) = true by simp] at this
  exact this
set_option maxHeartbeats 1000000 in
theorem eqSpin_eq (p : Bool) (a a' : Option Addr) (n ca ca' : Nat) (q : Bool) (b b' : Option Addr) (m cb cb' : Nat) (k : Int) (xs ys : List Int) (w : World) (hx : xs.length = n) (hy : ys.length = m) (hn : n ≤ 1048576) (hm : m ≤ 1048576)
    (ha : RowAt .i64 w a xs) (ha' : RowAt .i64 w a' xs) (hb : RowAt .i64 w b ys) (hb' : RowAt .i64 w b' ys) :
    Calls Try.prog 41 #[.agg #[.bool p, .slice a n ca, .bool q, .slice b m cb, .int .i64 k], .agg #[.bool p, .slice a' n ca', .bool q, .slice b' m cb', .int .i64 k]] w fun e w' => e = .returned (.bool true) ∧ Below w.heap.size w w' := by
  have HX := Lib.hid hx; clear hx
  have HY := Lib.hid hy; clear hy
  have hW := bl_al (bl_alloc w (.cells #[.bool p, .slice a n ca, .bool q, .slice b m cb, .int .i64 k] 57)) (.cells #[.bool p, .slice a' n ca', .bool q, .slice b' m cb', .int .i64 k] 57)
  have B1 := bl_alloc (w.alloc (.cells #[.bool p, .slice a n ca, .bool q, .slice b m cb, .int .i64 k] 57)) (.cells #[.bool p, .slice a' n ca', .bool q, .slice b' m cb', .int .i64 k] 57)
  have B2 := Below.refl ((w.alloc (.cells #[.bool p, .slice a n ca, .bool q, .slice b m cb, .int .i64 k] 57)).alloc (.cells #[.bool p, .slice a' n ca', .bool q, .slice b' m cb', .int .i64 k] 57)).heap.size ((w.alloc (.cells #[.bool p, .slice a n ca, .bool q, .slice b m cb, .int .i64 k] 57)).alloc (.cells #[.bool p, .slice a' n ca', .bool q, .slice b' m cb', .int .i64 k] 57))
  have ha := ha.below hW
  have hb := hb.below hW
  have ha' := ha'.below hW
  have hb' := hb'.below hW
  clear hW
  go_enter Try.func41, Try.ntmps41
  go_wp2_with fail
  refine (eqWhole_eq _ _ _ _ _ _ xs _ HX.out hn ha ha').mono ?_
  rintro e wv1 ⟨rfl, hb9⟩
  have B1 := bl_step B1 hb9
  obtain ⟨hcB1, hzB1⟩ := kept_box B1
  have B2 := bl_step B2 hb9
  obtain ⟨hcB2, hzB2⟩ := kept_box_at (n := w.heap.size + 1) (by simp) B2
  have ha := ha.below hb9
  have hb := hb.below hb9
  have ha' := ha'.below hb9
  have hb' := hb'.below hb9
  go_wp2_with fail
  refine (eqWhole_eq _ _ _ _ _ _ ys _ HY.out hm hb hb').mono ?_
  rintro e wv2 ⟨rfl, hb8⟩
  have B1 := bl_step B1 hb8
  obtain ⟨hcB1, hzB1⟩ := kept_box B1
  have B2 := bl_step B2 hb8
  obtain ⟨hcB2, hzB2⟩ := kept_box_at (n := w.heap.size + 1) (by simp) B2
  have ha := ha.below hb8
  have hb := hb.below hb8
  have ha' := ha'.below hb8
  have hb' := hb'.below hb8
  go_wp2_with fail
  go_ret
  exact ⟨rfl, bl_step (bl_alloc _ _) B1⟩
set_option maxHeartbeats 1000000 in
theorem walkFnExactSpinOk (a0 : Bool) (a1 : Option Addr) (len1 cap1 : Nat) (z1 : List Int) (a2 : Bool) (a3 : Option Addr) (len3 cap3 : Nat) (z3 : List Int) (a4 : Int) (w : World) (w1 : IsRow .i64 w a1 len1 cap1 z1) (w3 : IsRow .i64 w a3 len3 cap3 z3) (w4 : (Lit.int .i64 a4).wf = true) :
    Calls Try.prog 9 #[.agg #[.bool a0, .slice a1 len1 cap1, .bool a2, .slice a3 len3 cap3, .int .i64 a4]] w fun e w' => e = .returned (.bool true) ∧ Below w.heap.size w w' := by
  obtain ⟨r0, hx, hwf⟩ := w1.rowAt
  obtain ⟨s0, hy, hwf3⟩ := w3.rowAt
  have hml1 := w1.len_le
  have hml3 := w3.len_le
  clear w1 hwf w3 hwf3 w4
  generalize z1.take len1 = xs at *
  generalize z3.take len3 = ys at *
  have HX := Lib.hid hx; clear hx
  have HY := Lib.hid hy; clear hy
  have r0 := r0.below (bl_alloc w (.cells #[.bool a0, .slice a1 len1 cap1, .bool a2, .slice a3 len3 cap3, .int .i64 a4] 53))
  have s0 := s0.below (bl_alloc w (.cells #[.bool a0, .slice a1 len1 cap1, .bool a2, .slice a3 len3 cap3, .int .i64 a4] 53))
  have B1 := Below.refl (w.alloc (.cells #[.bool a0, .slice a1 len1 cap1, .bool a2, .slice a3 len3 cap3, .int .i64 a4] 53)).heap.size (w.alloc (.cells #[.bool a0, .slice a1 len1 cap1, .bool a2, .slice a3 len3 cap3, .int .i64 a4] 53))
  by_cases hsz : (if szB 1048576 len1 < 0 then -1 else szB (szB 1048576 len1) len3) < 0
  · have HSZ := Lib.hid hsz
    generalize hv : (if szB 1048576 len1 < 0 then -1 else szB (szB 1048576 len1) len3) = v at *
    have HV := Lib.hid hv; clear hv
    go_enter Try.func9, Try.ntmps9
    go_wp2_with fail
    refine (szSpin_any _ _ _ _ _ _ _ _ _ _ _ hml1 hml3 (by omega) (by omega)).mono ?_
    rintro e w2 ⟨rfl, hb⟩
    rw [HV.out]
    go_wp2_with fail
    go_ret
    exact ⟨rfl, bl_step (bl_alloc _ _) (bl_step B1 hb)⟩
  · have hf : len1 ≤ 1048576 ∧ len3 ≤ 1048576 := by
      by_cases hq : szB 1048576 len1 < 0
      · rw [if_pos hq] at hsz; omega
      · rw [if_neg hq] at hsz
        have := (szB_fits hq)
        have := (szB_fits hsz)
        omega
    obtain ⟨h1, h3⟩ := hf
    generalize hv : (if szB 1048576 len1 < 0 then -1 else szB (szB 1048576 len1) len3) = v at *
    have HV := Lib.hid hv; clear hv
    go_enter Try.func9, Try.ntmps9
    go_wp2_with fail
    refine (szSpin_any _ _ _ _ _ _ _ _ _ _ _ hml1 hml3 (by omega) (by omega)).mono ?_
    rintro e wv1 ⟨rfl, hb⟩
    rw [HV.out]
    have B1 := bl_step B1 hb
    obtain ⟨hcB1, hzB1⟩ := kept_box B1
    have r0 := r0.below hb
    have s0 := s0.below hb
    go_wp2_with fail
    refine (toSpin_any _ _ _ _ _ _ _ _ _ xs ys _ HX.out HY.out h1 h3 r0 s0).mono ?_
    rintro e wv2 ⟨X1, Y1, rfl, r1, s1, hb⟩
    have B1 := bl_step B1 hb
    obtain ⟨hcB1, hzB1⟩ := kept_box B1
    have r0 := r0.below hb
    have s0 := s0.below hb
    go_wp2_with fail
    refine (sSpinOk_any _ _ _ _ _ _ _ _ _ xs ys _ HX.out HY.out h1 h3 r1 s1).mono ?_
    rintro e wv3 ⟨rfl, hb⟩
    have B1 := bl_step B1 hb
    obtain ⟨hcB1, hzB1⟩ := kept_box B1
    have r0 := r0.below hb
    have s0 := s0.below hb
    have r1 := r1.below hb
    have s1 := s1.below hb
    go_wp2_with fail
    refine (toSpin_any _ _ _ _ _ _ _ _ _ xs ys _ HX.out HY.out h1 h3 r0 s0).mono ?_
    rintro e wv4 ⟨X2, Y2, rfl, r2, s2, hb⟩
    have B1 := bl_step B1 hb
    obtain ⟨hcB1, hzB1⟩ := kept_box B1
    have r0 := r0.below hb
    have s0 := s0.below hb
    have hb := bl_alloc wv4 (.cells #[.bool a0, .slice (some ⟨X2, 0, none⟩) len1 len1, .bool a2, .slice (some ⟨Y2, 0, none⟩) len3 len3, .int .i64 a4] 57)
    have B1 := bl_step B1 hb
    obtain ⟨hcB1, hzB1⟩ := kept_box B1
    have r0 := r0.below hb
    have s0 := s0.below hb
    have r2 := r2.below hb
    have s2 := s2.below hb
    have B2 := Below.refl (wv4.alloc (.cells #[.bool a0, .slice (some ⟨X2, 0, none⟩) len1 len1, .bool a2, .slice (some ⟨Y2, 0, none⟩) len3 len3, .int .i64 a4] 57)).heap.size (wv4.alloc (.cells #[.bool a0, .slice (some ⟨X2, 0, none⟩) len1 len1, .bool a2, .slice (some ⟨Y2, 0, none⟩) len3 len3, .int .i64 a4] 57))
    go_wp2_with fail
    refine (iSpinOk_any _ _ _ _ _ _ _ _ _ xs ys _ HX.out HY.out h1 h3 r2 s2).mono ?_
    rintro e wv5 ⟨rfl, hb⟩
    have B1 := bl_step B1 hb
    obtain ⟨hcB1, hzB1⟩ := kept_box B1
    have B2 := bl_step B2 hb
    obtain ⟨hcB2, hzB2⟩ := kept_box B2
    have r0 := r0.below hb
    have s0 := s0.below hb
    have r2 := r2.below hb
    have s2 := s2.below hb
    go_wp2_with fail
    have B1d := bl_dr B1
    have B2d := bl_dr B2
    have r0d := r0.below (bl_drew wv5)
    have s0d := s0.below (bl_drew wv5)
    have r2d := r2.below (bl_drew wv5)
    have s2d := s2.below (bl_drew wv5)
    (first | go_region_with (first
      | (go_at_call 39; refine (toSpin_any _ _ _ _ _ _ _ _ _ xs ys _ HX.out HY.out h1 h3 r0d s0d).mono ?_; rintro e w6 ⟨X3, Y3, rfl, r3, s3, hb6⟩; have B1e := bl_step B1d hb6; have B2e := bl_step B2d hb6; have r2e := r2d.below hb6; have s2e := s2d.below hb6; obtain ⟨hc7, hz7⟩ := kept_box B1e; obtain ⟨hc8, hz8⟩ := kept_box B2e)
      | (go_at_call 41; refine (eqSpin_eq _ _ _ _ _ _ _ _ _ _ _ _ _ xs ys _ HX.out HY.out h1 h3 r2e r3 s2e s3).mono ?_; rintro e w7 ⟨rfl, hb7⟩)) | fail)
    all_goals go_wp2
    all_goals go_ret
    all_goals exact ⟨rfl, bl_step (bl_alloc _ _) (bl_step B1e hb7)⟩
end Go.Proofs.Ytmgdfefffgjddaa
