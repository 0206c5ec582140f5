/-
  PROVED: contracts of the making of an interval of one number, and of the marking of intervals.
  CONDITIONS: none.
-/
import Derived.Test.YtmgdfefffgjddaaNeg
import Derived.Deep.RegionHeld3
namespace Go.Proofs.Ytmgdfefffgjddaa
open Go.ChangeShapes Go.WideShapes Go.ChangeAt Go.RowKit
set_option linter.unusedVariables false
theorem BoxAt.two {w : World} {b : Nat} {c0 c1 : Value} (h : BoxAt w b #[c0, c1]) : w.cell? ⟨b, 0, none⟩ = some c0 ∧ w.cell? ⟨b, 1, none⟩ = some c1 := ⟨h.cell 0, h.cell 1⟩
def IvOwn (s : Bool) (zs : List Int) (w : World) : Ending → World → Prop := fun e w' =>
  ∃ a c b d mid, e = .returned (.agg #[.bool s, .slice a zs.length c, .bool s, .slice b zs.length d]) ∧ w.heap.size ≤ mid ∧ mid ≤ w'.heap.size ∧ OwnA .i64 w' w.heap.size mid a zs ∧ OwnA .i64 w' mid w'.heap.size b zs ∧ Below w.heap.size w w'
def ivS (neg : Bool) (zs : List Int) : Bool := wholeOkB neg zs && neg
def ivL (neg : Bool) (zs : List Int) : List Int := if wholeOkB neg zs = true then zs else []
theorem ivS_no {neg : Bool} {zs : List Int} (h : wholeOkB neg zs = false) : ivS neg zs = false := by unfold ivS; rw [h]; rfl
theorem ivL_no {neg : Bool} {zs : List Int} (h : wholeOkB neg zs = false) : ivL neg zs = [] := by unfold ivL; rw [if_neg (by rw [h]; simp)]
theorem ivS_ok {neg : Bool} {zs : List Int} (h : wholeOkB neg zs = true) : ivS neg zs = neg := by unfold ivS; rw [h]; rfl
theorem ivL_ok {neg : Bool} {zs : List Int} (h : wholeOkB neg zs = true) : ivL neg zs = zs := by unfold ivL; rw [if_pos h]
theorem ok_sign {neg : Bool} {zs : List Int} (h : wholeOkB neg zs = true) : (neg && decide (0 < zs.length)) = neg := by
  unfold wholeOkB at h
  rw [Bool.and_eq_true] at h
  cases neg
  · rfl
  · have h2 := h.2
    cases zs with
    | nil => simp at h2
    | cons x r => simp
theorem set_four {w : World} {r : Nat} {u0 u1 u2 u3 : Value} (h : BoxAt w r #[u0, u1, u2, u3]) :
    (∀ x y z t, ((((w.setCell ⟨r, 0, none⟩ x).setCell ⟨r, 1, none⟩ y).setCell ⟨r, 2, none⟩ z).setCell ⟨r, 3, none⟩ t).cell? ⟨r, 0, none⟩ = some x) ∧
    (∀ x y z t, ((((w.setCell ⟨r, 0, none⟩ x).setCell ⟨r, 1, none⟩ y).setCell ⟨r, 2, none⟩ z).setCell ⟨r, 3, none⟩ t).cell? ⟨r, 1, none⟩ = some y) ∧
    (∀ x y z t, ((((w.setCell ⟨r, 0, none⟩ x).setCell ⟨r, 1, none⟩ y).setCell ⟨r, 2, none⟩ z).setCell ⟨r, 3, none⟩ t).cell? ⟨r, 2, none⟩ = some z) ∧
    (∀ x y z t, ((((w.setCell ⟨r, 0, none⟩ x).setCell ⟨r, 1, none⟩ y).setCell ⟨r, 2, none⟩ z).setCell ⟨r, 3, none⟩ t).cell? ⟨r, 3, none⟩ = some t) := by
  have h0 : w.cell? ⟨r, 0, none⟩ = some u0 := h.cell 0
  have h1 : w.cell? ⟨r, 1, none⟩ = some u1 := h.cell 1
  have h2 : w.cell? ⟨r, 2, none⟩ = some u2 := h.cell 2
  have h3 : w.cell? ⟨r, 3, none⟩ = some u3 := h.cell 3
  have n : ∀ (v : World) (i j : Nat) (x : Value), i ≠ j → (v.setCell ⟨r, i, none⟩ x).cell? ⟨r, j, none⟩ = v.cell? ⟨r, j, none⟩ := fun v i j x hij => World.cell?_setCell_other _ _ _ _ (by simp)
  refine ⟨fun x y z t => ?_, fun x y z t => ?_, fun x y z t => ?_, fun x y z t => ?_⟩
  · rw [n _ _ _ _ (by omega), n _ _ _ _ (by omega), n _ _ _ _ (by omega)]; exact World.cell?_setCell_same _ _ _ h0
  · rw [n _ _ _ _ (by omega), n _ _ _ _ (by omega)]; exact World.cell?_setCell_same (u := u1) _ _ _ (by rw [n _ _ _ _ (by omega)]; exact h1)
  · rw [n _ _ _ _ (by omega)]; exact World.cell?_setCell_same (u := u2) _ _ _ (by rw [n _ _ _ _ (by omega), n _ _ _ _ (by omega)]; exact h2)
  · exact World.cell?_setCell_same (u := u3) _ _ _ (by rw [n _ _ _ _ (by omega), n _ _ _ _ (by omega), n _ _ _ _ (by omega)]; exact h3)
theorem out_four {w : World} {r : Nat} (x y z t : Value) : Out r (r + 1) w ((((w.setCell ⟨r, 0, none⟩ x).setCell ⟨r, 1, none⟩ y).setCell ⟨r, 2, none⟩ z).setCell ⟨r, 3, none⟩ t) :=
  ((((Out.refl r (r + 1) w).setCell (Nat.le_refl _) (Nat.lt_succ_self _) 0 x).setCell (Nat.le_refl _) (Nat.lt_succ_self _) 1 y).setCell (Nat.le_refl _) (Nat.lt_succ_self _) 2 z).setCell (Nat.le_refl _) (Nat.lt_succ_self _) 3 t
set_option maxHeartbeats 2000000 in
theorem l10Copy_any (neg : Bool) (b n c : Nat) (zs : List Int) (w : World) (hz : zs.length = n) (hn : n ≤ 1048576) (ha : RowAt .i64 w (some ⟨b, 0, none⟩) zs) :
    Calls Try.prog 65 #[.agg #[.bool neg, .slice (some ⟨b, 0, none⟩) n c]] w (WholeOwn (neg && decide (0 < zs.length)) zs w) := by
  obtain ⟨i0, hi, hz0, hz1, hz2⟩ := info_parts infoInt
  have HZ := Lib.hid hz; clear hz
  have hb2 : Below w.heap.size w ((w.alloc (.cells #[.bool neg, .slice (some ⟨b, 0, none⟩) n c] 41)).alloc (.cells #[.bool false, .slice none 0 0] 41)) := bl_al (bl_alloc _ _) _
  have hb3 : Below w.heap.size w (((w.alloc (.cells #[.bool neg, .slice (some ⟨b, 0, none⟩) n c] 41)).alloc (.cells #[.bool false, .slice none 0 0] 41)).alloc (.cells #[] 3)).drew := (bl_al hb2 _).drew
  have hb23 : Below ((w.alloc (.cells #[.bool neg, .slice (some ⟨b, 0, none⟩) n c] 41)).alloc (.cells #[.bool false, .slice none 0 0] 41)).heap.size ((w.alloc (.cells #[.bool neg, .slice (some ⟨b, 0, none⟩) n c] 41)).alloc (.cells #[.bool false, .slice none 0 0] 41)) (((w.alloc (.cells #[.bool neg, .slice (some ⟨b, 0, none⟩) n c] 41)).alloc (.cells #[.bool false, .slice none 0 0] 41)).alloc (.cells #[] 3)).drew := (bl_alloc _ _).drew
  have HOWN := Lib.hid (show (((w.alloc (.cells #[.bool neg, .slice (some ⟨b, 0, none⟩) n c] 41)).alloc (.cells #[.bool false, .slice none 0 0] 41)).alloc (.cells #[] 3)).drew.ownsRow ((w.alloc (.cells #[.bool neg, .slice (some ⟨b, 0, none⟩) n c] 41)).alloc (.cells #[.bool false, .slice none 0 0] 41)).heap.size 3 1 (.slice (some ⟨w.heap.size + 1 + 1, 0, none⟩) 0 0) 0 [] from by
    have h := World.ownsRow_made (e := 3) (size := 1) ((w.alloc (.cells #[.bool neg, .slice (some ⟨b, 0, none⟩) n c] 41)).alloc (.cells #[.bool false, .slice none 0 0] 41)) #[] 0 (Nat.le_refl _) (Nat.zero_le _) rfl
    have e1 : ((w.alloc (.cells #[.bool neg, .slice (some ⟨b, 0, none⟩) n c] 41)).alloc (.cells #[.bool false, .slice none 0 0] 41)).heap.size = w.heap.size + 1 + 1 := by simp
    rw [e1] at h
    rw [e1]
    simpa using h.drew)
  have HNEWS : Hid (∀ j u, (zs.map (Value.int .i64))[j]? = some u → (((w.alloc (.cells #[.bool neg, .slice (some ⟨b, 0, none⟩) n c] 41)).alloc (.cells #[.bool false, .slice none 0 0] 41)).alloc (.cells #[] 3)).drew.cell? ((⟨b, 0, none⟩ : Addr).add j) = some u) := by
    intro j u hj
    have hjn : j < zs.length := by
      have := (List.getElem?_eq_some_iff.1 hj).1
      simpa using this
    rw [Addr.add_lit]
    rcases ha.below hb3 with h | ⟨b', off', hab, hlt, hc⟩
    · rw [h] at hjn; exact absurd hjn (by simp)
    · simp only [Option.some.injEq, Addr.mk.injEq, and_true] at hab
      obtain ⟨rfl, rfl⟩ := hab
      rw [hc j hjn]
      have e : (zs.map (Value.int .i64))[j]? = some (Value.int .i64 (zs.getD j 0)) := by simp [List.getD, List.getElem?_eq_getElem hjn]
      rw [e] at hj
      exact hj
  have HL : Hid ((zs.map (Value.int .i64)).length = n * 1) := by show _ = _; simp [HZ.out]
  have H1 : Hid (∀ u ∈ zs.map (Value.int .i64), u.oneCell' = true) := by intro u hu; obtain ⟨x, _, rfl⟩ := List.mem_map.1 hu; rfl
  have h63 : 0 + n ≤ maxLen := by unfold maxLen; omega
  have hby : (0 + n) * 8 ≤ 140737488355328 := by omega
  have hbase := hb23.size
  have H63 := Lib.hid h63; clear h63
  have HBY := Lib.hid hby; clear hby
  have HBS := Lib.hid hbase; clear hbase
  have HG : Hid (((w.alloc (.cells #[.bool neg, .slice (some ⟨b, 0, none⟩) n c] 41)).alloc (.cells #[.bool false, .slice none 0 0] 41)).heap.size ≤ w.heap.size + 1 + 1) := by show _ ≤ _; simp
  have X0 := (BoxAt.new w #[.bool neg, .slice (some ⟨b, 0, none⟩) n c] 41).below (bl_alloc (w.alloc (.cells #[.bool neg, .slice (some ⟨b, 0, none⟩) n c] 41)) (.cells #[.bool false, .slice none 0 0] 41))
  have R0 := BoxAt.new_at (w.alloc (.cells #[.bool neg, .slice (some ⟨b, 0, none⟩) n c] 41)) #[.bool false, .slice none 0 0] 41 (n := w.heap.size + 1) (by simp)
  have HI := Lib.hid hi; clear hi
  clear ha
  go_enter Try.func65, Try.ntmps65
  go_wp2_with fail
  go_region_law (first
    | (refine step_append_own rfl _ _ 27 rfl ((w.alloc (.cells #[.bool neg, .slice (some ⟨b, 0, none⟩) n c] 41)).alloc (.cells #[.bool false, .slice none 0 0] 41)).heap.size 3 i0 (.int .i64 0) 1 8 Try.underlying27 HI.out hz0 hz1 hz2 rfl (by decide) _ 0 [] rfl HOWN.out ⟨b, 0, none⟩ n c (zs.map (Value.int .i64)) rfl HL.out HNEWS.out H1.out H63.out HBY.out HBS.out ?_; intro v1 w1 hown hgrow; obtain ⟨a1, c1, rfl, hoa⟩ := own_of_row (K := .i64) (v := v1) (E := 3) (lo := ((w.alloc (.cells #[.bool neg, .slice (some ⟨b, 0, none⟩) n c] 41)).alloc (.cells #[.bool false, .slice none 0 0] 41)).heap.size) (hi := w1.heap.size) (by simpa using hown) HZ.out (Nat.le_refl _); have hg1 := grown2 hb23 hgrow HBS.out HG.out; have hcx1 := (X0.below hg1).cell; clear hown hgrow)
    | (go_simp; go_at_call 72; refine (l4Make_any _ _ _ _ _ hn).mono ?_; rintro e w2 ⟨rfl, hbm⟩; have hg2 := bl_step hg1 hbm; have hoa2 := hoa.below hbm; have hr2 := R0.below hg2; have hcx2 := (X0.below hg2).cell; have hc2 := hr2.cell; have hf2 : ∀ i, w2.frozen? ⟨w.heap.size + 1, i, none⟩ = false := fun i => (hg2.frozen (p := ⟨w.heap.size + 1, i, none⟩) (by simp)).trans (by simp)))
  all_goals go_wp2
  all_goals obtain ⟨_, g1, g2⟩ := set_two hr2
  all_goals refine bodyPost_ret (v := .agg #[.bool (neg && decide (0 < n)), .slice a1 n c1]) (by simp [results, Try.results65, go_sem, g1, g2]) rfl ?_
  all_goals
    have hO := out_two (w := w2) (r := w.heap.size + 1) (.bool (neg && decide (0 < n))) (.slice a1 n c1)
    have e1 : ((w.alloc (.cells #[.bool neg, .slice (some ⟨b, 0, none⟩) n c] 41)).alloc (.cells #[.bool false, .slice none 0 0] 41)).heap.size = w.heap.size + 1 + 1 := by simp
    have hoa3 := (hoa2.out hO (.inr (by rw [e1]; exact Nat.le_refl _))).wide (lo' := w.heap.size) (hi' := w2.heap.size) (by rw [e1]; omega) hbm.size
    refine ⟨a1, c1, by rw [HZ.out], hoa3.wide (Nat.le_refl _) hO.size, below_out (bl_step hb2 hg2) hO (by omega)⟩
set_option maxHeartbeats 2000000 in
theorem sIvOf_any (neg : Bool) (b n c : Nat) (zs : List Int) (w : World) (hz : zs.length = n) (hn : n ≤ 1048576) (ha : RowAt .i64 w (some ⟨b, 0, none⟩) zs) :
    Calls Try.prog 46 #[.agg #[.bool neg, .slice (some ⟨b, 0, none⟩) n c]] w (IvOwn (ivS neg zs) (ivL neg zs) w) := by
  have HZ := Lib.hid hz; clear hz
  have hb2 : Below w.heap.size w ((w.alloc (.cells #[.bool neg, .slice (some ⟨b, 0, none⟩) n c] 41)).alloc (.cells #[.bool false, .slice none 0 0, .bool false, .slice none 0 0] 64)) := bl_al (bl_alloc _ _) _
  have X0 := (BoxAt.new w #[.bool neg, .slice (some ⟨b, 0, none⟩) n c] 41).below (bl_alloc (w.alloc (.cells #[.bool neg, .slice (some ⟨b, 0, none⟩) n c] 41)) (.cells #[.bool false, .slice none 0 0, .bool false, .slice none 0 0] 64))
  have R0 := BoxAt.new_at (w.alloc (.cells #[.bool neg, .slice (some ⟨b, 0, none⟩) n c] 41)) #[.bool false, .slice none 0 0, .bool false, .slice none 0 0] 64 (n := w.heap.size + 1) (by simp)
  have e1 : ((w.alloc (.cells #[.bool neg, .slice (some ⟨b, 0, none⟩) n c] 41)).alloc (.cells #[.bool false, .slice none 0 0, .bool false, .slice none 0 0] 64)).heap.size = w.heap.size + 1 + 1 := by simp
  have E1 := Lib.hid e1; clear e1
  have ha2 := ha.below hb2
  clear ha
  cases hok : wholeOkB neg zs
  · rw [ivS_no hok, ivL_no hok]
    go_enter Try.func46, Try.ntmps46
    go_wp2_with fail
    refine (sWholeOk_eq _ _ _ _ zs _ HZ.out hn ha2 hok).mono ?_
    rintro e w1 ⟨rfl, hb⟩
    have hr1 := R0.below hb
    have hc1 := hr1.cell
    have hx1 := (X0.below hb).cell
    have hf1 : ∀ i, w1.frozen? ⟨w.heap.size + 1, i, none⟩ = false := fun i => (hb.frozen (p := ⟨w.heap.size + 1, i, none⟩) (by simp)).trans (by simp)
    go_wp2_with fail
    obtain ⟨g0, g1, g2, g3⟩ := set_four hr1
    refine bodyPost_ret (v := .agg #[.bool false, .slice none 0 0, .bool false, .slice none 0 0]) (by simp [results, Try.results46, go_sem, g0, g1, g2, g3]) rfl ?_
    have hO := out_four (w := w1) (r := w.heap.size + 1) (.bool false) (.slice none 0 0) (.bool false) (.slice none 0 0)
    exact ⟨none, 0, none, 0, w.heap.size, rfl, Nat.le_refl _, Nat.le_trans (bl_step hb2 hb).size hO.size, own_nil _ _ _ _, own_nil _ _ _ _, below_out (bl_step hb2 hb) hO (by omega)⟩
  · rw [ivS_ok hok, ivL_ok hok]
    have hsg := ok_sign hok
    rw [HZ.out] at hsg
    have HSG := Lib.hid hsg; clear hsg
    go_enter Try.func46, Try.ntmps46
    go_wp2_with fail
    refine (sWholeOk_eq _ _ _ _ zs _ HZ.out hn ha2 hok).mono ?_
    rintro e w1 ⟨rfl, hb⟩
    have hbd := hb.drew
    have hx1 := (X0.below hb).cell
    have k1 := (X0.below hbd).two
    have ha3 := ha2.below hbd
    go_wp2_with fail
    go_region_held3 (fun w' => w'.cell? ⟨w.heap.size, 0, none⟩ = some (.bool neg) ∧ w'.cell? ⟨w.heap.size, 1, none⟩ = some (.slice (some ⟨b, 0, none⟩) n c))
      (first | with_reducible exact k4 _ _ _ _ | with_reducible exact k3 | with_reducible exact k2 | with_reducible exact k1)
      (first
      | (go_at_call 65; have ha4 := ha3.below hbF; refine (l10Copy_any _ _ _ _ zs _ HZ.out hn ha4).mono ?_; rintro e w3 ⟨a3, c3, he3, o3, hbS⟩; rw [HZ.out] at he3; subst he3; have hg3 := bl_step (bl_step hbd hbF) hbS; have hr3 := R0.below hg3; have k3 := (X0.below hg3).two; have k4 := fun x y z t => ((X0.below hg3).out (out_four (w := w3) (r := w.heap.size + 1) x y z t) (.inl (Nat.lt_succ_self _))).two; have hc3 := hr3.cell; have hf3 : ∀ i, w3.frozen? ⟨w.heap.size + 1, i, none⟩ = false := fun i => (hg3.frozen (p := ⟨w.heap.size + 1, i, none⟩) (by simp)).trans (by simp))
      | (go_at_call 65; refine (l10Copy_any _ _ _ _ zs _ HZ.out hn ha3).mono ?_; rintro e w2 ⟨a2, c2, he2, o2, hbF⟩; rw [HZ.out] at he2; subst he2; have k2 := (X0.below (bl_step hbd hbF)).two))
    go_wp2
    obtain ⟨g0, g1, g2, g3⟩ := set_four hr3
    refine bodyPost_ret (v := .agg #[.bool (neg && decide (0 < n)), .slice a2 n c2, .bool (neg && decide (0 < n)), .slice a3 n c3]) (by simp [results, Try.results46, go_sem, g0, g1, g2, g3]) rfl ?_
    have hO := out_four (w := w3) (r := w.heap.size + 1) (.bool (neg && decide (0 < n))) (.slice a2 n c2) (.bool (neg && decide (0 < n))) (.slice a3 n c3)
    have hle : w.heap.size + 1 + 1 ≤ w1.drew.heap.size := by rw [← E1.out]; exact hbd.size
    have hl2 := hbF.size
    have hl3 := hbS.size
    have p2 := ((o2.below hbS).out hO (.inr hle)).wide (lo' := w.heap.size) (by omega) (Nat.le_refl _)
    have p3 := ((o3.out hO (.inr (Nat.le_trans hle hl2))).wide (Nat.le_refl _) hO.size)
    exact ⟨a2, c2, a3, c3, w2.heap.size, by rw [HZ.out]; rw [HSG.out], by omega, Nat.le_trans hl3 hO.size, p2, p3, below_out (bl_step hb2 hg3) hO (by omega)⟩
set_option maxHeartbeats 2000000 in
theorem iIvOf_any (neg : Bool) (b n c : Nat) (zs : List Int) (w : World) (hz : zs.length = n) (hn : n ≤ 1048576) (ha : RowAt .i64 w (some ⟨b, 0, none⟩) zs) :
    Calls Try.prog 47 #[.agg #[.bool neg, .slice (some ⟨b, 0, none⟩) n c]] w (IvOwn (ivS neg zs) (ivL neg zs) w) := by
  have HZ := Lib.hid hz; clear hz
  have hb2 : Below w.heap.size w ((w.alloc (.cells #[.bool neg, .slice (some ⟨b, 0, none⟩) n c] 41)).alloc (.cells #[.bool false, .slice none 0 0, .bool false, .slice none 0 0] 64)) := bl_al (bl_alloc _ _) _
  have X0 := (BoxAt.new w #[.bool neg, .slice (some ⟨b, 0, none⟩) n c] 41).below (bl_alloc (w.alloc (.cells #[.bool neg, .slice (some ⟨b, 0, none⟩) n c] 41)) (.cells #[.bool false, .slice none 0 0, .bool false, .slice none 0 0] 64))
  have R0 := BoxAt.new_at (w.alloc (.cells #[.bool neg, .slice (some ⟨b, 0, none⟩) n c] 41)) #[.bool false, .slice none 0 0, .bool false, .slice none 0 0] 64 (n := w.heap.size + 1) (by simp)
  have e1 : ((w.alloc (.cells #[.bool neg, .slice (some ⟨b, 0, none⟩) n c] 41)).alloc (.cells #[.bool false, .slice none 0 0, .bool false, .slice none 0 0] 64)).heap.size = w.heap.size + 1 + 1 := by simp
  have E1 := Lib.hid e1; clear e1
  have ha2 := ha.below hb2
  clear ha
  cases hok : wholeOkB neg zs
  · rw [ivS_no hok, ivL_no hok]
    go_enter Try.func47, Try.ntmps47
    go_wp2_with fail
    refine (iWholeOk_eq _ _ _ _ zs _ HZ.out hn ha2 hok).mono ?_
    rintro e w1 ⟨rfl, hb⟩
    have hr1 := R0.below hb
    have hc1 := hr1.cell
    have hx1 := (X0.below hb).cell
    have hf1 : ∀ i, w1.frozen? ⟨w.heap.size + 1, i, none⟩ = false := fun i => (hb.frozen (p := ⟨w.heap.size + 1, i, none⟩) (by simp)).trans (by simp)
    go_wp2_with fail
    obtain ⟨g0, g1, g2, g3⟩ := set_four hr1
    refine bodyPost_ret (v := .agg #[.bool false, .slice none 0 0, .bool false, .slice none 0 0]) (by simp [results, Try.results47, go_sem, g0, g1, g2, g3]) rfl ?_
    have hO := out_four (w := w1) (r := w.heap.size + 1) (.bool false) (.slice none 0 0) (.bool false) (.slice none 0 0)
    exact ⟨none, 0, none, 0, w.heap.size, rfl, Nat.le_refl _, Nat.le_trans (bl_step hb2 hb).size hO.size, own_nil _ _ _ _, own_nil _ _ _ _, below_out (bl_step hb2 hb) hO (by omega)⟩
  · rw [ivS_ok hok, ivL_ok hok]
    have hsg := ok_sign hok
    rw [HZ.out] at hsg
    have HSG := Lib.hid hsg; clear hsg
    go_enter Try.func47, Try.ntmps47
    go_wp2_with fail
    refine (iWholeOk_eq _ _ _ _ zs _ HZ.out hn ha2 hok).mono ?_
    rintro e w1 ⟨rfl, hb⟩
    have hbd := hb.drew
    have hx1 := (X0.below hb).cell
    have k1 := (X0.below hbd).two
    have ha3 := ha2.below hbd
    go_wp2_with fail
    go_region_held3 (fun w' => w'.cell? ⟨w.heap.size, 0, none⟩ = some (.bool neg) ∧ w'.cell? ⟨w.heap.size, 1, none⟩ = some (.slice (some ⟨b, 0, none⟩) n c))
      (first | with_reducible exact k4 _ _ _ _ | with_reducible exact k3 | with_reducible exact k2 | with_reducible exact k1)
      (first
      | (go_at_call 62; have ha4 := ha3.below hbF; refine (clone_any _ _ _ _ zs _ HZ.out hn ha4).mono ?_; rintro e w3 ⟨a3, c3, rfl, o3, hbS⟩; have hg3 := bl_step (bl_step hbd hbF) hbS; have hr3 := R0.below hg3; have k3 := (X0.below hg3).two; have k4 := fun x y z t => ((X0.below hg3).out (out_four (w := w3) (r := w.heap.size + 1) x y z t) (.inl (Nat.lt_succ_self _))).two; have hc3 := hr3.cell; have hf3 : ∀ i, w3.frozen? ⟨w.heap.size + 1, i, none⟩ = false := fun i => (hg3.frozen (p := ⟨w.heap.size + 1, i, none⟩) (by simp)).trans (by simp))
      | (go_at_call 62; refine (clone_any _ _ _ _ zs _ HZ.out hn ha3).mono ?_; rintro e w2 ⟨a2, c2, rfl, o2, hbF⟩; have k2 := (X0.below (bl_step hbd hbF)).two))
    go_wp2
    obtain ⟨g0, g1, g2, g3⟩ := set_four hr3
    refine bodyPost_ret (v := .agg #[.bool neg, .slice a2 n c2, .bool neg, .slice a3 n c3]) (by simp [results, Try.results47, go_sem, g0, g1, g2, g3]) rfl ?_
    have hO := out_four (w := w3) (r := w.heap.size + 1) (.bool neg) (.slice a2 n c2) (.bool neg) (.slice a3 n c3)
    have hle : w.heap.size + 1 + 1 ≤ w1.drew.heap.size := by rw [← E1.out]; exact hbd.size
    have hl2 := hbF.size
    have hl3 := hbS.size
    have p2 := ((o2.below hbS).out hO (.inr hle)).wide (lo' := w.heap.size) (by omega) (Nat.le_refl _)
    have p3 := ((o3.out hO (.inr (Nat.le_trans hle hl2))).wide (Nat.le_refl _) hO.size)
    exact ⟨a2, c2, a3, c3, w2.heap.size, by rw [HZ.out], by omega, Nat.le_trans hl3 hO.size, p2, p3, below_out (bl_step hb2 hg3) hO (by omega)⟩
set_option maxHeartbeats 1000000 in
theorem markIv_any (s : Bool) (a b : Option Addr) (n c d : Nat) (k : Int) (zs : List Int) (lo mid hi : Nat) (w : World) (hz : zs.length = n) (hn : n ≤ 1048576) (hk : 0 ≤ k) (hk2 : k ≤ 1099511) (hlm : lo ≤ mid) (hmh : mid ≤ hi) (ha : OwnA .i64 w lo mid a zs) (hb : OwnA .i64 w mid hi b zs) (hw : hi ≤ w.heap.size) :
    Calls Try.prog 49 #[.agg #[.bool s, .slice a n c, .bool s, .slice b n d], .int .i64 k] w fun e w' => e = .returned (.int .i64 (k + n + n)) ∧ OwnA .i64 w' lo mid a (marks mkI64 k n) ∧ OwnA .i64 w' mid hi b (marks mkI64 (k + n) n) ∧ Out lo hi w w' := by
  have HZ := Lib.hid hz; clear hz
  have hB := bl_alloc w (.cells #[.bool s, .slice a n c, .bool s, .slice b n d] 64)
  have X := BoxAt.new w #[.bool s, .slice a n c, .bool s, .slice b n d] 64
  have ha := ha.below hB
  have hb := hb.below hB
  go_enter Try.func49, Try.ntmps49
  go_wp2_with fail
  refine (markWhole_any _ _ _ _ _ zs lo mid _ HZ.out (by omega) hk (by omega) ha).mono ?_
  rintro e w1 ⟨rfl, o1, ho1⟩
  have hb1 := hb.out ho1 (.inr (Nat.le_refl _))
  have x1 := (X.out ho1 (.inr (by omega))).cell
  go_wp2_with fail
  refine (markWhole_any _ _ _ _ _ zs mid hi _ HZ.out (by omega) (by omega) (by omega) hb1).mono ?_
  rintro e w2 ⟨rfl, o2, ho2⟩
  have o1' := o1.out ho2 (.inl (Nat.le_refl _))
  go_wp2_with fail
  go_ret
  refine ⟨rfl, o1', o2, Out.after hB ?_⟩
  exact ⟨ho2.os.trans ho1.os, ho2.tape.trans ho1.tape, ho2.output.trans ho1.output, Nat.le_trans ho1.size ho2.size, fun i h1 h2 => (ho2.block i (Nat.lt_of_lt_of_le h1 ho1.size) (by omega)).trans (ho1.block i h1 (by omega))⟩
set_option maxHeartbeats 1000000 in
theorem heldIv_any (s : Bool) (a b : Option Addr) (n c d : Nat) (k : Int) (w : World) (hn : n ≤ 1048576) (hk : 0 ≤ k) (hk2 : k ≤ 1099511) (ha : RowAt .i64 w a (marks mkI64 k n)) (hb : RowAt .i64 w b (marks mkI64 (k + n) n)) :
    Calls Try.prog 50 #[.agg #[.bool s, .slice a n c, .bool s, .slice b n d], .int .i64 k] w fun e w' => e = .returned (.int .i64 (k + n + n)) ∧ Below w.heap.size w w' := by
  have hB := bl_alloc w (.cells #[.bool s, .slice a n c, .bool s, .slice b n d] 64)
  have X := BoxAt.new w #[.bool s, .slice a n c, .bool s, .slice b n d] 64
  have ha := ha.below hB
  have hb := hb.below hB
  go_enter Try.func50, Try.ntmps50
  go_wp2_with fail
  refine (heldWhole_any _ _ _ _ _ _ (by omega) hk (by omega) ha).mono ?_
  rintro e w1 ⟨rfl, h1⟩
  have hb1 := hb.below h1
  have x1 := (X.below h1).cell
  go_wp2_with fail
  refine (heldWhole_any _ _ _ _ _ _ (by omega) (by omega) (by omega) hb1).mono ?_
  rintro e w2 ⟨rfl, h2⟩
  go_wp2_with fail
  go_ret
  exact ⟨rfl, bl_step hB (bl_step h1 h2)⟩
set_option maxHeartbeats 1000000 in
theorem eqIv_eq (s : Bool) (a b a' b' : Option Addr) (n c d c' d' : Nat) (zs : List Int) (w : World) (hz : zs.length = n) (hn : n ≤ 1048576) (ha : RowAt .i64 w a zs) (hb : RowAt .i64 w b zs) (ha' : RowAt .i64 w a' zs) (hb' : RowAt .i64 w b' zs) :
    Calls Try.prog 48 #[.agg #[.bool s, .slice a n c, .bool s, .slice b n d], .agg #[.bool s, .slice a' n c', .bool s, .slice b' n d']] w fun e w' => e = .returned (.bool true) ∧ Below w.heap.size w w' := by
  have HZ := Lib.hid hz; clear hz
  have hB1 := bl_alloc (w.alloc (.cells #[.bool s, .slice a n c, .bool s, .slice b n d] 64)) (.cells #[.bool s, .slice a' n c', .bool s, .slice b' n d'] 64)
  have hB := bl_step (bl_alloc w (.cells #[.bool s, .slice a n c, .bool s, .slice b n d] 64)) hB1
  have X := (BoxAt.new w #[.bool s, .slice a n c, .bool s, .slice b n d] 64).below hB1
  have Y := BoxAt.new_at (w.alloc (.cells #[.bool s, .slice a n c, .bool s, .slice b n d] 64)) #[.bool s, .slice a' n c', .bool s, .slice b' n d'] 64 (n := w.heap.size + 1) (by simp)
  have ha := ha.below hB
  have hb := hb.below hB
  have ha' := ha'.below hB
  have hb' := hb'.below hB
  go_enter Try.func48, Try.ntmps48
  go_wp2_with fail
  refine (eqWhole_eq _ _ _ _ _ _ zs _ HZ.out hn ha ha').mono ?_
  rintro e w1 ⟨rfl, h1⟩
  have hb := hb.below h1
  have hb' := hb'.below h1
  have x1 := (X.below h1).cell
  have y1 := (Y.below h1).cell
  go_wp2_with fail
  refine (eqWhole_eq _ _ _ _ _ _ zs _ HZ.out hn hb hb').mono ?_
  rintro e w2 ⟨rfl, h2⟩
  go_wp2_with fail
  go_ret
  exact ⟨rfl, bl_step hB (bl_step h1 h2)⟩
end Go.Proofs.Ytmgdfefffgjddaa
