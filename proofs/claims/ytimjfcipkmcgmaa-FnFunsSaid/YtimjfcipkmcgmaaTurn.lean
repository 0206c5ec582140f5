/-
  PROVED: contracts of the whole numbers that the parts of a turn come to.
  CONDITIONS: none.
-/
import Derived.Test.YtimjfcipkmcgmaaMul
import Derived.Test.YtimjfcipkmcgmaaNeg
namespace Go.Proofs.Ytimjfcipkmcgmaa
open Go.ChangeShapes Go.WideShapes Go.ChangeAt Go.RowKit
set_option linter.unusedVariables false
theorem BoxAt.duo {w : World} {b : Nat} {c0 c1 : Value} (h : BoxAt w b #[c0, c1]) : w.cell? ⟨b, 0, none⟩ = some c0 ∧ w.cell? ⟨b, 1, none⟩ = some c1 := ⟨h.cell 0, h.cell 1⟩
theorem LimbAt.store {w : World} {v : Value} {m r : Nat} {s : Bool} (h : LimbAt w v m) (hr : w.cell? ⟨r, 0, none⟩ = some (.bool s)) (t : Bool) (y : Value) : LimbAt ((w.setCell ⟨r, 0, none⟩ (.bool t)).setCell ⟨r, 1, none⟩ y) v m := by
  obtain ⟨g, c, hv, hc, ha⟩ := h
  refine ⟨g, c, hv, hc, ?_⟩
  rcases ha with ha | ⟨b, off, hab, hlt, hcell⟩
  · exact .inl ha
  · simp only [Option.some.injEq, Addr.mk.injEq, and_true] at hab
    obtain ⟨rfl, rfl⟩ := hab
    by_cases h0 : (limbs m).length = 0
    · exact .inl (List.eq_nil_of_length_eq_zero h0)
    · have hne : g ≠ r := by
        intro e
        subst e
        have := hcell 0 (by omega)
        rw [Nat.zero_add] at this
        rw [hr] at this
        cases this
      have hne2 := Ne.symm hne
      refine .inr ⟨g, 0, rfl, by simpa [World.setCell] using hlt, fun i hi => ?_⟩
      rw [World.cell?_setCell_other _ _ _ _ (fun e => hne2 (by injection e)), World.cell?_setCell_other _ _ _ _ (fun e => hne2 (by injection e))]
      exact hcell i hi
theorem frozen_at (w : World) (cs : Array Value) (t : TypeId) {n : Nat} (h : n = w.heap.size) (i : Nat) : (w.alloc (.cells cs t)).frozen? ⟨n, i, none⟩ = false := by subst h; exact World.frozen?_alloc_new _ _ _ _
/-- a whole number at or above nought, handed back -/
def WRet (m : Nat) (w : World) : Ending → World → Prop := fun e w' => ∃ v, e = .returned (.agg #[.bool false, v]) ∧ LimbAt w' v m ∧ Below w.heap.size w w'
theorem l4Make_lm (v : Value) (m : Nat) (w : World) (hm : nl m ≤ 1000) (hv : LimbAt w v m) :
    Calls Try.prog 61 #[.bool false, v] w fun e w' => e = .returned (.agg #[.bool false, v]) ∧ Below w.heap.size w w' := by
  obtain ⟨g, c, rfl, _, _⟩ := hv
  have := l4Make_any false (some ⟨g, 0, none⟩) (nl m) c w (by omega)
  simpa using this
set_option maxHeartbeats 2000000 in
theorem l4Mul_any (u v : Value) (x K : Nat) (w : World) (hu : LimbAt w u x) (hv : LimbAt w v K) (hx : nl x ≤ 20) (hK : 0 < K) (hK2 : K ≤ 16) :
    Calls Try.prog 56 #[.agg #[.bool false, u], .agg #[.bool false, v]] w (WRet (x * K) w) := by
  have HU := Lib.hid hu
  have HV := Lib.hid hv
  have hnl := times_nl (x := x) hK (by omega : K < 16777216)
  obtain ⟨ga, ca, rfl, _, _⟩ := hu
  obtain ⟨gb, cb, rfl, _, _⟩ := hv
  have T := Below.refl w.heap.size w
  have hb := bl_alloc w (.cells #[.bool false, .slice (some ⟨ga, 0, none⟩) (nl x) ca] 67)
  replace T := bl_step T hb
  have x_a := BoxAt.new_at w #[.bool false, .slice (some ⟨ga, 0, none⟩) (nl x) ca] 67 (n := w.heap.size) (by simp)
  have hb := bl_alloc (w.alloc (.cells #[.bool false, .slice (some ⟨ga, 0, none⟩) (nl x) ca] 67)) (.cells #[.bool false, .slice (some ⟨gb, 0, none⟩) (nl K) cb] 67)
  replace x_a := x_a.below hb
  replace T := bl_step T hb
  have x_b := BoxAt.new_at (w.alloc (.cells #[.bool false, .slice (some ⟨ga, 0, none⟩) (nl x) ca] 67)) #[.bool false, .slice (some ⟨gb, 0, none⟩) (nl K) cb] 67 (n := w.heap.size + 1) (by simp)
  have hb := bl_alloc ((w.alloc (.cells #[.bool false, .slice (some ⟨ga, 0, none⟩) (nl x) ca] 67)).alloc (.cells #[.bool false, .slice (some ⟨gb, 0, none⟩) (nl K) cb] 67)) (.cells #[.bool false, .slice none 0 0] 67)
  replace x_a := x_a.below hb
  replace x_b := x_b.below hb
  replace T := bl_step T hb
  have x_r := BoxAt.new_at ((w.alloc (.cells #[.bool false, .slice (some ⟨ga, 0, none⟩) (nl x) ca] 67)).alloc (.cells #[.bool false, .slice (some ⟨gb, 0, none⟩) (nl K) cb] 67)) #[.bool false, .slice none 0 0] 67 (n := w.heap.size + 1 + 1) (by simp)
  have hb := bl_drew (((w.alloc (.cells #[.bool false, .slice (some ⟨ga, 0, none⟩) (nl x) ca] 67)).alloc (.cells #[.bool false, .slice (some ⟨gb, 0, none⟩) (nl K) cb] 67)).alloc (.cells #[.bool false, .slice none 0 0] 67))
  replace x_a := x_a.below hb
  replace x_b := x_b.below hb
  replace x_r := x_r.below hb
  replace T := bl_step T hb
  have hfr : ∀ i, (((w.alloc (.cells #[.bool false, .slice (some ⟨ga, 0, none⟩) (nl x) ca] 67)).alloc (.cells #[.bool false, .slice (some ⟨gb, 0, none⟩) (nl K) cb] 67)).alloc (.cells #[.bool false, .slice none 0 0] 67)).drew.frozen? ⟨w.heap.size + 1 + 1, i, none⟩ = false := fun i => frozen_at _ _ _ (by simp) i
  have k0 : _ ∧ _ := ⟨x_a.duo, x_b.duo⟩
  clear hb
  go_enter Try.func56, Try.ntmps56
  go_wp2_with fail
  go_region_held3 (fun w' => (w'.cell? ⟨w.heap.size, 0, none⟩ = some (.bool false) ∧ w'.cell? ⟨w.heap.size, 1, none⟩ = some (.slice (some ⟨ga, 0, none⟩) (nl x) ca)) ∧ w'.cell? ⟨w.heap.size + 1, 0, none⟩ = some (.bool false) ∧ w'.cell? ⟨w.heap.size + 1, 1, none⟩ = some (.slice (some ⟨gb, 0, none⟩) (nl K) cb))
    (first | with_reducible exact k2 | with_reducible exact k1 | with_reducible exact k0 | exact ⟨(x_a3.out (out_two _ _) (by omega)).duo, (x_b3.out (out_two _ _) (by omega)).duo⟩)
    (first
    | (go_at_call 61; refine (l4Make_lm _ (x * K) _ (by omega) HL2.out).mono ?_; rintro e w3 ⟨rfl, hb3⟩; have x_r3 := (x_r.below hb2).below hb3; have hcr := x_r3.cell; have hfr3 : ∀ i, w3.frozen? ⟨w.heap.size + 1 + 1, i, none⟩ = false := fun i => ((hb3.frozen (p := ⟨w.heap.size + 1 + 1, i, none⟩) (x_r.below hb2).lt).trans (hb2.frozen (p := ⟨w.heap.size + 1 + 1, i, none⟩) x_r.lt)).trans (hfr i); have x_a3 := (x_a.below hb2).below hb3; have x_b3 := (x_b.below hb2).below hb3; have k2 : _ ∧ _ := ⟨x_a3.duo, x_b3.duo⟩)
    | (go_at_call 62; refine (l2Times_any _ _ x K _ (HU.out.below T) (HV.out.below T) hx hK hK2).mono ?_; rintro e w2 ⟨v2, rfl, hl2, hb2⟩; have HL2 := Lib.hid hl2; obtain ⟨g2, c2, rfl, _, _⟩ := hl2; have k1 : _ ∧ _ := ⟨(x_a.below hb2).duo, (x_b.below hb2).duo⟩))
  all_goals go_wp2
  all_goals obtain ⟨_, g1, g2'⟩ := set_two x_r3
  all_goals refine bodyPost_ret (v := .agg #[.bool false, .slice (some ⟨g2, 0, none⟩) (nl (x * K)) c2]) (by simp [results, Try.results56, go_sem, g1, g2']) rfl ?_
  all_goals exact ⟨_, rfl, (HL2.out.below hb3).store x_r3.duo.1 _ _, below_out (bl_step T (bl_step hb2 hb3)) (out_two _ _) (by omega)⟩
set_option maxHeartbeats 2000000 in
theorem l4Up_any (u : Value) (x k : Nat) (w : World) (hu : LimbAt w u x) (hx : nl x ≤ 100) (hk : k ≤ 600) (hxk : nl (x * 2 ^ k) ≤ 1000) :
    Calls Try.prog 60 #[.agg #[.bool false, u], .int .i64 k] w (WRet (x * 2 ^ k) w) := by
  have HU := Lib.hid hu
  obtain ⟨ga, ca, rfl, _, _⟩ := hu
  have T := Below.refl w.heap.size w
  have hb := bl_alloc w (.cells #[.bool false, .slice (some ⟨ga, 0, none⟩) (nl x) ca] 67)
  replace T := bl_step T hb
  have x_a := BoxAt.new_at w #[.bool false, .slice (some ⟨ga, 0, none⟩) (nl x) ca] 67 (n := w.heap.size) (by simp)
  have hb := bl_alloc (w.alloc (.cells #[.bool false, .slice (some ⟨ga, 0, none⟩) (nl x) ca] 67)) (.cells #[.bool false, .slice none 0 0] 67)
  replace x_a := x_a.below hb
  replace T := bl_step T hb
  have x_r := BoxAt.new_at (w.alloc (.cells #[.bool false, .slice (some ⟨ga, 0, none⟩) (nl x) ca] 67)) #[.bool false, .slice none 0 0] 67 (n := w.heap.size + 1) (by simp)
  have hb := bl_drew ((w.alloc (.cells #[.bool false, .slice (some ⟨ga, 0, none⟩) (nl x) ca] 67)).alloc (.cells #[.bool false, .slice none 0 0] 67))
  replace x_a := x_a.below hb
  replace x_r := x_r.below hb
  replace T := bl_step T hb
  have hfr : ∀ i, ((w.alloc (.cells #[.bool false, .slice (some ⟨ga, 0, none⟩) (nl x) ca] 67)).alloc (.cells #[.bool false, .slice none 0 0] 67)).drew.frozen? ⟨w.heap.size + 1, i, none⟩ = false := fun i => frozen_at _ _ _ (by simp) i
  have k0 := x_a.duo
  clear hb
  go_enter Try.func60, Try.ntmps60
  go_wp2_with fail
  go_region_held3 (fun w' => w'.cell? ⟨w.heap.size, 0, none⟩ = some (.bool false) ∧ w'.cell? ⟨w.heap.size, 1, none⟩ = some (.slice (some ⟨ga, 0, none⟩) (nl x) ca))
    (first | with_reducible exact k2 | with_reducible exact k1 | with_reducible exact k0 | exact (x_a3.out (out_two _ _) (by omega)).duo)
    (first
    | (go_at_call 61; refine (l4Make_lm _ (x * 2 ^ k) _ (by omega) HL2.out).mono ?_; rintro e w3 ⟨rfl, hb3⟩; have x_r3 := (x_r.below hb2).below hb3; have hcr := x_r3.cell; have hfr3 : ∀ i, w3.frozen? ⟨w.heap.size + 1, i, none⟩ = false := fun i => ((hb3.frozen (p := ⟨w.heap.size + 1, i, none⟩) (x_r.below hb2).lt).trans (hb2.frozen (p := ⟨w.heap.size + 1, i, none⟩) x_r.lt)).trans (hfr i); have x_a3 := (x_a.below hb2).below hb3; have k2 := x_a3.duo)
    | (go_at_call 65; refine (l2Up_any _ x k _ (HU.out.below T) hk hx).mono ?_; rintro e w2 ⟨v2, rfl, hl2, hb2⟩; have HL2 := Lib.hid hl2; obtain ⟨g2, c2, rfl, _, _⟩ := hl2; have k1 := (x_a.below hb2).duo))
  all_goals go_wp2
  all_goals obtain ⟨_, g1, g2'⟩ := set_two x_r3
  all_goals refine bodyPost_ret (v := .agg #[.bool false, .slice (some ⟨g2, 0, none⟩) (nl (x * 2 ^ k)) c2]) (by simp [results, Try.results60, go_sem, g1, g2']) rfl ?_
  all_goals exact ⟨_, rfl, (HL2.out.below hb3).store x_r3.duo.1 _ _, below_out (bl_step T (bl_step hb2 hb3)) (out_two _ _) (by omega)⟩
set_option maxHeartbeats 2000000 in
theorem l4Floor_any (u : Value) (x k : Nat) (w : World) (hu : LimbAt w u x) (hx : nl x ≤ 100) (hk : k ≤ 600) (hxk : nl (x / 2 ^ k) ≤ 1000) :
    Calls Try.prog 58 #[.agg #[.bool false, u], .int .i64 k] w (WRet (x / 2 ^ k) w) := by
  have HU := Lib.hid hu
  obtain ⟨ga, ca, rfl, _, _⟩ := hu
  have T := Below.refl w.heap.size w
  have hb := bl_alloc w (.cells #[.bool false, .slice (some ⟨ga, 0, none⟩) (nl x) ca] 67)
  replace T := bl_step T hb
  have x_a := BoxAt.new_at w #[.bool false, .slice (some ⟨ga, 0, none⟩) (nl x) ca] 67 (n := w.heap.size) (by simp)
  have hb := bl_alloc (w.alloc (.cells #[.bool false, .slice (some ⟨ga, 0, none⟩) (nl x) ca] 67)) (.cells #[.bool false, .slice none 0 0] 67)
  replace x_a := x_a.below hb
  replace T := bl_step T hb
  have x_r := BoxAt.new_at (w.alloc (.cells #[.bool false, .slice (some ⟨ga, 0, none⟩) (nl x) ca] 67)) #[.bool false, .slice none 0 0] 67 (n := w.heap.size + 1) (by simp)
  have hfr : ∀ i, ((w.alloc (.cells #[.bool false, .slice (some ⟨ga, 0, none⟩) (nl x) ca] 67)).alloc (.cells #[.bool false, .slice none 0 0] 67)).frozen? ⟨w.heap.size + 1, i, none⟩ = false := fun i => frozen_at _ _ _ (by simp) i
  clear hb
  go_enter Try.func58, Try.ntmps58
  go_wp2_with fail
  refine (l2Down_any _ x k _ (HU.out.below T) hk hx).mono ?_
  rintro e w2 ⟨v2, rfl, hl2, hb2⟩
  have HL2 := Lib.hid hl2; obtain ⟨g2, c2, rfl, _, _⟩ := hl2
  have x_a2 := x_a.below hb2
  obtain ⟨hca0, hca1⟩ := x_a2.duo
  go_wp2_with fail
  go_quiet (fail)
  have hbq := bl_drewN w2 nq
  go_wp2_with fail
  refine (l4Make_lm _ (x / 2 ^ k) _ (by omega) (HL2.out.below hbq)).mono ?_
  rintro e w3 ⟨rfl, hb3⟩
  have hb23 := bl_step hbq hb3
  have x_r3 := (x_r.below hb2).below hb23
  have hcr := x_r3.cell
  have hfr3 : ∀ i, w3.frozen? ⟨w.heap.size + 1, i, none⟩ = false := fun i => ((hb23.frozen (p := ⟨w.heap.size + 1, i, none⟩) (x_r.below hb2).lt).trans (hb2.frozen (p := ⟨w.heap.size + 1, i, none⟩) x_r.lt)).trans (hfr i)
  go_wp2
  obtain ⟨_, g1, g2'⟩ := set_two x_r3
  refine bodyPost_ret (v := .agg #[.bool false, .slice (some ⟨g2, 0, none⟩) (nl (x / 2 ^ k)) c2]) (by simp [results, Try.results58, go_sem, g1, g2']) rfl ?_
  exact ⟨_, rfl, (HL2.out.below hb23).store x_r3.duo.1 _ _, below_out (bl_step T (bl_step hb2 hb23)) (out_two _ _) (by omega)⟩
set_option maxHeartbeats 1000000 in
theorem l4Cmp_any (u v : Value) (x y : Nat) (w : World) (hu : LimbAt w u x) (hv : LimbAt w v y) (hx : nl x ≤ 100) (hy : nl y ≤ 100) :
    Calls Try.prog 59 #[.agg #[.bool false, u], .agg #[.bool false, v]] w fun e w' => e = .returned (.int .i64 (cmpN x y)) ∧ Below w.heap.size w w' := by
  have HU := Lib.hid hu
  have HV := Lib.hid hv
  obtain ⟨ga, ca, rfl, _, _⟩ := hu
  obtain ⟨gb, cb, rfl, _, _⟩ := hv
  have T := Below.refl w.heap.size w
  have hb := bl_alloc w (.cells #[.bool false, .slice (some ⟨ga, 0, none⟩) (nl x) ca] 67)
  replace T := bl_step T hb
  have x_a := BoxAt.new_at w #[.bool false, .slice (some ⟨ga, 0, none⟩) (nl x) ca] 67 (n := w.heap.size) (by simp)
  have hb := bl_alloc (w.alloc (.cells #[.bool false, .slice (some ⟨ga, 0, none⟩) (nl x) ca] 67)) (.cells #[.bool false, .slice (some ⟨gb, 0, none⟩) (nl y) cb] 67)
  replace x_a := x_a.below hb
  replace T := bl_step T hb
  have x_b := BoxAt.new_at (w.alloc (.cells #[.bool false, .slice (some ⟨ga, 0, none⟩) (nl x) ca] 67)) #[.bool false, .slice (some ⟨gb, 0, none⟩) (nl y) cb] 67 (n := w.heap.size + 1) (by simp)
  clear hb
  go_enter Try.func59, Try.ntmps59
  go_wp2_with fail
  refine (l2Cmp_any _ _ x y _ (HU.out.below T) (HV.out.below T) hx hy).mono ?_
  rintro e w2 ⟨rfl, rfl⟩
  go_wp2_with fail
  go_ret
  exact ⟨rfl, T⟩
set_option maxHeartbeats 2000000 in
theorem sWholeOf_pos (N : Nat) (w : World) (hN : 0 ≤ N) (hN2 : N ≤ 9223372036854775808) :
    Calls Try.prog 57 #[.int .i64 (N : Int)] w fun e w' => ∃ v, e = .returned (.agg #[.bool false, v]) ∧ LimbAt w' v N ∧ Below w.heap.size w w' := by
  obtain ⟨i0, hi, hz0, hz1, hz2⟩ := info_parts infoI
  have HI := Lib.hid hi; clear hi
  have hnl : nl N ≤ 3 := nl_le (Nat.lt_of_le_of_lt hN2 (by decide))
  have T := bl_alloc w (.cells #[.bool false, .slice none 0 0] 67)
  have x_r := BoxAt.new_at w #[.bool false, .slice none 0 0] 67 (n := w.heap.size) rfl
  have hfr : ∀ i, (w.alloc (.cells #[.bool false, .slice none 0 0] 67)).frozen? ⟨w.heap.size, i, none⟩ = false := fun i => frozen_at _ _ _ rfl i
  have hs0 : decide ((N : Int) < 0) = false := by simp
  go_enter Try.func57, Try.ntmps57
  go_wp2_with fail
  go_loopw [0, 3] (fun nv o wr => ∃ (c j g cap : Nat), Hid (c = N / 16777216 ^ j) ∧ c ≤ 9223372036854775808 ∧ j ≤ nl N ∧ nv = .int .i64 (c : Int) ∧ o = .slice (some ⟨g, 0, none⟩) j cap ∧ wr.ownsRow (w.heap.size + 1) 3 1 o j ((digs j N).map (Value.int .i64)) ∧ Below (w.heap.size + 1) (w.alloc (.cells #[.bool false, .slice none 0 0] 67)) wr) (fun nv _ _ => (intOf nv).natAbs)
  case atStart => exact ⟨N, 0, w.heap.size + 1, 0, Lib.hid (by simp), by omega, by omega, rfl, rfl, by have h := World.ownsRow_made (e := 3) (size := 1) (w.alloc (.cells #[.bool false, .slice none 0 0] 67)) #[] 0 (Nat.le_refl _) (Nat.zero_le _) rfl; simpa [digs] using h, (Below.refl _ _).alloc (by simp) _⟩
  case round =>
    obtain ⟨c, j, g, cap, HC, hc9, hj, rfl, rfl, hown, hB⟩ := hrel
    have HOWN := Lib.hid hown; clear hown
    by_cases h0 : c = 0
    · subst h0
      have hje : j = nl N := by
        have h := HC.out
        have h2 : N < 16777216 ^ j := by
          rcases Nat.lt_or_ge N (16777216 ^ j) with h3 | h3
          · exact h3
          · have := Nat.div_pos h3 (pow_pos24 j); omega
        have := nl_le h2
        omega
      subst hje
      have HLIM := Lib.hid (show LimbAt wr (.slice (some ⟨g, 0, none⟩) (nl N) cap) N from by
        obtain ⟨h1, h2⟩ := own_caps HOWN.out
        obtain ⟨a9, c9, h9, ho9⟩ := own_of_row (hi := wr.heap.size) HOWN.out (digs_len _ _) (Nat.le_refl _)
        injection h9 with e1
        subst e1
        exact ⟨g, cap, rfl, h1, ho9.row⟩)
      have hB0 : Below (w.alloc (.cells #[.bool false, .slice none 0 0] 67)).heap.size (w.alloc (.cells #[.bool false, .slice none 0 0] 67)) wr := by rw [show (w.alloc (.cells #[.bool false, .slice none 0 0] 67)).heap.size = w.heap.size + 1 by simp]; exact hB
      have x_r1 := x_r.below hB0
      have hdn : decide (0 < nl N) = decide (0 < nl N) := rfl
      go_wp2_with fail
      refine (l4Make_any false (some ⟨g, 0, none⟩) (nl N) cap wr (by omega)).mono ?_
      rintro e w3 ⟨rfl, hb3⟩
      have hff : (false && decide (0 < nl N)) = false := rfl
      rw [hff]
      have x_r3 := x_r1.below hb3
      have hcr := x_r3.cell
      have hfr3 : ∀ i, w3.frozen? ⟨w.heap.size, i, none⟩ = false := fun i => ((hb3.frozen (p := ⟨w.heap.size, i, none⟩) x_r1.lt).trans (hB0.frozen (p := ⟨w.heap.size, i, none⟩) x_r.lt)).trans (hfr i)
      go_wp2
      obtain ⟨_, g1, g2'⟩ := set_two x_r3
      refine bodyPost_ret (v := .agg #[.bool false, .slice (some ⟨g, 0, none⟩) (nl N) cap]) (by simp [results, Try.results57, go_sem, g1, g2']) rfl ?_
      exact ⟨_, rfl, (HLIM.out.below hb3).store x_r3.duo.1 _ _, below_out (bl_step T (bl_step hB0 hb3)) (out_two _ _) (by omega)⟩
    · have hcp : 0 < c := by omega
      have hjl : j < nl N := by
        have h := HC.out
        rcases Nat.lt_or_ge j (nl N) with h2 | h2
        · exact h2
        · have e : j = nl N := by omega
          rw [e, Nat.div_eq_of_lt (lt_pow_nl N)] at h
          omega
      have HT := Lib.hid (show (c : Int) % 16777216 = ((dg24 N j : Nat) : Int) by rw [HC.out]; unfold dg24; simp)
      have HC2 := Lib.hid (show c / 16777216 = N / 16777216 ^ (j + 1) by rw [HC.out, Nat.div_div_eq_div_mul, ← Nat.pow_succ])
      have hm0 : (0 : Int) ≤ (c : Int) % 16777216 := by omega
      clear h0
      go_wp2_with (at_builtin; refine wpList_append_own _ rfl _ _ 56 rfl (w.heap.size + 1) 3 i0 (.int .i64 0) 1 8 Try.underlying56 HI.out hz0 hz1 hz2 rfl (by decide) _ _ _ rfl (HOWN.out.alloc _) ⟨wr.heap.size, 0, none⟩ 1 1 [.int .i64 ((c : Int) % 16777216)] rfl rfl (cell_one_new _ _ _) (ones_row [_]) (by unfold maxLen; omega) (by omega) (by have := hB.size; simp at this; simp; omega) ?_)
      all_goals
        intro v' w3 hown' hgrow _
        have hB' : Below (w.heap.size + 1) (w.alloc (.cells #[.bool false, .slice none 0 0] 67)) w3 := (hB.alloc (by have := hB.size; simp at this; omega) _).grown hgrow (by have := hB.size; simp at this; simp; omega) (own_from HOWN.out)
        obtain ⟨g', c', rfl, _, _⟩ := hown'.form (by omega)
        have HO2 : Hid (w3.ownsRow (w.heap.size + 1) 3 1 (.slice (some ⟨g', 0, none⟩) (j + 1) c') (j + 1) ((digs (j + 1) N).map (Value.int .i64))) := by
          rw [HT.out] at hown'
          rw [digs_snoc]
          show World.ownsRow _ _ _ _ _ _ _
          simpa using hown'
        clear hown' hgrow
        go_wp2
        go_roundw
        case rel => exact ⟨c / 16777216, j + 1, g', c', HC2, by omega, by omega, by go_num, rfl, HO2.out, hB'⟩
        case measure => simp [intOf]; omega
set_option maxHeartbeats 2000000 in
theorem sWholeOf_neg (N : Nat) (w : World) (hN : 0 < N) (hN2 : N ≤ 9223372036854775808) :
    Calls Try.prog 57 #[.int .i64 (-(N : Int))] w fun e w' => ∃ v, e = .returned (.agg #[.bool true, v]) ∧ LimbAt w' v N ∧ Below w.heap.size w w' := by
  obtain ⟨i0, hi, hz0, hz1, hz2⟩ := info_parts infoI
  have HI := Lib.hid hi; clear hi
  have hnl : nl N ≤ 3 := nl_le (Nat.lt_of_le_of_lt hN2 (by decide))
  have T := bl_alloc w (.cells #[.bool false, .slice none 0 0] 67)
  have x_r := BoxAt.new_at w #[.bool false, .slice none 0 0] 67 (n := w.heap.size) rfl
  have hfr : ∀ i, (w.alloc (.cells #[.bool false, .slice none 0 0] 67)).frozen? ⟨w.heap.size, i, none⟩ = false := fun i => frozen_at _ _ _ rfl i
  have hs0 : decide (-(N : Int) < 0) = true := by rw [decide_eq_true_iff]; omega
  go_enter Try.func57, Try.ntmps57
  go_wp2_with fail
  go_loopw [0, 3] (fun nv o wr => ∃ (c j g cap : Nat), Hid (c = N / 16777216 ^ j) ∧ c ≤ 9223372036854775808 ∧ j ≤ nl N ∧ nv = .int .i64 (-(c : Int)) ∧ o = .slice (some ⟨g, 0, none⟩) j cap ∧ wr.ownsRow (w.heap.size + 1) 3 1 o j ((digs j N).map (Value.int .i64)) ∧ Below (w.heap.size + 1) (w.alloc (.cells #[.bool false, .slice none 0 0] 67)) wr) (fun nv _ _ => (intOf nv).natAbs)
  case atStart => exact ⟨N, 0, w.heap.size + 1, 0, Lib.hid (by simp), by omega, by omega, rfl, rfl, by have h := World.ownsRow_made (e := 3) (size := 1) (w.alloc (.cells #[.bool false, .slice none 0 0] 67)) #[] 0 (Nat.le_refl _) (Nat.zero_le _) rfl; simpa [digs] using h, (Below.refl _ _).alloc (by simp) _⟩
  case round =>
    obtain ⟨c, j, g, cap, HC, hc9, hj, rfl, rfl, hown, hB⟩ := hrel
    have HOWN := Lib.hid hown; clear hown
    by_cases h0 : c = 0
    · subst h0
      have hje : j = nl N := by
        have h := HC.out
        have h2 : N < 16777216 ^ j := by
          rcases Nat.lt_or_ge N (16777216 ^ j) with h3 | h3
          · exact h3
          · have := Nat.div_pos h3 (pow_pos24 j); omega
        have := nl_le h2
        omega
      subst hje
      have HLIM := Lib.hid (show LimbAt wr (.slice (some ⟨g, 0, none⟩) (nl N) cap) N from by
        obtain ⟨h1, h2⟩ := own_caps HOWN.out
        obtain ⟨a9, c9, h9, ho9⟩ := own_of_row (hi := wr.heap.size) HOWN.out (digs_len _ _) (Nat.le_refl _)
        injection h9 with e1
        subst e1
        exact ⟨g, cap, rfl, h1, ho9.row⟩)
      have hB0 : Below (w.alloc (.cells #[.bool false, .slice none 0 0] 67)).heap.size (w.alloc (.cells #[.bool false, .slice none 0 0] 67)) wr := by rw [show (w.alloc (.cells #[.bool false, .slice none 0 0] 67)).heap.size = w.heap.size + 1 by simp]; exact hB
      have x_r1 := x_r.below hB0
      have hdn : decide (0 < nl N) = true := by have := nl_ne_zero hN; simp; omega
      go_wp2_with fail
      refine (l4Make_any true (some ⟨g, 0, none⟩) (nl N) cap wr (by omega)).mono ?_
      rintro e w3 ⟨rfl, hb3⟩
      rw [hdn, Bool.and_true]
      have x_r3 := x_r1.below hb3
      have hcr := x_r3.cell
      have hfr3 : ∀ i, w3.frozen? ⟨w.heap.size, i, none⟩ = false := fun i => ((hb3.frozen (p := ⟨w.heap.size, i, none⟩) x_r1.lt).trans (hB0.frozen (p := ⟨w.heap.size, i, none⟩) x_r.lt)).trans (hfr i)
      go_wp2
      obtain ⟨_, g1, g2'⟩ := set_two x_r3
      refine bodyPost_ret (v := .agg #[.bool true, .slice (some ⟨g, 0, none⟩) (nl N) cap]) (by simp [results, Try.results57, go_sem, g1, g2']) rfl ?_
      exact ⟨_, rfl, (HLIM.out.below hb3).store x_r3.duo.1 _ _, below_out (bl_step T (bl_step hB0 hb3)) (out_two _ _) (by omega)⟩
    · have hcp : 0 < c := by omega
      have hjl : j < nl N := by
        have h := HC.out
        rcases Nat.lt_or_ge j (nl N) with h2 | h2
        · exact h2
        · have e : j = nl N := by omega
          rw [e, Nat.div_eq_of_lt (lt_pow_nl N)] at h
          omega
      have HT := Lib.hid (show (c : Int) % 16777216 = ((dg24 N j : Nat) : Int) by rw [HC.out]; unfold dg24; simp)
      have HC2 := Lib.hid (show c / 16777216 = N / 16777216 ^ (j + 1) by rw [HC.out, Nat.div_div_eq_div_mul, ← Nat.pow_succ])
      have hm0 : (0 : Int) ≤ (c : Int) % 16777216 := by omega
      clear h0
      have hne : (-(c : Int) != 0) = true := by rw [bne_iff_ne]; omega
      by_cases hr : (0 : Int) < (c : Int) % 16777216
      · go_wp2_with (at_builtin; refine wpList_append_own _ rfl _ _ 56 rfl (w.heap.size + 1) 3 i0 (.int .i64 0) 1 8 Try.underlying56 HI.out hz0 hz1 hz2 rfl (by decide) _ _ _ rfl (HOWN.out.alloc _) ⟨wr.heap.size, 0, none⟩ 1 1 [.int .i64 ((c : Int) % 16777216)] rfl rfl (cell_one_new _ _ _) (ones_row [_]) (by unfold maxLen; omega) (by omega) (by have := hB.size; simp at this; simp; omega) ?_)
        all_goals
          intro v' w3 hown' hgrow _
          have hB' : Below (w.heap.size + 1) (w.alloc (.cells #[.bool false, .slice none 0 0] 67)) w3 := (hB.alloc (by have := hB.size; simp at this; omega) _).grown hgrow (by have := hB.size; simp at this; simp; omega) (own_from HOWN.out)
          obtain ⟨g', c', rfl, _, _⟩ := hown'.form (by omega)
          have HO2 : Hid (w3.ownsRow (w.heap.size + 1) 3 1 (.slice (some ⟨g', 0, none⟩) (j + 1) c') (j + 1) ((digs (j + 1) N).map (Value.int .i64))) := by
            rw [HT.out] at hown'
            rw [digs_snoc]
            show World.ownsRow _ _ _ _ _ _ _
            simpa using hown'
          clear hown' hgrow
          go_wp2
          go_roundw
          case rel => exact ⟨c / 16777216, j + 1, g', c', HC2, by omega, by omega, by first | rfl | (congr 1; simp) | (congr 1; omega), rfl, HO2.out, hB'⟩
          case measure => simp [intOf]; omega

      · go_wp2_with (at_builtin; refine wpList_append_own _ rfl _ _ 56 rfl (w.heap.size + 1) 3 i0 (.int .i64 0) 1 8 Try.underlying56 HI.out hz0 hz1 hz2 rfl (by decide) _ _ _ rfl (HOWN.out.alloc _) ⟨wr.heap.size, 0, none⟩ 1 1 [.int .i64 (-((c : Int) % 16777216))] rfl rfl (cell_one_new _ _ _) (ones_row [_]) (by unfold maxLen; omega) (by omega) (by have := hB.size; simp at this; simp; omega) ?_)
        all_goals
          intro v' w3 hown' hgrow _
          have hB' : Below (w.heap.size + 1) (w.alloc (.cells #[.bool false, .slice none 0 0] 67)) w3 := (hB.alloc (by have := hB.size; simp at this; omega) _).grown hgrow (by have := hB.size; simp at this; simp; omega) (own_from HOWN.out)
          obtain ⟨g', c', rfl, _, _⟩ := hown'.form (by omega)
          have HO2 : Hid (w3.ownsRow (w.heap.size + 1) 3 1 (.slice (some ⟨g', 0, none⟩) (j + 1) c') (j + 1) ((digs (j + 1) N).map (Value.int .i64))) := by
            rw [show -((c : Int) % 16777216) = (c : Int) % 16777216 by omega, HT.out] at hown'
            rw [digs_snoc]
            show World.ownsRow _ _ _ _ _ _ _
            simpa using hown'
          clear hown' hgrow
          go_wp2
          go_roundw
          case rel => exact ⟨c / 16777216, j + 1, g', c', HC2, by omega, by omega, by first | rfl | (congr 1; simp) | (congr 1; omega), rfl, HO2.out, hB'⟩
          case measure => simp [intOf]; omega
end Go.Proofs.Ytimjfcipkmcgmaa
