/-
  PROVED: the contract of the parts of a turn.
  CONDITIONS: none.
-/
import Derived.Test.YtimjfcipkmcgmaaTurn
namespace Go.Proofs.Ytimjfcipkmcgmaa
open Go.ChangeShapes Go.WideShapes Go.ChangeAt Go.RowKit
set_option linter.unusedVariables false
def partB (A f K : Nat) : Bool := decide (A * K % 2 ^ f = 0)
def partN (A f K m : Nat) : Int := if A * K % 2 ^ f = 0 then ((A * K / 2 ^ f % m : Nat) : Int) else 0
theorem partB_no {A f K : Nat} (h : ¬ A * K % 2 ^ f = 0) : partB A f K = false := decide_eq_false h
theorem partB_yes {A f K : Nat} (h : A * K % 2 ^ f = 0) : partB A f K = true := decide_eq_true h
theorem partN_no {A f K m : Nat} (h : ¬ A * K % 2 ^ f = 0) : partN A f K m = 0 := if_neg h
theorem partN_yes {A f K m : Nat} (h : A * K % 2 ^ f = 0) : partN A f K m = ((A * K / 2 ^ f % m : Nat) : Int) := if_pos h
theorem cmp_no {Z D : Nat} (h : ¬ Z % D = 0) : (cmpN (Z / D * D) Z != 0) = true := by
  have h1 : Z / D * D < Z := by
    have := Nat.div_add_mod Z D
    have e : D * (Z / D) = Z / D * D := Nat.mul_comm _ _
    omega
  rw [cmpN_lt h1]; rfl
theorem cmp_yes {Z D : Nat} (h : Z % D = 0) : (cmpN (Z / D * D) Z != 0) = false := by
  have h1 : Z / D * D = Z := by
    have := Nat.div_add_mod Z D
    have e : D * (Z / D) = Z / D * D := Nat.mul_comm _ _
    omega
  rw [h1, cmpN_eq]; rfl
theorem nl_three {m : Nat} (h : m ≤ 18446744073709551616) : nl m ≤ 3 := nl_le (Nat.lt_of_le_of_lt h (by decide))
theorem ret_bi {b : Bool} {x y : Int} (h : x = y) : Ending.returned (.tuple #[.bool b, .int .i64 x]) = .returned (.tuple #[.bool b, .int .i64 y]) := by rw [h]
theorem low_mod {q m : Nat} (hm : m = 2 ∨ m = 4) : dg24 q 0 % m = q % m := by
  rw [dg24_z]
  rcases hm with rfl | rfl <;> omega
theorem sWholeOf_any (a : Int) (w : World) (h1 : -9223372036854775808 ≤ a) (h2 : a ≤ 9223372036854775807) :
    Calls Try.prog 57 #[.int .i64 a] w fun e w' => ∃ v s, e = .returned (.agg #[.bool s, v]) ∧ LimbAt w' v a.natAbs ∧ Below w.heap.size w w' := by
  by_cases h : 0 ≤ a
  · obtain ⟨N, rfl⟩ := Int.eq_ofNat_of_zero_le h
    exact (sWholeOf_pos N w (by omega) (by omega)).mono fun e w' ⟨v, he, hl, hb⟩ => ⟨v, false, he, by simpa using hl, hb⟩
  · obtain ⟨N, rfl⟩ : ∃ N : Nat, a = -(N : Int) := ⟨a.natAbs, by omega⟩
    exact (sWholeOf_neg N w (by omega) (by omega)).mono fun e w' ⟨v, he, hl, hb⟩ => ⟨v, true, he, by simpa using hl, hb⟩
set_option maxHeartbeats 2000000 in
theorem l20Part_any (a : Int) (f K m : Nat) (w : World) (ha : -2305843009213693952 ≤ a) (ha2 : a ≤ 2305843009213693952) (hf : f ≤ 60) (hK : 0 < K) (hK2 : K ≤ 8) (hm : m = 2 ∨ m = 4) :
    Calls Try.prog 52 #[.int .i64 a, .int .i64 f, .int .i64 K, .int .i64 m] w fun e w' => e = .returned (.tuple #[.bool (partB a.natAbs f K), .int .i64 (partN a.natAbs f K m)]) ∧ Below w.heap.size w w' := by
  have hA : a.natAbs ≤ 2305843009213693952 := by omega
  have hZ : a.natAbs * K ≤ 18446744073709551616 := by
    have : a.natAbs * K ≤ 2305843009213693952 * 8 := Nat.mul_le_mul hA hK2
    omega
  have hn1 : nl a.natAbs ≤ 3 := nl_three (by omega)
  have hn2 : nl (a.natAbs * K) ≤ 3 := nl_three hZ
  have hn3 : nl (a.natAbs * K / 2 ^ f) ≤ 3 := nl_three (Nat.le_trans (Nat.div_le_self _ _) hZ)
  have hn4 : nl (a.natAbs * K / 2 ^ f * 2 ^ f) ≤ 3 := nl_three (Nat.le_trans (Nat.div_mul_le_self _ _) hZ)
  have HY := Lib.hid (show a.natAbs * K % 2 ^ f = 0 → partB a.natAbs f K = true ∧ partN a.natAbs f K m = ((a.natAbs * K / 2 ^ f % m : Nat) : Int) from fun h => ⟨partB_yes h, partN_yes h⟩)
  have HN := Lib.hid (show ¬ a.natAbs * K % 2 ^ f = 0 → partB a.natAbs f K = false ∧ partN a.natAbs f K m = 0 from fun h => ⟨partB_no h, partN_no h⟩)
  generalize partB a.natAbs f K = rb at *
  generalize partN a.natAbs f K m = rn at *
  have hfd : ∀ (w : World) (s : Bool) (g n c : Nat), (Instr.field 67 (.agg #[.bool s, .slice (some ⟨g, 0, none⟩) n c]) 1).run Try.prog w = .ok (.slice (some ⟨g, 0, none⟩) n c) w := fun _ _ _ _ _ => by kernel_rfl
  go_enter Try.func52, Try.ntmps52
  go_wp2_with fail
  refine (sWholeOf_any a _ (by omega) (by omega)).mono ?_
  rintro e w1 ⟨v1, s1, rfl, hl1, hb1⟩
  have T := hb1
  have HL1 := Lib.hid hl1
  obtain ⟨g1, c1, rfl, _, _⟩ := hl1
  go_wp2_with fail
  refine (sWholeOf_pos K _ (by omega) (by omega)).mono ?_
  rintro e w2 ⟨v2, rfl, hl2, hb2⟩
  replace T := bl_step T hb2
  have HL2 := Lib.hid hl2
  obtain ⟨g2, c2, rfl, _, _⟩ := hl2
  go_wp2_with fail
  refine (l4Mul_any _ _ a.natAbs K _ (HL1.out.below hb2) HL2.out (by omega) hK (by omega)).mono ?_
  rintro e w3 ⟨v3, rfl, hl3, hb3⟩
  replace T := bl_step T hb3
  generalize a.natAbs * K = Z at *
  have HL3 := Lib.hid hl3
  obtain ⟨g3, c3, rfl, _, _⟩ := hl3
  have hb := bl_alloc w3 (.cells #[.bool false, .slice (some ⟨g3, 0, none⟩) (nl Z) c3] 67)
  have x_u := BoxAt.new w3 #[.bool false, .slice (some ⟨g3, 0, none⟩) (nl Z) c3] 67
  replace T := bl_step T hb
  have HL3' := Lib.hid (HL3.out.below hb)
  have hcu := x_u.cell
  have hU : w3.heap.size < (w3.alloc (.cells #[.bool false, .slice (some ⟨g3, 0, none⟩) (nl Z) c3] 67)).heap.size := x_u.lt
  go_wp2_with fail
  refine (l4Floor_any _ Z f _ HL3'.out (by omega) (by omega) (by omega)).mono ?_
  rintro e w5 ⟨v5, rfl, hl5, hb5⟩
  replace T := bl_step T hb5
  have HL5 := Lib.hid hl5
  obtain ⟨g5, c5, rfl, _, _⟩ := hl5
  replace x_u := x_u.below hb5
  clear hcu hU hb
  have hb6 := bl_alloc w5 (.cells #[.bool false, .slice (some ⟨g5, 0, none⟩) (nl (Z / 2 ^ f)) c5] 67)
  have x_q := BoxAt.new w5 #[.bool false, .slice (some ⟨g5, 0, none⟩) (nl (Z / 2 ^ f)) c5] 67
  replace T := bl_step T hb6
  replace x_u := x_u.below hb6
  have HL3'' := Lib.hid ((HL3'.out.below hb5).below hb6)
  have HL5' := Lib.hid (HL5.out.below hb6)
  clear HL3 HL3' HL5 hb6
  go_wp2_with fail
  have hb7 := bl_drew (w5.alloc (.cells #[.bool false, .slice (some ⟨g5, 0, none⟩) (nl (Z / 2 ^ f)) c5] 67))
  replace T := bl_step T hb7
  replace x_u := x_u.below hb7
  replace x_q := x_q.below hb7
  have k0 : _ ∧ _ := ⟨x_u.duo, x_q.duo⟩
  have HL3d := Lib.hid (HL3''.out.below hb7)
  have HL5d := Lib.hid (HL5'.out.below hb7)
  clear hb7
  go_region_held3 (fun w' => (w'.cell? ⟨w3.heap.size, 0, none⟩ = some (.bool false) ∧ w'.cell? ⟨w3.heap.size, 1, none⟩ = some (.slice (some ⟨g3, 0, none⟩) (nl Z) c3)) ∧ w'.cell? ⟨w5.heap.size, 0, none⟩ = some (.bool false) ∧ w'.cell? ⟨w5.heap.size, 1, none⟩ = some (.slice (some ⟨g5, 0, none⟩) (nl (Z / 2 ^ f)) c5))
    (first | with_reducible exact k2 | with_reducible exact k1 | with_reducible exact k0)
    (first
    | (go_at_call 59; refine (l4Cmp_any _ _ (Z / 2 ^ f * 2 ^ f) Z _ HL7.out (HL3d.out.below hb7) (by omega) (by omega)).mono ?_; rintro e w8 ⟨rfl, hb8⟩; have x_q8 := (x_q.below hb7).below hb8; have k2 : _ ∧ _ := ⟨((x_u.below hb7).below hb8).duo, x_q8.duo⟩)
    | (go_at_call 60; refine (l4Up_any _ (Z / 2 ^ f) f _ HL5d.out (by omega) (by omega) (by omega)).mono ?_; rintro e w7 ⟨v7, rfl, hl7, hb7⟩; have HL7 := Lib.hid hl7; obtain ⟨g7, c7, rfl, _, _⟩ := hl7; have k1 : _ ∧ _ := ⟨(x_u.below hb7).duo, (x_q.below hb7).duo⟩))
  replace T := bl_step T (bl_step hb7 hb8)
  by_cases hdv : Z % 2 ^ f = 0
  · obtain ⟨e1, e2⟩ := HY.out hdv
    subst e1 e2
    have hc := cmp_yes hdv
    generalize hq : Z / 2 ^ f = q at *
    have HLQ := Lib.hid ((HL5d.out.below hb7).below hb8)
    obtain ⟨hq0, hq1⟩ := x_q8.duo
    have hl := x_q8.lt
    have HQ := Lib.hid hq
    clear hq HY HN
    by_cases h0 : nl q = 0
    · have hq0' : q = 0 := by
        rcases Nat.eq_zero_or_pos q with h | h
        · exact h
        · have := nl_ne_zero h; omega
      have hn0 : ((nl q : Int) == 0) = true := by rw [h0]; rfl
      have HM := Lib.hid hq0'
      clear hq0'
      go_wp2
      go_ret2
      exact ⟨ret_bi (by rw [HQ.out, HM.out]; simp), T⟩
    · have hn0 : ((nl q : Int) == 0) = false := by rw [beq_eq_false_iff_ne]; omega
      have hcell : w8.cell? ⟨g5, 0, none⟩ = some (.int .i64 ((dg24 q 0 : Nat) : Int)) := by
        obtain ⟨g, c, hv, _, hr⟩ := HLQ.out
        injection hv with e1 _ _
        simp only [Option.some.injEq, Addr.mk.injEq, and_true] at e1
        subst e1
        have h := cells_of_row (limbs_len q) hr 0 (by omega)
        rwa [show (limbs q).getD 0 0 = (dg24 q 0 : Int) from digs_get q (by omega)] at h
      have HM := Lib.hid (low_mod (q := q) hm)
      have hm1 : (1 : Int) ≤ (m : Int) := by omega
      have hm2 : ((m : Int) == 0) = false := by rw [beq_eq_false_iff_ne]; omega
      have hm3 : m ≠ 0 := by omega
      have hd := dg24_lt q 0
      go_wp2_with fail
      go_quiet (fail)
      go_wp2
      go_ret2
      exact ⟨ret_bi (by rw [HQ.out, ← HM.out]; simp), bl_dn T _⟩
  · obtain ⟨e1, e2⟩ := HN.out hdv
    subst e1 e2
    have hc := cmp_no hdv
    go_wp2
    go_ret2
    exact ⟨rfl, T⟩
end Go.Proofs.Ytimjfcipkmcgmaa
