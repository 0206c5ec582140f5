/-
  PROVED: contracts of the draws of a raw number.
  CONDITIONS: none.
-/
import Derived.Test.YtldidbejieekcaaL6d
import Derived.Test.YtldidbejieekcaaRaw
namespace Go.Proofs.Ytldidbejieekcaa
open Go.ChangeShapes Go.WideShapes Go.ChangeAt Go.RowKit
set_option linter.unusedVariables false
def IntDraw (w : World) (g : Nat) (S : Src) : Ending → World → Prop := fun e w' => ∃ v : Int, e = .returned (.int .i64 v) ∧ (∃ i h, CurAt w' g S i h) ∧ w.grownBy w' (some g)
theorem pw_bd60r (k : Int) (h : k ≤ 60) : 1 ≤ pw k ∧ pw k ≤ 1152921504606846976 := by
  have h1 : (2 : Nat) ^ k.toNat ≤ 2 ^ 60 := Nat.pow_le_pow_right (by omega) (by omega)
  have h2 : 1 ≤ (2 : Nat) ^ k.toNat := Nat.one_le_two_pow
  have h3 : pw k = ((2 ^ k.toNat : Nat) : Int) := by unfold pw; simp
  rw [h3]
  have h4 : (2 : Nat) ^ 60 = 1152921504606846976 := by decide
  omega
set_option maxHeartbeats 4000000 in
theorem l6Raw_any (w : World) (g : Nat) (S : Src) (i : Nat) (h : Int) (s : Bool) (n l : Int) (hl : l ≤ 60) (hw : CurAt w g S i h) :
    Calls Try.prog 68 #[.pointer (some ⟨g, 0, none⟩), .agg #[.bool s, .int .i64 n, .int .i64 l]] w (IntDraw w g S) := by
  have I0 := (Inv.start hw).add #[.bool s, .int .i64 n, .int .i64 l]
  clear hw
  have HP := Lib.hid (fun W : World => l2Pow_any l W (by omega))
  obtain ⟨hd1, hd2⟩ := pw_bd60r l hl
  generalize pw l = D at *
  have HLE := Lib.hid (fun W : World => sLeast_any s n l W)
  have HMO := Lib.hid (fun W : World => sMost_any s n l W)
  obtain ⟨hlb1, hlb2⟩ := leastB_bd s n l
  obtain ⟨hmb1, hmb2⟩ := mostB_bd s n l
  generalize leastB s n l = lb at *
  generalize mostB s n l = mb at *
  go_enter Try.func68, Try.ntmps68
  go_wp2_with fail
  refine (HP.out _).mono ?_
  rintro e w1 ⟨rfl, rfl⟩
  have J0 := I0.drew
  have k0 := J0.three (.head _)
  go_wp2_with fail
  go_region_held3 (fun w' => (w'.cell? ⟨w.heap.size, 0, none⟩ = some (.bool s) ∧ w'.cell? ⟨w.heap.size, 1, none⟩ = some (.int .i64 n) ∧ w'.cell? ⟨w.heap.size, 2, none⟩ = some (.int .i64 l)))
    (first | with_reducible exact kP | with_reducible exact kA _ | with_reducible exact k8 | with_reducible exact k7 | with_reducible exact k6 | with_reducible exact k5 | with_reducible exact k4 | with_reducible exact k3 | with_reducible exact k2 | with_reducible exact k1 | with_reducible exact k0)
    (first
    | (go_at_call 66; have qP := kA; refine (inv_pick J8 _ 15 _ ?_ ?_ (by omega) (by omega)).mono ?_; (exact List.forall_mem_cons.2 ⟨⟨_, rfl⟩, List.forall_mem_cons.2 ⟨⟨_, rfl⟩, List.forall_mem_cons.2 ⟨⟨_, rfl⟩, List.forall_mem_cons.2 ⟨⟨_, rfl⟩, List.forall_mem_cons.2 ⟨⟨_, rfl⟩, List.forall_mem_cons.2 ⟨⟨_, rfl⟩, List.forall_mem_cons.2 ⟨⟨_, rfl⟩, List.forall_mem_cons.2 ⟨⟨_, rfl⟩, List.forall_mem_cons.2 ⟨⟨_, rfl⟩, List.forall_mem_cons.2 ⟨⟨_, rfl⟩, List.forall_mem_cons.2 ⟨⟨_, rfl⟩, List.forall_mem_cons.2 ⟨⟨_, rfl⟩, List.forall_mem_cons.2 ⟨⟨_, rfl⟩, List.forall_mem_cons.2 ⟨⟨_, rfl⟩, List.forall_mem_cons.2 ⟨⟨_, rfl⟩, List.forall_mem_nil _⟩⟩⟩⟩⟩⟩⟩⟩⟩⟩⟩⟩⟩⟩⟩); (rfl); rintro e xP ⟨v, rfl, JP⟩; have kP := JP.three (.head _))
    | (go_at_call 48; have q7 := y4a; refine (l2Pow_any y4 _ (by omega)).mono ?_; rintro e x7 ⟨rfl, rfl⟩; have J8 := J7; have k8 := J8.three (.head _); have kA := fun A => (J8.below (bl_alloc _ A)).three (.head _))
    | (go_at_call 65; have q6 := J6; refine (inv_below J6 30 (by omega)).mono ?_; rintro e x6 ⟨y4, rfl, ⟨y4a, y4b⟩, J7⟩; have k7 := J7.three (.head _))
    | (go_at_call 65; have q5 := J5; refine (inv_below J5 1000000000 (by omega)).mono ?_; rintro e x5 ⟨y3, rfl, ⟨y3a, y3b⟩, J6⟩; have k6 := J6.three (.head _))
    | (go_at_call 65; have q4 := J4; refine (inv_below J4 1000 (by omega)).mono ?_; rintro e x4 ⟨y2, rfl, ⟨y2a, y2b⟩, J5⟩; have k5 := J5.three (.head _))
    | (go_at_call 65; have q3 := J3; refine (inv_below J3 1000 (by omega)).mono ?_; rintro e x3 ⟨y1, rfl, ⟨y1a, y1b⟩, J4⟩; have k4 := J4.three (.head _))
    | (go_at_call 44; have q2 := J2; refine (HMO.out _).mono ?_; rintro e x2 ⟨rfl, hbx⟩; have J3 := J2.below hbx; have k3 := J3.three (.head _))
    | (go_at_call 44; have q1 := J1; refine (HMO.out _).mono ?_; rintro e x1 ⟨rfl, hbx⟩; have J2 := J1.below hbx; have k2 := J2.three (.head _))
    | (go_at_call 43; have q0 := J0; refine (HLE.out _).mono ?_; rintro e x0 ⟨rfl, hbx⟩; have J1 := J0.below hbx; have k1 := J1.three (.head _)))
  obtain ⟨d0, d1, d2⟩ := JP.three (.head _)
  go_wp2_with fail
  refine (HLE.out _).mono ?_
  rintro e z1 ⟨rfl, hz1⟩
  have JQ := JP.below hz1
  obtain ⟨e0, e1, e2⟩ := JQ.three (.head _)
  by_cases hv : v < lb
  · go_wp2_with fail
    refine (HLE.out _).mono ?_
    rintro e z2 ⟨rfl, hz2⟩
    have JX := JQ.below hz2
    go_wp2_with fail
    go_ret
    exact ⟨_, rfl, JX.cur, JX.own⟩
  · go_wp2_with fail
    refine (HMO.out _).mono ?_
    rintro e z2 ⟨rfl, hz2⟩
    have JR := JQ.below hz2
    obtain ⟨f0, f1, f2⟩ := JR.three (.head _)
    by_cases hv2 : v > mb
    · go_wp2_with fail
      refine (HMO.out _).mono ?_
      rintro e z3 ⟨rfl, hz3⟩
      have JX := JR.below hz3
      go_wp2_with fail
      go_ret
      exact ⟨_, rfl, JX.cur, JX.own⟩
    · have JX := JR
      go_wp2_with fail
      go_ret
      exact ⟨_, rfl, JX.cur, JX.own⟩
set_option maxHeartbeats 4000000 in
theorem l6Bent_any (w : World) (g : Nat) (S : Src) (i : Nat) (h : Int) (s : Bool) (n l : Int) (hw : CurAt w g S i h) :
    Calls Try.prog 58 #[.pointer (some ⟨g, 0, none⟩), .agg #[.bool s, .int .i64 n, .int .i64 l]] w (IntDraw w g S) := by
  have I0 := (Inv.start hw).add #[.bool s, .int .i64 n, .int .i64 l]
  clear hw
  have HLE := Lib.hid (fun W : World => sLeast_any s n l W)
  have HMO := Lib.hid (fun W : World => sMost_any s n l W)
  obtain ⟨hlb1, hlb2⟩ := leastB_bd s n l
  obtain ⟨hmb1, hmb2⟩ := mostB_bd s n l
  generalize leastB s n l = lb at *
  generalize mostB s n l = mb at *
  cases hf : fmtOkB n l
  · have HK := Lib.hid (fun W : World => sfmtOk_eq s n l W hf)
    go_enter Try.func58, Try.ntmps58
    go_wp2_with fail
    refine (HK.out _).mono ?_
    rintro e w1 ⟨rfl, hb1⟩
    have II := I0.below hb1
    obtain ⟨d0, d1, d2⟩ := II.three (.head _)
    have J0 := II.drew
    have k0 := J0.three (.head _)
    go_wp2_with fail
    go_region_held3 (fun w' => (w'.cell? ⟨w.heap.size, 0, none⟩ = some (.bool s) ∧ w'.cell? ⟨w.heap.size, 1, none⟩ = some (.int .i64 n) ∧ w'.cell? ⟨w.heap.size, 2, none⟩ = some (.int .i64 l)))
      (first | with_reducible exact kP | with_reducible exact kA _ | with_reducible exact k2 | with_reducible exact k1 | with_reducible exact k0)
      (first
      | (go_at_call 66; have qP := kA; refine (inv_pick J2 _ 7 _ ?_ ?_ (by omega) (by omega)).mono ?_; (exact List.forall_mem_cons.2 ⟨⟨_, rfl⟩, List.forall_mem_cons.2 ⟨⟨_, rfl⟩, List.forall_mem_cons.2 ⟨⟨_, rfl⟩, List.forall_mem_cons.2 ⟨⟨_, rfl⟩, List.forall_mem_cons.2 ⟨⟨_, rfl⟩, List.forall_mem_cons.2 ⟨⟨_, rfl⟩, List.forall_mem_cons.2 ⟨⟨_, rfl⟩, List.forall_mem_nil _⟩⟩⟩⟩⟩⟩⟩); (rfl); rintro e xP ⟨v, rfl, JP⟩; have kP := JP.three (.head _))
      | (go_at_call 43; have q1 := J1; refine (HLE.out _).mono ?_; rintro e x1 ⟨rfl, hbx⟩; have J2 := J1.below hbx; have k2 := J2.three (.head _); have kA := fun A => (J2.below (bl_alloc _ A)).three (.head _))
      | (go_at_call 44; have q0 := J0; refine (HMO.out _).mono ?_; rintro e x0 ⟨rfl, hbx⟩; have J1 := J0.below hbx; have k1 := J1.three (.head _)))
    go_wp2_with fail
    go_ret
    exact ⟨_, rfl, JP.cur, JP.own⟩
  · have HK := Lib.hid (fun W : World => sfmtOk_eq s n l W hf)
    have hl60 : l ≤ 60 := by have := (fmtOkB_iff n l).1 hf; omega
    go_enter Try.func58, Try.ntmps58
    go_wp2_with fail
    refine (HK.out _).mono ?_
    rintro e w1 ⟨rfl, hb1⟩
    have I1 := I0.below hb1
    clear hf
    go_wp2_with fail
    refine (inv_once I1 12).mono ?_
    rintro e w2 ⟨o, rfl, II⟩
    obtain ⟨d0, d1, d2⟩ := II.three (.head _)
    cases o
    · obtain ⟨i2, h2, hc2⟩ := II.cur
      go_wp2_with fail
      refine (l6Raw_any w2 g S i2 h2 s n l hl60 hc2).mono ?_
      rintro e w3 ⟨v, rfl, hc3, ho3⟩
      go_wp2_with fail
      go_ret
      exact ⟨_, rfl, hc3, only_step II.own ho3⟩
    · have J0 := II.drew
      have k0 := J0.three (.head _)
      go_wp2_with fail
      go_region_held3 (fun w' => (w'.cell? ⟨w.heap.size, 0, none⟩ = some (.bool s) ∧ w'.cell? ⟨w.heap.size, 1, none⟩ = some (.int .i64 n) ∧ w'.cell? ⟨w.heap.size, 2, none⟩ = some (.int .i64 l)))
        (first | with_reducible exact kP | with_reducible exact kA _ | with_reducible exact k2 | with_reducible exact k1 | with_reducible exact k0)
        (first
        | (go_at_call 66; have qP := kA; refine (inv_pick J2 _ 7 _ ?_ ?_ (by omega) (by omega)).mono ?_; (exact List.forall_mem_cons.2 ⟨⟨_, rfl⟩, List.forall_mem_cons.2 ⟨⟨_, rfl⟩, List.forall_mem_cons.2 ⟨⟨_, rfl⟩, List.forall_mem_cons.2 ⟨⟨_, rfl⟩, List.forall_mem_cons.2 ⟨⟨_, rfl⟩, List.forall_mem_cons.2 ⟨⟨_, rfl⟩, List.forall_mem_cons.2 ⟨⟨_, rfl⟩, List.forall_mem_nil _⟩⟩⟩⟩⟩⟩⟩); (rfl); rintro e xP ⟨v, rfl, JP⟩; have kP := JP.three (.head _))
        | (go_at_call 43; have q1 := J1; refine (HLE.out _).mono ?_; rintro e x1 ⟨rfl, hbx⟩; have J2 := J1.below hbx; have k2 := J2.three (.head _); have kA := fun A => (J2.below (bl_alloc _ A)).three (.head _))
        | (go_at_call 44; have q0 := J0; refine (HMO.out _).mono ?_; rintro e x0 ⟨rfl, hbx⟩; have J1 := J0.below hbx; have k1 := J1.three (.head _)))
      go_wp2_with fail
      go_ret
      exact ⟨_, rfl, JP.cur, JP.own⟩
end Go.Proofs.Ytldidbejieekcaa
