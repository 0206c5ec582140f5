/-
  PROVED: contracts of the rungs of precision, and the law on it.
  CONDITIONS: none.
-/
import Derived.Test.YtldidbejieekcaaOwn
namespace Go.Proofs.Ytldidbejieekcaa
open Go.ChangeShapes Go.WideShapes Go.ChangeAt Go.RowKit
set_option linter.unusedVariables false
def RowOwn (K : IntKind) (zs : List Int) (w : World) : Ending → World → Prop := fun e w' =>
  ∃ a c, e = .returned (.slice a zs.length c) ∧ OwnA K w' w.heap.size w'.heap.size a zs ∧ Below w.heap.size w w'
theorem own_none (K : IntKind) (w : World) (lo hi : Nat) : OwnA K w lo hi none [] := .inl ⟨rfl, rfl⟩
def rungsL (f : Int) : List Int := if inR f 0 60 = true then [f + 32, f + 72, f + 132, f + 200] else []
theorem rungsL_len (f : Int) : (rungsL f).length ≤ 4 := by unfold rungsL; split <;> simp
theorem own_new (K : IntKind) (zs : List Int) (w : World) (E : TypeId) (A : Array Value) (hA : A = rowArr K zs) : OwnA K (w.alloc (.cells A E)) w.heap.size (w.alloc (.cells A E)).heap.size (some ⟨w.heap.size, 0, none⟩) zs := by subst hA; exact own_alloc K zs w E
set_option maxHeartbeats 400000 in
theorem isPoint_any (n : Int) (w : World) : Calls Try.prog 42 #[.int .i64 n] w fun e w' => e = .returned (.bool (inR n 0 60)) ∧ w = w' := by
  go_enter Try.func42, Try.ntmps42
  go_wp2_with (go_at_call 45; refine (inRange_any _ _ _ _).mono ?_; rintro e w' ⟨rfl, rfl⟩)
  go_ret
  exact ⟨rfl, rfl⟩
set_option maxHeartbeats 400000 in
theorem sRungs_any (f : Int) (w : World) : Calls Try.prog 15 #[.int .i64 f] w (RowOwn .i64 (rungsL f) w) := by
  cases h : inR f 0 60
  · have hr : rungsL f = [] := by unfold rungsL; rw [if_neg (by simp [h])]
    rw [hr]; clear hr
    go_enter Try.func15, Try.ntmps15
    go_wp2_with (go_at_call 38; refine (l1In_any _ _ _ _).mono ?_; rintro e w' ⟨rfl, rfl⟩)
    go_ret
    exact ⟨some ⟨w.heap.size, 0, none⟩, 0, rfl, own_new _ [] w _ _ rfl, bl_alloc _ _⟩
  · have hr : rungsL f = [f + 32, f + 72, f + 132, f + 200] := by unfold rungsL; rw [if_pos h]
    rw [hr]; clear hr
    obtain ⟨h1, h2⟩ := (inR_iff _ _ _).1 h
    go_enter Try.func15, Try.ntmps15
    go_wp2_with (go_at_call 38; refine (l1In_any _ _ _ _).mono ?_; rintro e w' ⟨rfl, rfl⟩)
    go_ret
    exact ⟨some ⟨w.heap.size, 0, none⟩, 4, rfl, own_new _ [f + 32, f + 72, f + 132, f + 200] w _ _ rfl, bl_alloc _ _⟩
set_option maxHeartbeats 400000 in
theorem iRungs_any (f : Int) (w : World) : Calls Try.prog 16 #[.int .i64 f] w (RowOwn .i64 (rungsL f) w) := by
  cases h : inR f 0 60
  · have hr : rungsL f = [] := by unfold rungsL; rw [if_neg (by simp [h])]
    rw [hr]; clear hr
    go_enter Try.func16, Try.ntmps16
    go_wp2_with (go_at_call 42; refine (isPoint_any _ _).mono ?_; rintro e w' ⟨rfl, rfl⟩)
    go_ret
    exact ⟨none, 0, rfl, own_none _ _ _ _, Below.refl _ _⟩
  · have hr : rungsL f = [f + 32, f + 72, f + 132, f + 200] := by unfold rungsL; rw [if_pos h]
    rw [hr]; clear hr
    obtain ⟨h1, h2⟩ := (inR_iff _ _ _).1 h
    go_enter Try.func16, Try.ntmps16
    go_wp2_with (go_at_call 42; refine (isPoint_any _ _).mono ?_; rintro e w' ⟨rfl, rfl⟩)
    go_ret
    exact ⟨some ⟨w.heap.size, 0, none⟩, 4, rfl, own_new _ [f + 32, f + 72, f + 132, f + 200] w _ _ rfl, bl_alloc _ _⟩
set_option maxHeartbeats 1000000 in
theorem walkFnExactRungs (a0 : Int) (w : World) (w0 : (Lit.int .i64 a0).wf = true) :
    Calls Try.prog 4 #[.int .i64 a0] w fun e w' => e = .returned (.bool true) ∧ Below w.heap.size w w' := by
  clear w0
  have hl : (rungsL a0).length ≤ 1048576 := by have := rungsL_len a0; omega
  have T := Below.refl w.heap.size w
  go_enter Try.func4, Try.ntmps4
  go_wp2_with fail
  refine (sRungs_any _ _).mono ?_
  rintro e wv1 ⟨a3, c3, rfl, o_3, hb⟩
  have hs1 : _ ≤ wv1.heap.size := hb.size
  replace T := bl_step T hb
  go_wp2_with fail
  refine (iRungs_any _ _).mono ?_
  rintro e wv2 ⟨a4, c4, rfl, o_4, hb⟩
  have hs2 : _ ≤ wv2.heap.size := hb.size
  replace o_3 := o_3.below hb
  replace T := bl_step T hb
  go_wp2_with fail
  refine (eqIntS_any _ _ _ _ _ _ (rungsL a0) (rungsL a0) _ rfl rfl hl hl o_4.row o_3.row).mono ?_
  rintro e wv3 ⟨rfl, hb⟩
  have hs3 : _ ≤ wv3.heap.size := hb.size
  replace o_3 := o_3.below hb
  replace o_4 := o_4.below hb
  replace T := bl_step T hb
  have heq : ((rungsL a0) == (rungsL a0)) = true := by simp
  rw [heq]
  clear heq
  go_wp2_with fail
  refine (markIntS_any _ _ _ _ (rungsL a0) _ _ _ rfl (by omega) (by omega) (by omega) o_4).mono ?_
  rintro e wv4 ⟨rfl, o_4', ho⟩
  replace o_3 := o_3.out ho (by omega)
  replace T := below_out T ho (by omega)
  have hs4 := ho.size
  replace o_4 := o_4'
  go_wp2_with fail
  refine (heldIntS_any _ _ _ _ _ (by omega) (by omega) (by omega) o_4.row).mono ?_
  rintro e wv5 ⟨rfl, rfl⟩
  go_wp2_with fail
  refine (iRungs_any _ _).mono ?_
  rintro e wv6 ⟨a7, c7, rfl, o_7, hb⟩
  have hs6 : _ ≤ wv6.heap.size := hb.size
  replace o_3 := o_3.below hb
  replace o_4 := o_4.below hb
  replace T := bl_step T hb
  go_wp2_with fail
  refine (eqIntS_any _ _ _ _ _ _ (rungsL a0) (rungsL a0) _ rfl rfl hl hl o_7.row o_3.row).mono ?_
  rintro e wv7 ⟨rfl, hb⟩
  have hs7 : _ ≤ wv7.heap.size := hb.size
  replace o_3 := o_3.below hb
  replace o_4 := o_4.below hb
  replace o_7 := o_7.below hb
  replace T := bl_step T hb
  have heq : ((rungsL a0) == (rungsL a0)) = true := by simp
  rw [heq]
  clear heq
  go_wp2_with fail
  refine (heldIntS_any _ _ _ _ _ (by omega) (by omega) (by omega) o_4.row).mono ?_
  rintro e wv8 ⟨rfl, rfl⟩
  go_wp2_with fail
  go_ret
  exact ⟨rfl, T⟩
end Go.Proofs.Ytldidbejieekcaa
