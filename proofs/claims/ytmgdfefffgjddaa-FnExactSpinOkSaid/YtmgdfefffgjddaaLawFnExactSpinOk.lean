/-
  PROVED: the Go function laws.FnExactSpinOk returns true for every input, and each argument reads afterwards as it read before ('Rows.FnExactSpinOkSaid').
  CONDITIONS: none beyond the row's own.
-/
import Derived.Test.YtmgdfefffgjddaaSpin
import Derived.WalkKit
import Derived.ProofKit
import Derived.OpenShut
import Derived.ShutString
import Derived.ChangeOld
import Derived.Below
namespace Go.Proofs.Ytmgdfefffgjddaa.lawFnExactSpinOk
open Go.ChangeShapes Go.WideShapes Go.ChangeAt Go.RowKit
open Go.ChangeMaps (open_string shut_string)
set_option linter.unusedVariables false

set_option maxRecDepth 100000 in
set_option maxHeartbeats 1000000 in
theorem lifted (os : Os) (started : os.Started) (H : Type) (enc : TypeId × Value → H) :
    ReturnsInHanded {} Try.checked os 9 .any (Rows.fnExactSpinOkSpec.pre6 enc Try.prog Try.f9 Rows.fnExactSpinOkRow.domain false) (Rows.fnExactSpinOkSpec.post enc Try.prog Try.f9 false true false false) := by
  refine returnsInHanded_of_change (C := Try.checked) own started (by kernel_rfl) Try.func9
    (ChangeSpec.witness6 (enc := enc) (C := Try.checked) false ⟨#[], #[.agg #[.bool false, .slice none 0 0, .bool false, .slice none 0 0, .int .i64 0]], []⟩ 8 (by kernel_rfl) (by kernel_rfl) (by kernel_rfl) (by kernel_rfl)) ?_
  intro W base args ds gs before hval0 hW hcnd _
  have hval : ∀ (j : Nat) t v, Try.f9.params[j]? = some t → args[j]? = some v → Value.okWide Try.prog W .any base t v := hval0
  have hW' := hW
  obtain ⟨p, q, hA0, hV, rfl, hfz, hnd⟩ := hW
  have hA : DataW.TrodAll enc Try.prog W 0 (fun _ => true) true Try.f9.params.toList args.toList ds p := hA0
  rw [Try.params9] at hA hval
  obtain ⟨v0, vs0, d0, ds0, p0, q0, hargs, rfl, rfl, h0, r0⟩ := trodAll_cons hA
  obtain ⟨rfl, rfl, rfl⟩ := trodAll_nil r0
  obtain rfl : args = #[v0] := by cases args; simp_all
  obtain ⟨rfl, rfl⟩ := trodVars_none hV
  have k0 := h0
  have lt0 : ∀ x ∈ p0, x.block < W.heap.size := by obtain ⟨m, hm⟩ := k0; exact DataW.trod_lt m _ _ _ hm
  obtain ⟨cs0, rfl, hsz0⟩ := okWide_struct Try.underlying53 (hval 0 53 v0 rfl rfl)
  obtain ⟨c0_0, c0_1, c0_2, c0_3, c0_4, rfl⟩ := arr5 (hsz0.trans (show Try.prog.cellsOf 53 = 5 by kernel_rfl))
  obtain ⟨fuel0, hf0⟩ := h0
  have hg0 : DataW.trod enc Try.prog W 0 (fun _ => true) true fuel0 53 [c0_0, c0_1, c0_2, c0_3, c0_4] = some (d0, p0) := by simpa [Value.cells] using hf0
  obtain ⟨y1, n1, hy1⟩ : ∃ y n, DataW.trod enc Try.prog W 0 (fun _ => true) true n 38 [c0_0, c0_1] = some y := field_at Try.underlying53 hg0 0 _ rfl 0 2 (by rfl) (by kernel_rfl)
  obtain ⟨y2, n2, hy2⟩ : ∃ y n, DataW.trod enc Try.prog W 0 (fun _ => true) true n 4 [c0_0] = some y := field_at Try.underlying38 hy1 0 _ rfl 0 1 (by rfl) (by kernel_rfl)
  obtain ⟨a0, e0, _⟩ := DataW.trod_bool Try.underlying4 hy2
  obtain rfl := List.singleton_inj.mp e0
  obtain ⟨y3, n3, hy3⟩ : ∃ y n, DataW.trod enc Try.prog W 0 (fun _ => true) true n 27 [c0_1] = some y := field_at Try.underlying38 hy1 1 _ rfl 1 1 (by rfl) (by kernel_rfl)
  obtain ⟨a1, len1, cap1, z1, e1, w1⟩ := row_of (k := .i64) Try.underlying27 Try.underlying3 (by kernel_rfl) hy3
  obtain rfl := List.singleton_inj.mp e1
  obtain ⟨y4, n4, hy4⟩ : ∃ y n, DataW.trod enc Try.prog W 0 (fun _ => true) true n 38 [c0_2, c0_3] = some y := field_at Try.underlying53 hg0 1 _ rfl 2 2 (by rfl) (by kernel_rfl)
  obtain ⟨y5, n5, hy5⟩ : ∃ y n, DataW.trod enc Try.prog W 0 (fun _ => true) true n 4 [c0_2] = some y := field_at Try.underlying38 hy4 0 _ rfl 0 1 (by rfl) (by kernel_rfl)
  obtain ⟨a2, e2, _⟩ := DataW.trod_bool Try.underlying4 hy5
  obtain rfl := List.singleton_inj.mp e2
  obtain ⟨y6, n6, hy6⟩ : ∃ y n, DataW.trod enc Try.prog W 0 (fun _ => true) true n 27 [c0_3] = some y := field_at Try.underlying38 hy4 1 _ rfl 1 1 (by rfl) (by kernel_rfl)
  obtain ⟨a3, len3, cap3, z3, e3, w3⟩ := row_of (k := .i64) Try.underlying27 Try.underlying3 (by kernel_rfl) hy6
  obtain rfl := List.singleton_inj.mp e3
  obtain ⟨y7, n7, hy7⟩ : ∃ y n, DataW.trod enc Try.prog W 0 (fun _ => true) true n 3 [c0_4] = some y := field_at Try.underlying53 hg0 2 _ rfl 4 1 (by rfl) (by kernel_rfl)
  obtain ⟨a4, e4, _, w4⟩ := DataW.trod_int Try.underlying3 hy7
  obtain rfl := List.singleton_inj.mp e4
  clear hA0 hval0
  refine (walkFnExactSpinOk a0 a1 len1 cap1 z1 a2 a3 len3 cap3 z3 a4 W w1 w3 w4).mono fun e W' ⟨he, bel⟩ => ?_
  subst he
  exact ⟨_, rfl, _, _, _, [], _, [], hW', trodAll_mk1 (shut_bool Try.underlying4 _), (trodAll_cons_mk (Below.trod laidOut (by kernel_rfl) (of_decide_eq_true (by kernel_rfl)) k0 bel lt0) trodAll_mk0), rfl, bel.frame _, fun h => by cases h⟩

theorem over : Rows.fnExactSpinOkRow.holds Try.pinned (OpenSpec.ofChange Rows.fnExactSpinOkSpec) :=
  OpenClaim.holds_of_wide 9 Try.f9 rfl rfl rfl rfl rfl rfl rfl ⟨rfl, rfl, rfl, rfl, rfl⟩ rfl rfl rfl rfl rfl (by kernel_rfl) Try.func9 (by kernel_rfl)
    (of_decide_eq_true (by kernel_rfl)) (by unfold Func.isWrapper; first | (rw [if_pos (by decide +kernel)]; kernel_rfl) | (rw [if_neg (by decide +kernel)]; exact ⟨rfl, rfl⟩))
    (fun os started H enc _ => lifted os started H enc)

theorem proved : Rows.FnExactSpinOkSaid := over
#print axioms proved
end Go.Proofs.Ytmgdfefffgjddaa.lawFnExactSpinOk
