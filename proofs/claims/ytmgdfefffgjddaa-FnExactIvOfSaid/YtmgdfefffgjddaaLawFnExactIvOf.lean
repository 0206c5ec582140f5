/-
  PROVED: the Go function laws.FnExactIvOf returns true for every input, and each argument reads afterwards as it read before ('Rows.FnExactIvOfSaid').
  CONDITIONS: none beyond the row's own.
-/
import Derived.Test.YtmgdfefffgjddaaIvL
import Derived.WalkKit
import Derived.ProofKit
import Derived.OpenShut
import Derived.ShutString
import Derived.ChangeOld
import Derived.Below
namespace Go.Proofs.Ytmgdfefffgjddaa.lawFnExactIvOf
open Go.ChangeShapes Go.WideShapes Go.ChangeAt Go.RowKit
open Go.ChangeMaps (open_string shut_string)
set_option linter.unusedVariables false

set_option maxRecDepth 100000 in
set_option maxHeartbeats 1000000 in
theorem lifted (os : Os) (started : os.Started) (H : Type) (enc : TypeId × Value → H) :
    ReturnsInHanded {} Try.checked os 11 .any (Rows.fnExactIvOfSpec.pre6 enc Try.prog Try.f11 Rows.fnExactIvOfRow.domain false) (Rows.fnExactIvOfSpec.post enc Try.prog Try.f11 false true false false) := by
  refine returnsInHanded_of_change (C := Try.checked) own started (by kernel_rfl) Try.func11
    (ChangeSpec.witness6 (enc := enc) (C := Try.checked) false ⟨#[], #[.agg #[.bool false, .slice none 0 0]], []⟩ 8 (by kernel_rfl) (by kernel_rfl) (by kernel_rfl) (by kernel_rfl)) ?_
  intro W base args ds gs before hval0 hW hcnd _
  have hval : ∀ (j : Nat) t v, Try.f11.params[j]? = some t → args[j]? = some v → Value.okWide Try.prog W .any base t v := hval0
  have hW' := hW
  obtain ⟨p, q, hA0, hV, rfl, hfz, hnd⟩ := hW
  have hA : DataW.TrodAll enc Try.prog W 0 (fun _ => true) true Try.f11.params.toList args.toList ds p := hA0
  rw [Try.params11] at hA hval
  obtain ⟨v0, vs0, d0, ds0, p0, q0, hargs, rfl, rfl, h0, r0⟩ := trodAll_cons hA
  obtain ⟨rfl, rfl, rfl⟩ := trodAll_nil r0
  obtain rfl : args = #[v0] := by cases args; simp_all
  obtain ⟨rfl, rfl⟩ := trodVars_none hV
  have k0 := h0
  have lt0 : ∀ x ∈ p0, x.block < W.heap.size := by obtain ⟨m, hm⟩ := k0; exact DataW.trod_lt m _ _ _ hm
  obtain ⟨cs0, rfl, hsz0⟩ := okWide_struct Try.underlying38 (hval 0 38 v0 rfl rfl)
  obtain ⟨c0_0, c0_1, rfl⟩ := arr2 (hsz0.trans (show Try.prog.cellsOf 38 = 2 by kernel_rfl))
  obtain ⟨fuel0, hf0⟩ := h0
  have hg0 : DataW.trod enc Try.prog W 0 (fun _ => true) true fuel0 38 [c0_0, c0_1] = some (d0, p0) := by simpa [Value.cells] using hf0
  obtain ⟨y1, n1, hy1⟩ : ∃ y n, DataW.trod enc Try.prog W 0 (fun _ => true) true n 4 [c0_0] = some y := field_at Try.underlying38 hg0 0 _ rfl 0 1 (by rfl) (by kernel_rfl)
  obtain ⟨a0, e0, _⟩ := DataW.trod_bool Try.underlying4 hy1
  obtain rfl := List.singleton_inj.mp e0
  obtain ⟨y2, n2, hy2⟩ : ∃ y n, DataW.trod enc Try.prog W 0 (fun _ => true) true n 27 [c0_1] = some y := field_at Try.underlying38 hg0 1 _ rfl 1 1 (by rfl) (by kernel_rfl)
  obtain ⟨a1, len1, cap1, z1, e1, w1⟩ := row_of (k := .i64) Try.underlying27 Try.underlying3 (by kernel_rfl) hy2
  obtain rfl := List.singleton_inj.mp e1
  clear hA0 hval0
  refine (walkFnExactIvOf a0 a1 len1 cap1 z1 W w1).mono fun e W' ⟨he, bel⟩ => ?_
  subst he
  exact ⟨_, rfl, _, _, _, [], _, [], hW', trodAll_mk1 (shut_bool Try.underlying4 _), (trodAll_cons_mk (Below.trod laidOut (by kernel_rfl) (of_decide_eq_true (by kernel_rfl)) k0 bel lt0) trodAll_mk0), rfl, bel.frame _, fun h => by cases h⟩

theorem over : Rows.fnExactIvOfRow.holds Try.pinned (OpenSpec.ofChange Rows.fnExactIvOfSpec) :=
  OpenClaim.holds_of_wide 11 Try.f11 rfl rfl rfl rfl rfl rfl rfl ⟨rfl, rfl, rfl, rfl, rfl⟩ rfl rfl rfl rfl rfl (by kernel_rfl) Try.func11 (by kernel_rfl)
    (of_decide_eq_true (by kernel_rfl)) (by unfold Func.isWrapper; first | (rw [if_pos (by decide +kernel)]; kernel_rfl) | (rw [if_neg (by decide +kernel)]; exact ⟨rfl, rfl⟩))
    (fun os started H enc _ => lifted os started H enc)

theorem proved : Rows.FnExactIvOfSaid := over
#print axioms proved
end Go.Proofs.Ytmgdfefffgjddaa.lawFnExactIvOf
