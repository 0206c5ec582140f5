/-
  PROVED: the Go function laws.FnExactBitsText returns true for every input, and each argument reads afterwards as it read before ('Rows.FnExactBitsTextSaid').
  CONDITIONS: none beyond the row's own.
-/
import Derived.Test.YtldidbejieekcaaBits
import Derived.WalkKit
import Derived.ProofKit
import Derived.OpenShut
import Derived.ShutString
import Derived.ChangeOld
import Derived.Below
namespace Go.Proofs.Ytldidbejieekcaa.lawFnExactBitsText
open Go.ChangeShapes Go.WideShapes Go.ChangeAt Go.RowKit
open Go.ChangeMaps (open_string shut_string)
set_option linter.unusedVariables false

set_option maxRecDepth 100000 in
set_option maxHeartbeats 1000000 in
theorem lifted (os : Os) (started : os.Started) (H : Type) (enc : TypeId × Value → H) :
    ReturnsInHanded {} Try.checked os 9 .any (Rows.fnExactBitsTextSpec.pre6 enc Try.prog Try.f9 Rows.fnExactBitsTextRow.domain false) (Rows.fnExactBitsTextSpec.post enc Try.prog Try.f9 false true false false) := by
  refine returnsInHanded_of_change (C := Try.checked) own started (by kernel_rfl) Try.func9
    (ChangeSpec.witness6 (enc := enc) (C := Try.checked) false ⟨#[], #[.agg #[.bool false, .int .i64 0, .int .i64 0], .int .i64 0], []⟩ 8 (by kernel_rfl) (by kernel_rfl) (by kernel_rfl) (by kernel_rfl)) ?_
  intro W base args ds gs before hval0 hW hcnd _
  have hval : ∀ (j : Nat) t v, Try.f9.params[j]? = some t → args[j]? = some v → Value.okWide Try.prog W .any base t v := hval0
  have hW' := hW
  obtain ⟨p, q, hA0, hV, rfl, hfz, hnd⟩ := hW
  have hA : DataW.TrodAll enc Try.prog W 0 (fun _ => true) true Try.f9.params.toList args.toList ds p := hA0
  rw [Try.params9] at hA hval
  obtain ⟨v0, vs0, d0, ds0, p0, q0, hargs, rfl, rfl, h0, r0⟩ := trodAll_cons hA
  obtain ⟨v1, vs1, d1, ds1, p1, q1, rfl, rfl, rfl, h1, r1⟩ := trodAll_cons r0
  obtain ⟨rfl, rfl, rfl⟩ := trodAll_nil r1
  obtain rfl : args = #[v0, v1] := by cases args; simp_all
  obtain ⟨rfl, rfl⟩ := trodVars_none hV
  have k0 := h0
  have lt0 : ∀ x ∈ p0, x.block < W.heap.size := by obtain ⟨m, hm⟩ := k0; exact DataW.trod_lt m _ _ _ hm
  obtain ⟨cs0, rfl, hsz0⟩ := okWide_struct Try.underlying23 (hval 0 23 v0 rfl rfl)
  obtain ⟨c0_0, c0_1, c0_2, rfl⟩ := arr3 (hsz0.trans (show Try.prog.cellsOf 23 = 3 by kernel_rfl))
  obtain ⟨fuel0, hf0⟩ := h0
  have hg0 : DataW.trod enc Try.prog W 0 (fun _ => true) true fuel0 23 [c0_0, c0_1, c0_2] = some (d0, p0) := by simpa [Value.cells] using hf0
  obtain ⟨y1, n1, hy1⟩ : ∃ y n, DataW.trod enc Try.prog W 0 (fun _ => true) true n 4 [c0_0] = some y := field_at Try.underlying23 hg0 0 _ rfl 0 1 (by rfl) (by kernel_rfl)
  obtain ⟨a0, e0, _⟩ := DataW.trod_bool Try.underlying4 hy1
  obtain rfl := List.singleton_inj.mp e0
  obtain ⟨y2, n2, hy2⟩ : ∃ y n, DataW.trod enc Try.prog W 0 (fun _ => true) true n 3 [c0_1] = some y := field_at Try.underlying23 hg0 1 _ rfl 1 1 (by rfl) (by kernel_rfl)
  obtain ⟨a1, e1, _, w1⟩ := DataW.trod_int Try.underlying3 hy2
  obtain rfl := List.singleton_inj.mp e1
  obtain ⟨y3, n3, hy3⟩ : ∃ y n, DataW.trod enc Try.prog W 0 (fun _ => true) true n 3 [c0_2] = some y := field_at Try.underlying23 hg0 2 _ rfl 2 1 (by rfl) (by kernel_rfl)
  obtain ⟨a2, e2, _, w2⟩ := DataW.trod_int Try.underlying3 hy3
  obtain rfl := List.singleton_inj.mp e2
  have k1 := h1
  have lt1 : ∀ x ∈ p1, x.block < W.heap.size := by obtain ⟨m, hm⟩ := k1; exact DataW.trod_lt m _ _ _ hm
  obtain ⟨a3, rfl, rfl, rfl, w3⟩ := open_int Try.underlying3 (hval 1 3 v1 rfl rfl) h1
  clear hA0 hval0
  refine (walkFnExactBitsText a0 a1 a2 a3 W w1 w2 w3).mono fun e W' ⟨he, bel⟩ => ?_
  subst he
  exact ⟨_, rfl, _, _, _, [], _, [], hW', trodAll_mk1 (shut_bool Try.underlying4 _), (trodAll_cons_mk (Below.trod laidOut (by kernel_rfl) (of_decide_eq_true (by kernel_rfl)) k0 bel lt0) (trodAll_cons_mk (Below.trod laidOut (by kernel_rfl) (of_decide_eq_true (by kernel_rfl)) k1 bel lt1) trodAll_mk0)), rfl, bel.frame _, fun h => by cases h⟩

theorem over : Rows.fnExactBitsTextRow.holds Try.pinned (OpenSpec.ofChange Rows.fnExactBitsTextSpec) :=
  OpenClaim.holds_of_wide 9 Try.f9 rfl rfl rfl rfl rfl rfl rfl ⟨rfl, rfl, rfl, rfl, rfl⟩ rfl rfl rfl rfl rfl (by kernel_rfl) Try.func9 (by kernel_rfl)
    (of_decide_eq_true (by kernel_rfl)) (by unfold Func.isWrapper; first | (rw [if_pos (by decide +kernel)]; kernel_rfl) | (rw [if_neg (by decide +kernel)]; exact ⟨rfl, rfl⟩))
    (fun os started H enc _ => lifted os started H enc)

theorem proved : Rows.FnExactBitsTextSaid := over
#print axioms proved
end Go.Proofs.Ytldidbejieekcaa.lawFnExactBitsText
