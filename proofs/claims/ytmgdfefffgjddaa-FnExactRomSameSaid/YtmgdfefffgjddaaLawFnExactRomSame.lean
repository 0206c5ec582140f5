/-
  PROVED: the Go function laws.FnExactRomSame returns true for every input, and each argument reads afterwards as it read before ('Rows.FnExactRomSameSaid').
  CONDITIONS: none beyond the row's own.
-/
import Derived.Test.YtmgdfefffgjddaaRom6
import Derived.WalkKit
import Derived.ProofKit
import Derived.OpenShut
import Derived.ShutString
import Derived.ChangeOld
import Derived.Below
namespace Go.Proofs.Ytmgdfefffgjddaa.lawFnExactRomSame
open Go.ChangeShapes Go.WideShapes Go.ChangeAt Go.RowKit
open Go.ChangeMaps (open_string shut_string)
set_option linter.unusedVariables false

set_option maxRecDepth 100000 in
set_option maxHeartbeats 1000000 in
theorem lifted (os : Os) (started : os.Started) (H : Type) (enc : TypeId × Value → H) :
    ReturnsInHanded {} Try.checked os 12 .any (Rows.fnExactRomSameSpec.pre6 enc Try.prog Try.f12 Rows.fnExactRomSameRow.domain false) (Rows.fnExactRomSameSpec.post enc Try.prog Try.f12 false true false false) := by
  refine returnsInHanded_of_change (C := Try.checked) own started (by kernel_rfl) Try.func12
    (ChangeSpec.witness6 (enc := enc) (C := Try.checked) false ⟨#[], #[.agg #[.int .i64 0, .int .i64 0, .slice none 0 0, .bool false, .slice none 0 0], .agg #[.int .i64 0, .int .i64 0, .slice none 0 0, .bool false, .slice none 0 0]], []⟩ 8 (by kernel_rfl) (by kernel_rfl) (by kernel_rfl) (by kernel_rfl)) ?_
  intro W base args ds gs before hval0 hW hcnd _
  have hval : ∀ (j : Nat) t v, Try.f12.params[j]? = some t → args[j]? = some v → Value.okWide Try.prog W .any base t v := hval0
  have hW' := hW
  obtain ⟨p, q, hA0, hV, rfl, hfz, hnd⟩ := hW
  have hA : DataW.TrodAll enc Try.prog W 0 (fun _ => true) true Try.f12.params.toList args.toList ds p := hA0
  rw [Try.params12] at hA hval
  obtain ⟨v0, vs0, d0, ds0, p0, q0, hargs, rfl, rfl, h0, r0⟩ := trodAll_cons hA
  obtain ⟨v1, vs1, d1, ds1, p1, q1, rfl, rfl, rfl, h1, r1⟩ := trodAll_cons r0
  obtain ⟨rfl, rfl, rfl⟩ := trodAll_nil r1
  obtain rfl : args = #[v0, v1] := by cases args; simp_all
  obtain ⟨rfl, rfl⟩ := trodVars_none hV
  have k0 := h0
  have lt0 : ∀ x ∈ p0, x.block < W.heap.size := by obtain ⟨m, hm⟩ := k0; exact DataW.trod_lt m _ _ _ hm
  obtain ⟨cs0, rfl, hsz0⟩ := okWide_struct Try.underlying70 (hval 0 70 v0 rfl rfl)
  obtain ⟨c0_0, c0_1, c0_2, c0_3, c0_4, rfl⟩ := arr5 (hsz0.trans (show Try.prog.cellsOf 70 = 5 by kernel_rfl))
  obtain ⟨fuel0, hf0⟩ := h0
  have hg0 : DataW.trod enc Try.prog W 0 (fun _ => true) true fuel0 70 [c0_0, c0_1, c0_2, c0_3, c0_4] = some (d0, p0) := by simpa [Value.cells] using hf0
  obtain ⟨y1, n1, hy1⟩ : ∃ y n, DataW.trod enc Try.prog W 0 (fun _ => true) true n 3 [c0_0] = some y := field_at Try.underlying70 hg0 0 _ rfl 0 1 (by rfl) (by kernel_rfl)
  obtain ⟨a0, e0, _, w0⟩ := DataW.trod_int Try.underlying3 hy1
  obtain rfl := List.singleton_inj.mp e0
  obtain ⟨y2, n2, hy2⟩ : ∃ y n, DataW.trod enc Try.prog W 0 (fun _ => true) true n 3 [c0_1] = some y := field_at Try.underlying70 hg0 1 _ rfl 1 1 (by rfl) (by kernel_rfl)
  obtain ⟨a1, e1, _, w1⟩ := DataW.trod_int Try.underlying3 hy2
  obtain rfl := List.singleton_inj.mp e1
  obtain ⟨y3, n3, hy3⟩ : ∃ y n, DataW.trod enc Try.prog W 0 (fun _ => true) true n 68 [c0_2] = some y := field_at Try.underlying70 hg0 2 _ rfl 2 1 (by rfl) (by kernel_rfl)
  obtain ⟨a2, len2, cap2, z2, e2, w2⟩ := wholes_of Try.underlying68 Try.underlying38 (by kernel_rfl) Try.underlying4 Try.underlying27 Try.underlying3 (by kernel_rfl) rfl rfl (by kernel_rfl) (by kernel_rfl) hy3
  obtain rfl := List.singleton_inj.mp e2
  obtain ⟨y4, n4, hy4⟩ : ∃ y n, DataW.trod enc Try.prog W 0 (fun _ => true) true n 38 [c0_3, c0_4] = some y := field_at Try.underlying70 hg0 3 _ rfl 3 2 (by rfl) (by kernel_rfl)
  obtain ⟨y5, n5, hy5⟩ : ∃ y n, DataW.trod enc Try.prog W 0 (fun _ => true) true n 4 [c0_3] = some y := field_at Try.underlying38 hy4 0 _ rfl 0 1 (by rfl) (by kernel_rfl)
  obtain ⟨a3, e3, _⟩ := DataW.trod_bool Try.underlying4 hy5
  obtain rfl := List.singleton_inj.mp e3
  obtain ⟨y6, n6, hy6⟩ : ∃ y n, DataW.trod enc Try.prog W 0 (fun _ => true) true n 27 [c0_4] = some y := field_at Try.underlying38 hy4 1 _ rfl 1 1 (by rfl) (by kernel_rfl)
  obtain ⟨a4, len4, cap4, z4, e4, w4⟩ := row_of (k := .i64) Try.underlying27 Try.underlying3 (by kernel_rfl) hy6
  obtain rfl := List.singleton_inj.mp e4
  have k1 := h1
  have lt1 : ∀ x ∈ p1, x.block < W.heap.size := by obtain ⟨m, hm⟩ := k1; exact DataW.trod_lt m _ _ _ hm
  obtain ⟨cs1, rfl, hsz1⟩ := okWide_struct Try.underlying70 (hval 1 70 v1 rfl rfl)
  obtain ⟨c1_0, c1_1, c1_2, c1_3, c1_4, rfl⟩ := arr5 (hsz1.trans (show Try.prog.cellsOf 70 = 5 by kernel_rfl))
  obtain ⟨fuel1, hf1⟩ := h1
  have hg1 : DataW.trod enc Try.prog W 0 (fun _ => true) true fuel1 70 [c1_0, c1_1, c1_2, c1_3, c1_4] = some (d1, p1) := by simpa [Value.cells] using hf1
  obtain ⟨y7, n7, hy7⟩ : ∃ y n, DataW.trod enc Try.prog W 0 (fun _ => true) true n 3 [c1_0] = some y := field_at Try.underlying70 hg1 0 _ rfl 0 1 (by rfl) (by kernel_rfl)
  obtain ⟨a5, e5, _, w5⟩ := DataW.trod_int Try.underlying3 hy7
  obtain rfl := List.singleton_inj.mp e5
  obtain ⟨y8, n8, hy8⟩ : ∃ y n, DataW.trod enc Try.prog W 0 (fun _ => true) true n 3 [c1_1] = some y := field_at Try.underlying70 hg1 1 _ rfl 1 1 (by rfl) (by kernel_rfl)
  obtain ⟨a6, e6, _, w6⟩ := DataW.trod_int Try.underlying3 hy8
  obtain rfl := List.singleton_inj.mp e6
  obtain ⟨y9, n9, hy9⟩ : ∃ y n, DataW.trod enc Try.prog W 0 (fun _ => true) true n 68 [c1_2] = some y := field_at Try.underlying70 hg1 2 _ rfl 2 1 (by rfl) (by kernel_rfl)
  obtain ⟨a7, len7, cap7, z7, e7, w7⟩ := wholes_of Try.underlying68 Try.underlying38 (by kernel_rfl) Try.underlying4 Try.underlying27 Try.underlying3 (by kernel_rfl) rfl rfl (by kernel_rfl) (by kernel_rfl) hy9
  obtain rfl := List.singleton_inj.mp e7
  obtain ⟨y10, n10, hy10⟩ : ∃ y n, DataW.trod enc Try.prog W 0 (fun _ => true) true n 38 [c1_3, c1_4] = some y := field_at Try.underlying70 hg1 3 _ rfl 3 2 (by rfl) (by kernel_rfl)
  obtain ⟨y11, n11, hy11⟩ : ∃ y n, DataW.trod enc Try.prog W 0 (fun _ => true) true n 4 [c1_3] = some y := field_at Try.underlying38 hy10 0 _ rfl 0 1 (by rfl) (by kernel_rfl)
  obtain ⟨a8, e8, _⟩ := DataW.trod_bool Try.underlying4 hy11
  obtain rfl := List.singleton_inj.mp e8
  obtain ⟨y12, n12, hy12⟩ : ∃ y n, DataW.trod enc Try.prog W 0 (fun _ => true) true n 27 [c1_4] = some y := field_at Try.underlying38 hy10 1 _ rfl 1 1 (by rfl) (by kernel_rfl)
  obtain ⟨a9, len9, cap9, z9, e9, w9⟩ := row_of (k := .i64) Try.underlying27 Try.underlying3 (by kernel_rfl) hy12
  obtain rfl := List.singleton_inj.mp e9
  clear hA0 hval0
  refine (walkFnExactRomSame a0 a1 a2 len2 cap2 z2 a3 a4 len4 cap4 z4 a5 a6 a7 len7 cap7 z7 a8 a9 len9 cap9 z9 W w0 w1 w2 w4 w5 w6 w7 w9).mono fun e W' ⟨he, bel⟩ => ?_
  subst he
  exact ⟨_, rfl, _, _, _, [], _, [], hW', trodAll_mk1 (shut_bool Try.underlying4 _), (trodAll_cons_mk (Below.trod laidOut (by kernel_rfl) (of_decide_eq_true (by kernel_rfl)) k0 bel lt0) (trodAll_cons_mk (Below.trod laidOut (by kernel_rfl) (of_decide_eq_true (by kernel_rfl)) k1 bel lt1) trodAll_mk0)), rfl, bel.frame _, fun h => by cases h⟩

theorem over : Rows.fnExactRomSameRow.holds Try.pinned (OpenSpec.ofChange Rows.fnExactRomSameSpec) :=
  OpenClaim.holds_of_wide 12 Try.f12 rfl rfl rfl rfl rfl rfl rfl ⟨rfl, rfl, rfl, rfl, rfl⟩ rfl rfl rfl rfl rfl (by kernel_rfl) Try.func12 (by kernel_rfl)
    (of_decide_eq_true (by kernel_rfl)) (by unfold Func.isWrapper; first | (rw [if_pos (by decide +kernel)]; kernel_rfl) | (rw [if_neg (by decide +kernel)]; exact ⟨rfl, rfl⟩))
    (fun os started H enc _ => lifted os started H enc)

theorem proved : Rows.FnExactRomSameSaid := over
#print axioms proved
end Go.Proofs.Ytmgdfefffgjddaa.lawFnExactRomSame
