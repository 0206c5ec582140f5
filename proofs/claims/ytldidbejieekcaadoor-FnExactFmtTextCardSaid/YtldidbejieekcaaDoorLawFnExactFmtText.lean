/-
  PROVED: the Go function laws.FnExactFmtText returns true for every input, and each argument reads afterwards as it read before ('Rows.FnExactFmtTextSaid').
  CONDITIONS: none beyond the row's own.
-/
import Derived.Test.YtldidbejieekcaaDoorFmtT
import Derived.Test.YtldidbejieekcaaDoorCards
import Derived.Test.YtldidbejieekcaaDoorTie
import Derived.SevenTiedAt
import Derived.LaidMore
import Derived.Lib.LaidTab
import Derived.Lib.ItoaNum
import Derived.Stop.Joined
import Derived.Stop.LaidErr
import Derived.MakeChecks
import Derived.WalkKit
import Derived.ProofKit
import Derived.OpenShut
import Derived.ShutString
import Derived.ChangeOld
import Derived.Below
namespace Go.Proofs.YtldidbejieekcaaDoor.lawFnExactFmtText
open Go.ChangeShapes Go.WideShapes Go.ChangeAt Go.RowKit
open Go.ChangeMaps (open_string shut_string)
set_option linter.unusedVariables false

/-- the heap of the door's own run meets the condition -/
theorem door_met (os : Os) (args : Array Value) : laidMetH Tryd.prog Rows.fnExactFmtTextRow.laid ((World.doorLaid Tryd.prog 24 os).forCall (fun _ _ => 0) ⟨#[], args, []⟩).memory :=
  laidMetH_of_parts3 (fuel := 8) (laidMet_of_run' 8 (by kernel_rfl) (by kernel_rfl)) (by kernel_rfl) (by kernel_rfl)
theorem tab2 {W : World} (h : laidMetH Tryd.prog Rows.fnExactFmtTextRow.laid W) : Lib.TabIs Tryd.prog W "internal/strconv.uint64pow10" .u64 Lib.pow10Tab := by
  rw [MakeChecks.laidMetH_plain _ _ _ (by kernel_rfl)] at h
  exact Lib.tabIs_of_head (g := 0) (t := 45) (e := 38) (n := 20) (by kernel_rfl) (by kernel_rfl) Tryd.underlying45 Tryd.underlying38 (by kernel_rfl) (by kernel_rfl) (show laidMet Tryd.prog (("internal/strconv.uint64pow10", Lib.tabData .u64 Lib.pow10Tab) :: []) W from h.tail.tail)
set_option maxRecDepth 100000 in
set_option maxHeartbeats 1000000 in
theorem lifted (os : Os) (started : os.Started) (H : Type) (enc : TypeId × Value → H) :
    ReturnsInHanded {} Tryd.checked os 5 .any (fun w args => (Rows.fnExactFmtTextSpec.pre enc Tryd.prog Tryd.f5 [] false w args ∧ laidMetH Tryd.prog Rows.fnExactFmtTextRow.laid w) ∧ sizedMet enc Tryd.prog Tryd.f5 (OpenSpec.ofChange Rows.fnExactFmtTextSpec) false w args) (Rows.fnExactFmtTextSpec.post enc Tryd.prog Tryd.f5 false true false false) := by
  refine returnsInHanded_of_change_and (C := Tryd.checked) (X := fun w _ => laidMetH Tryd.prog Rows.fnExactFmtTextRow.laid w) (fun _ _ _ hh h => h.of_heap hh) own started (by kernel_rfl) Tryd.func5
    (ChangeSpec.witness_shaped (enc := enc) (C := Tryd.checked) (os := os) (X := fun w _ => laidMetH Tryd.prog Rows.fnExactFmtTextRow.laid w) false (World.doorLaid Tryd.prog 24 os) #[.agg #[.bool false, .int .i64 0, .int .i64 0]] 8 rfl (World.shaped_of_RefB (by kernel_rfl) (by kernel_rfl)) (by kernel_rfl) (by kernel_rfl) (by kernel_rfl) (door_met os _)) ?_
  intro W base args ds gs before hval0 hW _ _ hL _
  have hval : ∀ (j : Nat) t v, Tryd.f5.params[j]? = some t → args[j]? = some v → Value.okWide Tryd.prog W .any base t v := hval0
  have hW' := hW
  obtain ⟨p, q, hA0, hV, rfl, hfz, hnd⟩ := hW
  have hA : DataW.TrodAll enc Tryd.prog W 0 (fun _ => true) true Tryd.f5.params.toList args.toList ds p := hA0
  rw [Tryd.params5] at hA hval
  obtain ⟨v0, vs0, d0, ds0, p0, q0, hargs, rfl, rfl, h0, r0⟩ := trodAll_cons hA
  obtain ⟨rfl, rfl, rfl⟩ := trodAll_nil r0
  obtain rfl : args = #[v0] := by cases args; simp_all
  obtain ⟨rfl, rfl⟩ := trodVars_none hV
  have k0 := h0
  have lt0 : ∀ x ∈ p0, x.block < W.heap.size := by obtain ⟨m, hm⟩ := k0; exact DataW.trod_lt m _ _ _ hm
  obtain ⟨cs0, rfl, hsz0⟩ := okWide_struct Tryd.underlying28 (hval 0 28 v0 rfl rfl)
  obtain ⟨c0_0, c0_1, c0_2, rfl⟩ := arr3 (hsz0.trans (show Tryd.prog.cellsOf 28 = 3 by kernel_rfl))
  obtain ⟨fuel0, hf0⟩ := h0
  have hg0 : DataW.trod enc Tryd.prog W 0 (fun _ => true) true fuel0 28 [c0_0, c0_1, c0_2] = some (d0, p0) := by simpa [Value.cells] using hf0
  obtain ⟨y1, n1, hy1⟩ : ∃ y n, DataW.trod enc Tryd.prog W 0 (fun _ => true) true n 4 [c0_0] = some y := field_at Tryd.underlying28 hg0 0 _ rfl 0 1 (by rfl) (by kernel_rfl)
  obtain ⟨a0, e0, _⟩ := DataW.trod_bool Tryd.underlying4 hy1
  obtain rfl := List.singleton_inj.mp e0
  obtain ⟨y2, n2, hy2⟩ : ∃ y n, DataW.trod enc Tryd.prog W 0 (fun _ => true) true n 3 [c0_1] = some y := field_at Tryd.underlying28 hg0 1 _ rfl 1 1 (by rfl) (by kernel_rfl)
  obtain ⟨a1, e1, _, w1⟩ := DataW.trod_int Tryd.underlying3 hy2
  obtain rfl := List.singleton_inj.mp e1
  obtain ⟨y3, n3, hy3⟩ : ∃ y n, DataW.trod enc Tryd.prog W 0 (fun _ => true) true n 3 [c0_2] = some y := field_at Tryd.underlying28 hg0 2 _ rfl 2 1 (by rfl) (by kernel_rfl)
  obtain ⟨a2, e2, _, w2⟩ := DataW.trod_int Tryd.underlying3 hy3
  obtain rfl := List.singleton_inj.mp e2
  have ht2 : Lib.TabIs Tryd.prog W "internal/strconv.uint64pow10" .u64 Lib.pow10Tab := tab2 hL
  clear hA0 hval0
  refine (walkFnExactFmtText a0 a1 a2 W w1 w2 ht2).mono fun e W' ⟨he, bel⟩ => ?_
  subst he
  exact ⟨_, rfl, _, _, _, [], _, [], hW', trodAll_mk1 (shut_bool Tryd.underlying4 _), (trodAll_cons_mk (Below.trod laidOut (by kernel_rfl) (of_decide_eq_true (by kernel_rfl)) k0 bel lt0) trodAll_mk0), rfl, bel.frame _, fun h => by cases h⟩

theorem over : Rows.fnExactFmtTextRow.holds Tryd.pinned (OpenSpec.ofChange Rows.fnExactFmtTextSpec) :=
  OpenClaim.holds_of_wide 5 Tryd.f5 rfl rfl rfl rfl rfl rfl rfl ⟨rfl, rfl, rfl, rfl, rfl⟩ rfl rfl rfl rfl rfl (by kernel_rfl) Tryd.func5 (by kernel_rfl)
    (of_decide_eq_true (by kernel_rfl)) (by unfold Func.isWrapper; first | (rw [if_pos (by decide +kernel)]; kernel_rfl) | (rw [if_neg (by decide +kernel)]; exact ⟨rfl, rfl⟩))
    (fun os started H enc _ => lifted os started H enc)

theorem proved : Rows.FnExactFmtTextCardSaid :=
  Claim7.holds_tied_plain_at .later [] [.data, .data, .data] true (true, "560267cb46c846788d8db5c861906b0df9564434f63309ef3fa02a7c9bd4a51e") false
    over (fun _ h => by cases h) (by kernel_rfl) (fun _ h => by cases h) fnExactFmtText_row_tie rfl ⟨rfl, rfl⟩ (by kernel_rfl) rfl
    (fun f fn hf hfn => by
      obtain rfl : f = 5 := Option.some.inj ((show Tryd.prog.funcNamed Rows.fnExactFmtTextRow.func = some 5 by kernel_rfl).symm.trans hf) |>.symm
      obtain rfl : fn = Tryd.f5 := (Option.some.inj (Tryd.func5.symm.trans hfn)).symm
      exact ⟨by kernel_rfl, fun j t ht => by
        rw [Tryd.params5] at ht
        have hm : t ∈ [28] := by simpa using Array.mem_of_getElem? ht
        have hall : ([28].all fun u => !Tryd.prog.wantsStandIn u) = true := by kernel_rfl
        exact (show Tryd.prog.wantsStandIn t = false by simpa using List.all_eq_true.1 hall t hm)⟩)
    (by kernel_rfl)
#print axioms proved
end Go.Proofs.YtldidbejieekcaaDoor.lawFnExactFmtText
