/-
  PROVED: contracts of the functions of configurations and engines.
  CONDITIONS: none.
-/
import Derived.Test.YtldidbejieekcaaFmt
import Derived.Test.YtldidbejieekcaaSmall
import Derived.ChangeKeysEq
namespace Go.Proofs.Ytldidbejieekcaa
open Go.ChangeShapes Go.WideShapes Go.ChangeAt Go.RowKit
set_option linter.unusedVariables false
set_option maxHeartbeats 400000 in
theorem toConf_eq (a0 : Bool) (a1 : Int) (a2 : Int) (a3 : Bool) (a4 : Int) (a5 : Int) (a6 : Int) (a7 : Int) (a8 : Bool) (w : World) : Calls Try.prog 13 #[.agg #[.bool a0, .int .i64 a1, .int .i64 a2, .bool a3, .int .i64 a4, .int .i64 a5, .int .i64 a6, .int .i64 a7, .bool a8]] w fun e w' => e = .returned (.agg #[.bool a0, .int .i64 a1, .int .i64 a2, .bool a3, .int .i64 a4, .int .i64 a5, .int .i64 a6, .int .i64 a7, .bool a8]) ∧ (((((((((w.alloc (.cells #[.bool a0, .int .i64 a1, .int .i64 a2, .bool a3, .int .i64 a4, .int .i64 a5, .int .i64 a6, .int .i64 a7, .bool a8] 25)).alloc (.cells #[.bool a0, .int .i64 a1, .int .i64 a2, .bool a3, .int .i64 a4, .int .i64 a5, .int .i64 a6, .int .i64 a7, .bool a8] 29)).alloc (.cells #[.bool a0, .int .i64 a1, .int .i64 a2, .bool a3, .int .i64 a4, .int .i64 a5, .int .i64 a6, .int .i64 a7, .bool a8] 29)).alloc (.cells #[.bool a0, .int .i64 a1, .int .i64 a2] 23)).alloc (.cells #[.bool a0, .int .i64 a1, .int .i64 a2] 27)).alloc (.cells #[.bool a0, .int .i64 a1, .int .i64 a2] 27)).alloc (.cells #[.bool a3, .int .i64 a4, .int .i64 a5] 23)).alloc (.cells #[.bool a3, .int .i64 a4, .int .i64 a5] 27)).alloc (.cells #[.bool a3, .int .i64 a4, .int .i64 a5] 27)) = w' := by
  go_enter Try.func13, Try.ntmps13
  go_wp2_with (go_at_call 21; refine (toFmt_eq _ _ _ _).mono ?_; rintro e w1 ⟨rfl, rfl⟩)
  exact bodyPost_ret (v := .agg #[.bool a0, .int .i64 a1, .int .i64 a2, .bool a3, .int .i64 a4, .int .i64 a5, .int .i64 a6, .int .i64 a7, .bool a8]) (by simp [results, Try.results13, go_sem]) rfl ⟨rfl, rfl⟩
theorem toConf_any (a0 : Bool) (a1 : Int) (a2 : Int) (a3 : Bool) (a4 : Int) (a5 : Int) (a6 : Int) (a7 : Int) (a8 : Bool) (w : World) : Calls Try.prog 13 #[.agg #[.bool a0, .int .i64 a1, .int .i64 a2, .bool a3, .int .i64 a4, .int .i64 a5, .int .i64 a6, .int .i64 a7, .bool a8]] w fun e w' => e = .returned (.agg #[.bool a0, .int .i64 a1, .int .i64 a2, .bool a3, .int .i64 a4, .int .i64 a5, .int .i64 a6, .int .i64 a7, .bool a8]) ∧ Below w.heap.size w w' :=
  (toConf_eq a0 a1 a2 a3 a4 a5 a6 a7 a8 w).mono fun e w' h => ⟨h.1, by rw [← h.2]; exact bl_al (bl_al (bl_al (bl_al (bl_al (bl_al (bl_al (bl_al (bl_alloc _ _) _) _) _) _) _) _) _) _⟩
def confOkB (a1 a2 a4 a5 a6 a7 : Int) : Bool := fmtOkB a1 a2 && fmtOkB a4 a5 && inR a6 0 4 && inR a7 0 2
set_option maxHeartbeats 1000000 in
theorem iConfOk_any (a0 : Bool) (a1 : Int) (a2 : Int) (a3 : Bool) (a4 : Int) (a5 : Int) (a6 : Int) (a7 : Int) (a8 : Bool) (w : World) : Calls Try.prog 14 #[.agg #[.bool a0, .int .i64 a1, .int .i64 a2, .bool a3, .int .i64 a4, .int .i64 a5, .int .i64 a6, .int .i64 a7, .bool a8]] w fun e w' => e = .returned (.bool (confOkB a1 a2 a4 a5 a6 a7)) ∧ Below w.heap.size w w' := by
  have hB := Below.refl (w.alloc (.cells #[.bool a0, .int .i64 a1, .int .i64 a2, .bool a3, .int .i64 a4, .int .i64 a5, .int .i64 a6, .int .i64 a7, .bool a8] 29)).heap.size (w.alloc (.cells #[.bool a0, .int .i64 a1, .int .i64 a2, .bool a3, .int .i64 a4, .int .i64 a5, .int .i64 a6, .int .i64 a7, .bool a8] 29))
  go_enter Try.func14, Try.ntmps14
  go_wp2_with (first
    | (go_at_call 39; refine (fmtOk_any _ _ _ _).mono ?_; rintro e w1 ⟨rfl, hb⟩; have hB := bl_step hB hb; obtain ⟨hc, hz⟩ := kept_box hB; clear hb)
    | (go_at_call 40; refine (isMode_any _ _).mono ?_; rintro e w2 ⟨rfl, rfl⟩)
    | (go_at_call 41; refine (isPolicy_any _ _).mono ?_; rintro e w2 ⟨rfl, rfl⟩))
  all_goals go_ret
  all_goals exact ⟨ret_bool (by simp [confOkB, *]), bl_step (bl_alloc _ _) hB⟩
set_option maxHeartbeats 1000000 in
theorem sConfOk_any (a0 : Bool) (a1 : Int) (a2 : Int) (a3 : Bool) (a4 : Int) (a5 : Int) (a6 : Int) (a7 : Int) (a8 : Bool) (w : World) : Calls Try.prog 12 #[.agg #[.bool a0, .int .i64 a1, .int .i64 a2, .bool a3, .int .i64 a4, .int .i64 a5, .int .i64 a6, .int .i64 a7, .bool a8]] w fun e w' => e = .returned (.bool (confOkB a1 a2 a4 a5 a6 a7)) ∧ Below w.heap.size w w' := by
  have hB := Below.refl (w.alloc (.cells #[.bool a0, .int .i64 a1, .int .i64 a2, .bool a3, .int .i64 a4, .int .i64 a5, .int .i64 a6, .int .i64 a7, .bool a8] 29)).heap.size (w.alloc (.cells #[.bool a0, .int .i64 a1, .int .i64 a2, .bool a3, .int .i64 a4, .int .i64 a5, .int .i64 a6, .int .i64 a7, .bool a8] 29))
  go_enter Try.func12, Try.ntmps12
  go_wp2_with (first
    | (go_at_call 36; refine (sfmtOk_any _ _ _ _).mono ?_; rintro e w1 ⟨rfl, hb⟩; have hB := bl_step hB hb; obtain ⟨hc, hz⟩ := kept_box hB; clear hb)
    | (go_at_call 37; refine (l5Mode_any _ _).mono ?_; rintro e w2 ⟨rfl, rfl⟩)
    | (go_at_call 38; refine (l1In_any _ _ _ _).mono ?_; rintro e w2 ⟨rfl, rfl⟩))
  all_goals go_ret
  all_goals exact ⟨ret_bool (by simp [confOkB, *]), bl_step (bl_alloc _ _) hB⟩
set_option maxHeartbeats 1000000 in
theorem walkFnExactConfOk (a0 : Bool) (a1 : Int) (a2 : Int) (a3 : Bool) (a4 : Int) (a5 : Int) (a6 : Int) (a7 : Int) (a8 : Bool) (w : World) (w1 : (Lit.int .i64 a1).wf = true) (w2 : (Lit.int .i64 a2).wf = true) (w4 : (Lit.int .i64 a4).wf = true) (w5 : (Lit.int .i64 a5).wf = true) (w6 : (Lit.int .i64 a6).wf = true) (w7 : (Lit.int .i64 a7).wf = true) :
    Calls Try.prog 3 #[.agg #[.bool a0, .int .i64 a1, .int .i64 a2, .bool a3, .int .i64 a4, .int .i64 a5, .int .i64 a6, .int .i64 a7, .bool a8]] w fun e w' => e = .returned (.bool true) ∧ Below w.heap.size w w' := by
  clear w1 w2 w4 w5 w6 w7
  have hB := Below.refl (w.alloc (.cells #[.bool a0, .int .i64 a1, .int .i64 a2, .bool a3, .int .i64 a4, .int .i64 a5, .int .i64 a6, .int .i64 a7, .bool a8] 25)).heap.size (w.alloc (.cells #[.bool a0, .int .i64 a1, .int .i64 a2, .bool a3, .int .i64 a4, .int .i64 a5, .int .i64 a6, .int .i64 a7, .bool a8] 25))
  go_enter Try.func3, Try.ntmps3
  go_wp2_with (first
    | (go_at_call 13; refine (toConf_any _ _ _ _ _ _ _ _ _ _).mono ?_; rintro e w1 ⟨rfl, hb⟩; have hB := bl_step hB hb; obtain ⟨hc, hz⟩ := kept_box hB; clear hb)
    | (go_at_call 12; refine (sConfOk_any _ _ _ _ _ _ _ _ _ _).mono ?_; rintro e w1 ⟨rfl, hb⟩; have hB := bl_step hB hb; obtain ⟨hc, hz⟩ := kept_box hB; clear hb)
    | (go_at_call 14; refine (iConfOk_any _ _ _ _ _ _ _ _ _ _).mono ?_; rintro e w1 ⟨rfl, hb⟩; have hB := bl_step hB hb; obtain ⟨hc, hz⟩ := kept_box hB; clear hb))
  go_ret
  exact ⟨rfl, bl_step (bl_alloc _ _) hB⟩
def confNilB (a0 : Bool) (a1 a2 : Int) (a3 : Bool) (a4 a5 a6 a7 : Int) (a8 : Bool) : Bool := (a0 == false) && (a1 == 0) && (a2 == 0) && (a3 == false) && (a4 == 0) && (a5 == 0) && (a6 == 0) && (a7 == 0) && (a8 == false)
def engOkB (a0 : Bool) (a1 a2 : Int) (a3 : Bool) (a4 a5 a6 a7 : Int) (a8 a9 : Bool) (a10 : Int) : Bool := inR a10 0 1000000 && (if a9 = true then confOkB a1 a2 a4 a5 a6 a7 else confNilB a0 a1 a2 a3 a4 a5 a6 a7 a8)
set_option maxHeartbeats 1000000 in
theorem toEngine_any (a0 : Bool) (a1 : Int) (a2 : Int) (a3 : Bool) (a4 : Int) (a5 : Int) (a6 : Int) (a7 : Int) (a8 : Bool) (a9 : Bool) (a10 : Int) (w : World) : Calls Try.prog 26 #[.agg #[.bool a0, .int .i64 a1, .int .i64 a2, .bool a3, .int .i64 a4, .int .i64 a5, .int .i64 a6, .int .i64 a7, .bool a8, .bool a9, .int .i64 a10]] w fun e w' => e = .returned (.agg #[.bool a0, .int .i64 a1, .int .i64 a2, .bool a3, .int .i64 a4, .int .i64 a5, .int .i64 a6, .int .i64 a7, .bool a8, .bool a9, .int .i64 a10]) ∧ Below w.heap.size w w' := by
  go_enter Try.func26, Try.ntmps26
  go_wp2_with (go_at_call 13; refine (toConf_eq _ _ _ _ _ _ _ _ _ _).mono ?_; rintro e w1 ⟨rfl, rfl⟩)
  exact bodyPost_ret (v := .agg #[.bool a0, .int .i64 a1, .int .i64 a2, .bool a3, .int .i64 a4, .int .i64 a5, .int .i64 a6, .int .i64 a7, .bool a8, .bool a9, .int .i64 a10]) (by simp [results, Try.results26, go_sem]) rfl ⟨rfl, bl_al (bl_al (bl_al (bl_al (bl_al (bl_al (bl_al (bl_al (bl_al (bl_al (bl_al (bl_alloc _ _) _) _) _) _) _) _) _) _) _) _) _⟩
set_option maxHeartbeats 1000000 in
theorem iEngineOk_any (a0 : Bool) (a1 : Int) (a2 : Int) (a3 : Bool) (a4 : Int) (a5 : Int) (a6 : Int) (a7 : Int) (a8 : Bool) (a9 : Bool) (a10 : Int) (w : World) : Calls Try.prog 27 #[.agg #[.bool a0, .int .i64 a1, .int .i64 a2, .bool a3, .int .i64 a4, .int .i64 a5, .int .i64 a6, .int .i64 a7, .bool a8, .bool a9, .int .i64 a10]] w fun e w' => e = .returned (.bool (engOkB a0 a1 a2 a3 a4 a5 a6 a7 a8 a9 a10)) ∧ Below w.heap.size w w' := by
  have hB := Below.refl (w.alloc (.cells #[.bool a0, .int .i64 a1, .int .i64 a2, .bool a3, .int .i64 a4, .int .i64 a5, .int .i64 a6, .int .i64 a7, .bool a8, .bool a9, .int .i64 a10] 46)).heap.size (w.alloc (.cells #[.bool a0, .int .i64 a1, .int .i64 a2, .bool a3, .int .i64 a4, .int .i64 a5, .int .i64 a6, .int .i64 a7, .bool a8, .bool a9, .int .i64 a10] 46))
  cases a9
  · go_enter Try.func27, Try.ntmps27
    go_wp2_with (first
      | (go_at_call 45; refine (inRange_any _ _ _ _).mono ?_; rintro e w2 ⟨rfl, rfl⟩)
      | (go_at_call 14; refine (iConfOk_any _ _ _ _ _ _ _ _ _ _).mono ?_; rintro e w1 ⟨rfl, hb⟩; have hB := bl_step hB hb; obtain ⟨hc, hz⟩ := kept_box hB; clear hb))
    all_goals go_ret
    all_goals exact ⟨ret_bool (by clear hB; simp_all [engOkB, confNilB]), bl_alloc _ _⟩
  · go_enter Try.func27, Try.ntmps27
    go_wp2_with (first
      | (go_at_call 45; refine (inRange_any _ _ _ _).mono ?_; rintro e w2 ⟨rfl, rfl⟩)
      | (go_at_call 14; refine (iConfOk_any _ _ _ _ _ _ _ _ _ _).mono ?_; rintro e w1 ⟨rfl, hb⟩; have hB := bl_step hB hb; obtain ⟨hc, hz⟩ := kept_box hB; clear hb))
    all_goals go_ret
    all_goals exact ⟨ret_bool (by (try clear hc); clear hB; simp_all [engOkB]), bl_step (bl_alloc _ _) hB⟩
set_option maxHeartbeats 1000000 in
theorem sEngineOk_any (a0 : Bool) (a1 : Int) (a2 : Int) (a3 : Bool) (a4 : Int) (a5 : Int) (a6 : Int) (a7 : Int) (a8 : Bool) (a9 : Bool) (a10 : Int) (w : World) : Calls Try.prog 25 #[.agg #[.bool a0, .int .i64 a1, .int .i64 a2, .bool a3, .int .i64 a4, .int .i64 a5, .int .i64 a6, .int .i64 a7, .bool a8, .bool a9, .int .i64 a10]] w fun e w' => e = .returned (.bool (engOkB a0 a1 a2 a3 a4 a5 a6 a7 a8 a9 a10)) ∧ Below w.heap.size w w' := by
  have hB := Below.refl (w.alloc (.cells #[.bool a0, .int .i64 a1, .int .i64 a2, .bool a3, .int .i64 a4, .int .i64 a5, .int .i64 a6, .int .i64 a7, .bool a8, .bool a9, .int .i64 a10] 46)).heap.size (w.alloc (.cells #[.bool a0, .int .i64 a1, .int .i64 a2, .bool a3, .int .i64 a4, .int .i64 a5, .int .i64 a6, .int .i64 a7, .bool a8, .bool a9, .int .i64 a10] 46))
  cases a9
  · go_enter Try.func25, Try.ntmps25
    go_wp2_with (first
      | (go_at_call 38; refine (l1In_any _ _ _ _).mono ?_; rintro e w2 ⟨rfl, rfl⟩)
      | (go_at_call 12; refine (sConfOk_any _ _ _ _ _ _ _ _ _ _).mono ?_; rintro e w1 ⟨rfl, hb⟩; have hB := bl_step hB hb; obtain ⟨hc, hz⟩ := kept_box hB; clear hb))
    all_goals go_ret
    all_goals exact ⟨ret_bool (by clear hB; simp_all [engOkB, confNilB]), bl_alloc _ _⟩
  · go_enter Try.func25, Try.ntmps25
    go_wp2_with (first
      | (go_at_call 38; refine (l1In_any _ _ _ _).mono ?_; rintro e w2 ⟨rfl, rfl⟩)
      | (go_at_call 12; refine (sConfOk_any _ _ _ _ _ _ _ _ _ _).mono ?_; rintro e w1 ⟨rfl, hb⟩; have hB := bl_step hB hb; obtain ⟨hc, hz⟩ := kept_box hB; clear hb))
    all_goals go_ret
    all_goals exact ⟨ret_bool (by (try clear hc); clear hB; simp_all [engOkB]), bl_step (bl_alloc _ _) hB⟩
set_option maxHeartbeats 1000000 in
theorem walkFnExactEngineOk (a0 : Bool) (a1 : Int) (a2 : Int) (a3 : Bool) (a4 : Int) (a5 : Int) (a6 : Int) (a7 : Int) (a8 : Bool) (a9 : Bool) (a10 : Int) (w : World) (w1 : (Lit.int .i64 a1).wf = true) (w2 : (Lit.int .i64 a2).wf = true) (w4 : (Lit.int .i64 a4).wf = true) (w5 : (Lit.int .i64 a5).wf = true) (w6 : (Lit.int .i64 a6).wf = true) (w7 : (Lit.int .i64 a7).wf = true) (w10 : (Lit.int .i64 a10).wf = true) :
    Calls Try.prog 7 #[.agg #[.bool a0, .int .i64 a1, .int .i64 a2, .bool a3, .int .i64 a4, .int .i64 a5, .int .i64 a6, .int .i64 a7, .bool a8, .bool a9, .int .i64 a10]] w fun e w' => e = .returned (.bool true) ∧ Below w.heap.size w w' := by
  clear w1 w2 w4 w5 w6 w7 w10
  have hB := Below.refl (w.alloc (.cells #[.bool a0, .int .i64 a1, .int .i64 a2, .bool a3, .int .i64 a4, .int .i64 a5, .int .i64 a6, .int .i64 a7, .bool a8, .bool a9, .int .i64 a10] 43)).heap.size (w.alloc (.cells #[.bool a0, .int .i64 a1, .int .i64 a2, .bool a3, .int .i64 a4, .int .i64 a5, .int .i64 a6, .int .i64 a7, .bool a8, .bool a9, .int .i64 a10] 43))
  go_enter Try.func7, Try.ntmps7
  go_wp2_with (first
    | (go_at_call 26; refine (toEngine_any _ _ _ _ _ _ _ _ _ _ _ _).mono ?_; rintro e w1 ⟨rfl, hb⟩; have hB := bl_step hB hb; obtain ⟨hc, hz⟩ := kept_box hB; clear hb)
    | (go_at_call 25; refine (sEngineOk_any _ _ _ _ _ _ _ _ _ _ _ _).mono ?_; rintro e w1 ⟨rfl, hb⟩; have hB := bl_step hB hb; obtain ⟨hc, hz⟩ := kept_box hB; clear hb)
    | (go_at_call 27; refine (iEngineOk_any _ _ _ _ _ _ _ _ _ _ _ _).mono ?_; rintro e w1 ⟨rfl, hb⟩; have hB := bl_step hB hb; obtain ⟨hc, hz⟩ := kept_box hB; clear hb))
  go_ret
  exact ⟨rfl, bl_step (bl_alloc _ _) hB⟩
end Go.Proofs.Ytldidbejieekcaa
