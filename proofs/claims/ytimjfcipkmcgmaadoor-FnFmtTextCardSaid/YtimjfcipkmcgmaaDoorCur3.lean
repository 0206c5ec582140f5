/-
  PROVED: contracts of the draws of a function's arguments; the walk of the law of the functions.
  CONDITIONS: none.
-/
import Derived.Test.YtimjfcipkmcgmaaDoorCur2
namespace Go.Proofs.YtimjfcipkmcgmaaDoor
open Go.ChangeShapes Go.WideShapes Go.ChangeAt Go.RowKit
set_option linter.unusedVariables false
theorem results_tmp5 {fn : Func} {t0 t1 t2 t3 t4 : Tmp} (h : fn.results = #[.tmp t0, .tmp t1, .tmp t2, .tmp t3, .tmp t4]) (tmps : Array Value) (P : Program) (w : World) :
    (results fn tmps).run P w = .ok (.tuple #[tmps.getD t0 undef, tmps.getD t1 undef, tmps.getD t2 undef, tmps.getD t3 undef, tmps.getD t4 undef]) w := by
  simp [results, h]
theorem intOf_int (K : IntKind) (v : Int) : intOf (.int K v) = v := rfl
theorem pick_any (W : World) (g : Nat) (S : Src) (i : Nat) (h : Int) (A : Array Value) (m : Nat) (T : TypeId) (hw : CurAt W g S i h) (hA : ∀ x ∈ A.toList, ∃ v, x = Value.int .i64 v) (hx : A.size = m) (hm : 0 < m) (hm2 : m ≤ 1000) :
    Calls Tryd.prog 42 #[.pointer (some ⟨g, 0, none⟩), .slice (some ⟨W.heap.size, 0, none⟩) m m] (W.alloc (.cells A T)) fun e w' => ∃ v i h, e = .returned (.int .i64 v) ∧ (Value.int .i64 v) ∈ A.toList ∧ CurAt w' g S i h ∧ W.grownBy w' (some g) := by
  have h1 : A = rowArr .i64 (A.toList.map intOf) := by
    apply Array.ext'
    simp only [rowArr, List.map_map]
    refine (List.map_id _).symm.trans (List.map_congr_left fun x hx => ?_)
    obtain ⟨v, rfl⟩ := hA x hx
    rfl
  refine (pick_lit W g S i h (A.toList.map intOf) A m T hw h1 (by simpa using hx) hm hm2).mono ?_
  rintro e w' ⟨v, i', h', he, hv, hc, ho⟩
  refine ⟨v, i', h', he, ?_, hc, ho⟩
  obtain ⟨x, hx, rfl⟩ := List.mem_map.1 hv
  obtain ⟨v, rfl⟩ := hA x hx
  exact hx
theorem pick_in (W : World) (g : Nat) (S : Src) (i : Nat) (h : Int) (A : Array Value) (m : Nat) (T : TypeId) (lo hi : Int) (hw : CurAt W g S i h) (hA : ∀ x ∈ A.toList, ∃ v, x = Value.int .i64 v ∧ lo ≤ v ∧ v ≤ hi) (hx : A.size = m) (hm : 0 < m) (hm2 : m ≤ 1000) :
    Calls Tryd.prog 42 #[.pointer (some ⟨g, 0, none⟩), .slice (some ⟨W.heap.size, 0, none⟩) m m] (W.alloc (.cells A T)) fun e w' => ∃ v i h, e = .returned (.int .i64 v) ∧ (lo ≤ v ∧ v ≤ hi) ∧ CurAt w' g S i h ∧ W.grownBy w' (some g) := by
  refine (pick_any W g S i h A m T hw (fun x hx => let ⟨v, h, _⟩ := hA x hx; ⟨v, h⟩) hx hm hm2).mono ?_
  rintro e w' ⟨v, i', h', he, hv, hc, ho⟩
  obtain ⟨u, hu, h1, h2⟩ := hA _ hv
  injection hu with _ hu
  subst hu
  exact ⟨_, i', h', he, ⟨h1, h2⟩, hc, ho⟩
theorem l1Below_pos (w : World) (g : Nat) (S : Src) (i : Nat) (h n : Int) (hw : CurAt w g S i h) (hn : 0 < n) :
    Calls Tryd.prog 46 #[.pointer (some ⟨g, 0, none⟩), .int .i64 n] w (DrawInt (fun v => 0 ≤ v ∧ v < n) w g S) :=
  (l1Below_any w g S i h n hw).mono fun e w' ⟨v, i, h, he, ⟨h0, h1⟩, hc, ho⟩ => ⟨v, i, h, he, ⟨h0, by omega⟩, hc, ho⟩
theorem big_any (a : Option Addr) (n c : Nat) (w : World) : Calls Tryd.prog 10 #[.slice a n c] w fun e w' => e = .returned (.bool (decide ((n : Int) > 1048576))) ∧ w = w' := by
  by_cases h : (n : Int) > 1048576
  · rw [decide_eq_true h]
    go_enter Tryd.func10, Tryd.ntmps10
    go_wp2
    go_ret
    exact ⟨rfl, rfl⟩
  · rw [decide_eq_false h]
    go_enter Tryd.func10, Tryd.ntmps10
    go_wp2
    go_ret
    exact ⟨rfl, rfl⟩
end Go.Proofs.YtimjfcipkmcgmaaDoor
