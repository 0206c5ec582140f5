/-
  PROVED: contracts of the decimal digits of a number, the reference's and the program's (strconv.Itoa by the shelf's contract), and the walk of the law on it.
  CONDITIONS: none.
-/
import Derived.Test.YtldidbejieekcaaDoorDig
import Derived.Test.YtldidbejieekcaaDoorShelf
import Derived.Lib.AppendIntMem
namespace Go.Proofs.YtldidbejieekcaaDoor
open Go.ChangeShapes Go.WideShapes Go.ChangeAt Go.RowKit
set_option linter.unusedVariables false
theorem below_grow (w : World) (n : Nat) (os : Array Obj) : Below w.heap.size w (Go.Sort.grow (w.drewN n) os) := by
  refine ⟨rfl, rfl, rfl, ?_, fun i hi => ?_⟩
  · show w.heap.size ≤ (w.heap ++ os).size
    rw [Array.size_append]; omega
  · show (w.heap ++ os)[i]? = w.heap[i]?
    exact Array.getElem?_append_left hi
set_option maxHeartbeats 400000 in
theorem iDigits_any (n : Int) (w : World) (h0 : -9223372036854775808 ≤ n) (h1 : n ≤ 9223372036854775807) (ht : Lib.TabIs Tryd.prog w "internal/strconv.uint64pow10" .u64 Lib.pow10Tab) :
    Calls Tryd.prog 7 #[.int .i64 n] w fun e w' => e = .returned (.string ⟨(Lib.itoa n).toArray⟩) ∧ Below w.heap.size w w' := by
  have HC := Lib.hid (Tryd.strconv_Itoa n h0 h1 w ht)
  clear ht
  go_enter Tryd.func7, Tryd.ntmps7
  go_wp2_with fail
  refine HC.out.mono ?_
  rintro e w' ⟨rfl, k, os, rfl⟩
  go_wp2_with fail
  go_ret
  exact ⟨rfl, below_grow _ _ _⟩
set_option maxHeartbeats 1000000 in
theorem walkFnExactDigits (a0 : Int) (w : World) (w0 : (Lit.int .i64 a0).wf = true) (ht : Lib.TabIs Tryd.prog w "internal/strconv.uint64pow10" .u64 Lib.pow10Tab) :
    Calls Tryd.prog 3 #[.int .i64 a0] w fun e w' => e = .returned (.bool true) ∧ Below w.heap.size w w' := by
  obtain ⟨h0, h1⟩ := wf_i64 w0
  have HT := Lib.hid (Lib.tabBelow_of_tabIs ht)
  clear w0 ht
  go_enter Tryd.func3, Tryd.ntmps3
  go_wp2_with fail
  refine (sDigits_any a0 _ h0 h1).mono ?_
  rintro e w1 ⟨rfl, hb1⟩
  go_wp2_with fail
  refine (iDigits_any a0 _ h0 h1 (HT.out _ hb1)).mono ?_
  rintro e w2 ⟨rfl, hb2⟩
  go_wp2_with fail
  go_ret
  exact ⟨rfl, bl_step hb1 hb2⟩
end Go.Proofs.YtldidbejieekcaaDoor
