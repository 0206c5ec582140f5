/-
  PROVED: contracts of the draws of numbers and of texts that are parted; the walk of the law of numbers.
  CONDITIONS: none.
-/
import Derived.Test.YtimjfcipkmcgmaaDoorCur3
import Derived.Test.YtimjfcipkmcgmaaDoorPut
import Derived.Test.YtimjfcipkmcgmaaDoorGet
import Derived.Test.YtimjfcipkmcgmaaDoorPtc
import Derived.Test.YtimjfcipkmcgmaaDoorShp
import Derived.Laws.AppendOwnNone
import Derived.Deep.RegionHeld3
namespace Go.Proofs.YtimjfcipkmcgmaaDoor
open Go.ChangeShapes Go.WideShapes Go.ChangeAt Go.RowKit
set_option linter.unusedVariables false
def putNs : List Int := [0, 1, 127, 128, 300, 16384, 2147483647, 2147483648, -1, 9223372036854775807]
theorem get_put : ∀ n ∈ putNs, inR n 0 2147483647 = true → 0 < (putL n).length ∧ getB (7 :: (putL n ++ [9])) 1 = (n, 1 + ((putL n).length : Int), true) ∧ ∀ z ∈ putL n, 0 ≤ z ∧ z ≤ 255 := by decide +kernel
theorem put_out {n : Int} (h : inR n 0 2147483647 = false) : putL n = [] := by unfold putL; rw [if_neg (by simp [h])]
set_option maxHeartbeats 1000000 in
theorem drawPutNum_any (S : Src) (w : World) (ha : RowAt .u8 w S.a S.l) : Calls Tryd.prog 23 #[.slice S.a S.n S.c] w fun e w' => ∃ n, e = .returned (.int .i64 n) ∧ n ∈ putNs ∧ Below w.heap.size w w' := by
  have HC := Lib.hid (l1New_any S w ha); clear ha
  go_enter Tryd.func23, Tryd.ntmps23
  go_wp2_with fail
  refine HC.out.mono ?_
  rintro e w1 ⟨rfl, hc, hb⟩
  have HCU := Lib.hid hc; clear hc
  go_wp2_with fail
  refine (pick_lit w1 w.heap.size S _ _ putNs _ 10 _ HCU.out ?_ rfl (by omega) (by omega)).mono ?_
  · rfl
  rintro e w2 ⟨n, i, h, rfl, hm, _, ho⟩
  have HM := Lib.hid hm
  clear hm
  go_wp2_with fail
  go_ret
  exact ⟨_, rfl, HM.out, below_only hb ho (Nat.le_refl _)⟩
set_option maxHeartbeats 1000000 in
theorem pickV (W : World) (g : Nat) (S : Src) (i : Nat) (h : Int) (A : Array Value) (m : Nat) (T : TypeId) (hw : CurAt W g S i h) (hx : A.size = m) (hm : 0 < m) (hm2 : m ≤ 256) (hA : ∀ x ∈ A.toList, ∃ s, x = Value.string s) :
    Calls Tryd.prog 37 #[.pointer (some ⟨g, 0, none⟩), .slice (some ⟨W.heap.size, 0, none⟩) m m] (W.alloc (.cells A T)) fun e w' => ∃ s i h, e = .returned (.string s) ∧ Value.string s ∈ A.toList ∧ CurAt w' g S i h ∧ W.grownBy w' (some g) := by
  have hg := hw.lt
  have HC := Lib.hid (l1Below_pos (W.alloc (.cells A T)) g S i h (m : Int) (hw.below (bl_alloc _ _)) (by omega)); clear hw
  have HA := Lib.hid hA; clear hA
  have HX := Lib.hid hx; clear hx
  go_enter Tryd.func37, Tryd.ntmps37
  go_wp2_with fail
  refine HC.out.mono ?_
  rintro e w1 ⟨v, i', h', rfl, ⟨hv0, hv1⟩, hc, ho⟩
  have HCU := Lib.hid hc; clear hc
  obtain ⟨k, rfl⟩ := Int.eq_ofNat_of_zero_le hv0
  have hkm : k < m := by omega
  have hks : k < A.size := by rw [HX.out]; exact hkm
  obtain ⟨s, hs⟩ := HA.out A[k] (by simp)
  have HM : Hid (Value.string s ∈ A.toList) := by show _ ∈ _; rw [← hs]; simp
  have hcell : w1.cell? ⟨W.heap.size, k, none⟩ = some (.string s) := by
    have h1 := World.cell?_of_block (w := W.alloc (.cells A T)) (w' := w1) (a := ⟨W.heap.size, k, none⟩) (ho.block W.heap.size (by simp) (fun e => by injection e with e; omega))
    rw [h1, World.cell?_alloc_mark, Array.getElem?_eq_getElem hks, hs]
  clear hs hks hv0 hv1
  go_wp2_with fail
  go_ret
  exact ⟨_, _, _, rfl, HM.out, HCU.out, only_step (only_of_below (bl_alloc _ _) _) ho⟩
set_option maxHeartbeats 1000000 in
theorem drawParts_any (S : Src) (w : World) (ha : RowAt .u8 w S.a S.l) : Calls Tryd.prog 27 #[.slice S.a S.n S.c] w fun e w' => ∃ (s : ByteArray) (c : UInt8), e = .returned (.tuple #[.string s, .int .u8 (c.toNat : Int)]) ∧ s.size ≤ 6 ∧ Below w.heap.size w w' := by
  have HC := Lib.hid (l1New_any S w ha); clear ha
  go_enter Tryd.func27, Tryd.ntmps27
  go_wp2_with fail
  refine HC.out.mono ?_
  rintro e w1 ⟨rfl, hc, hb⟩
  have HCU := Lib.hid hc; clear hc
  go_wp2_with fail
  refine (pickV w1 w.heap.size S _ _ _ 6 _ HCU.out ?_ (by omega) (by omega) ?_).mono ?_
  · rfl
  · exact List.forall_mem_cons.2 ⟨⟨_, rfl⟩, List.forall_mem_cons.2 ⟨⟨_, rfl⟩, List.forall_mem_cons.2 ⟨⟨_, rfl⟩, List.forall_mem_cons.2 ⟨⟨_, rfl⟩, List.forall_mem_cons.2 ⟨⟨_, rfl⟩, List.forall_mem_cons.2 ⟨⟨_, rfl⟩, List.forall_mem_nil _⟩⟩⟩⟩⟩⟩
  rintro e w2 ⟨s, i, h, rfl, hm, hc, ho⟩
  have hs : s.size ≤ 6 := by
    have hm' : Value.string s ∈ [Value.string ⟨#[]⟩, Value.string ⟨#[97]⟩, Value.string ⟨#[97, 44, 98]⟩, Value.string ⟨#[44]⟩, Value.string ⟨#[97, 44, 44, 98, 44]⟩, Value.string ⟨#[97, 47, 98, 44, 99, 47]⟩] := hm
    simp only [List.mem_cons, Value.string.injEq, List.not_mem_nil, or_false] at hm'
    rcases hm' with rfl | rfl | rfl | rfl | rfl | rfl
    all_goals decide
  have HCU2 := Lib.hid hc; clear hc hm
  go_wp2_with fail
  refine (pick_in w2 w.heap.size S _ _ _ 2 _ 44 47 HCU2.out ?_ ?_ (by omega) (by omega)).mono ?_
  · exact List.forall_mem_cons.2 ⟨⟨_, rfl, by omega, by omega⟩, List.forall_mem_cons.2 ⟨⟨_, rfl, by omega, by omega⟩, List.forall_mem_nil _⟩⟩
  · rfl
  rintro e w3 ⟨v, i', h', rfl, ⟨hv0, hv1⟩, _, ho2⟩
  obtain ⟨c, rfl⟩ : ∃ c : UInt8, v = (c.toNat : Int) := ⟨UInt8.ofNat v.toNat, by rw [UInt8.toNat_ofNat']; omega⟩
  have hc256 : (c.toNat : Int) % 256 = c.toNat := by omega
  go_wp2_with fail
  go_ret2
  exact ⟨s, c, by first | rfl | (rw [hc256]), hs, below_only hb (only_step ho ho2) (Nat.le_refl _)⟩
def tailJ (c : UInt8) : List (List UInt8) → List UInt8
  | [] => []
  | p :: r => c :: (p ++ tailJ c r)
theorem join_parts (c : UInt8) : ∀ l : List UInt8, ∃ p r, partsL c l = p :: r ∧ p ++ tailJ c r = l
  | [] => ⟨[], [], rfl, rfl⟩
  | b :: l => by
    obtain ⟨p, r, h1, h2⟩ := join_parts c l
    rw [partsL]
    by_cases h : b = c
    · rw [if_pos h, h1]
      exact ⟨[], p :: r, rfl, by subst h; simp [tailJ, h2]⟩
    · rw [if_neg h, h1]
      exact ⟨b :: p, r, rfl, by rw [← h2]; simp⟩
theorem join_partsB (c : UInt8) (s : ByteArray) : ((partsB c s).getD 0 ByteArray.empty).data.toList ++ tailJ c (((partsB c s).drop 1).map (·.data.toList)) = s.data.toList := by
  obtain ⟨p, r, h1, h2⟩ := join_parts c s.data.toList
  have h3 := partsB_data c s
  rw [h1] at h3
  cases hB : partsB c s with
  | nil => rw [hB] at h3; simp at h3
  | cons x t =>
    rw [hB] at h3
    simp only [List.map_cons, List.cons.injEq] at h3
    simp only [List.getD_cons_zero, List.drop_succ_cons, List.drop_zero]
    rw [h3.1, h3.2, h2]
theorem info8n : (Tryd.prog.info? 5).map (fun i => (i.zero, i.size, i.bytes)) = some (some (.int .u8 0), 1, 1) := by kernel_rfl
theorem own_seven (w : World) : (w.alloc (.cells #[.int .u8 7] 5)).ownsRow w.heap.size 5 1 (.slice (some ⟨w.heap.size, 0, none⟩) 1 1) 1 (([7] : List Int).map (Value.int .u8)) :=
  ⟨rfl, .inr ⟨w.heap.size, 1, #[.int .u8 7], rfl, Nat.le_refl _, heap_alloc_new w _, Nat.le_refl 1, by decide, rfl, rfl⟩⟩
end Go.Proofs.YtimjfcipkmcgmaaDoor
