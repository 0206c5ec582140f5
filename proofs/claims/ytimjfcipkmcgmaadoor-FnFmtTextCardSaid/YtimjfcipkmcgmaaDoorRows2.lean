/-
  PROVED: contracts of the functions that copy, compare, mark and look over slices of numbers.
  CONDITIONS: none.
-/
import Derived.Test.YtimjfcipkmcgmaaDoorNums
import Derived.Deep.OwnRows
namespace Go.Proofs.YtimjfcipkmcgmaaDoor
open Go.ChangeShapes Go.WideShapes Go.ChangeAt Go.RowKit
set_option linter.unusedVariables false

/-- at the address a lie the numbers zs, one behind the other -/
def RowAt (K : IntKind) (w : World) (a : Option Addr) (zs : List Int) : Prop := zs = [] ∨ ∃ b off, a = some ⟨b, off, none⟩ ∧ b < w.heap.size ∧ ∀ i, i < zs.length → w.cell? ⟨b, off + i, none⟩ = some (.int K (zs.getD i 0))
theorem RowAt.below {K : IntKind} {w w' : World} {a : Option Addr} {zs : List Int} (h : RowAt K w a zs) (hb : Below w.heap.size w w') : RowAt K w' a zs := by
  rcases h with h | ⟨b, off, ha, hl, hc⟩
  · exact .inl h
  · exact .inr ⟨b, off, ha, Nat.lt_of_lt_of_le hl hb.size, fun i hi => (hb.cell (p := ⟨b, off + i, none⟩) hl).trans (hc i hi)⟩
theorem RowAt.nil {K : IntKind} {w : World} {a : Option Addr} : RowAt K w a [] := .inl rfl
theorem IsRow.rowAt {K : IntKind} {w : World} {a : Option Addr} {len cap : Nat} {zs : List Int} (h : IsRow K w a len cap zs) : RowAt K w a (zs.take len) ∧ (zs.take len).length = len ∧ ∀ z ∈ zs.take len, (Lit.int K z).wf = true := by
  rcases h with ⟨rfl, rfl, rfl, rfl⟩ | ⟨x, rfl, hl, hm, hz, hcell, hwf⟩
  · exact ⟨.inl rfl, rfl, by simp⟩
  · refine ⟨?_, by rw [List.length_take]; omega, fun z hz => hwf z (List.mem_of_mem_take hz)⟩
    by_cases h0 : 0 < zs.length
    · obtain ⟨b, off, rfl, hc⟩ := ints_at hcell h0
      refine .inr ⟨b, off, rfl, World.block_lt_of_cell? w _ (hc 0 h0), fun i hi => ?_⟩
      rw [List.length_take] at hi
      rw [hc i (by omega)]
      congr 2
      rw [List.getD_eq_getElem?_getD, List.getD_eq_getElem?_getD, List.getElem?_take, if_pos (by omega)]
    · left
      rw [List.length_eq_zero_iff.1 (show zs.length = 0 by omega), List.take_nil]
def rowArr (K : IntKind) (zs : List Int) : Array Value := (zs.map (Value.int K)).toArray
theorem rowArr_get (K : IntKind) (zs : List Int) (i : Nat) (h : i < zs.length) : (rowArr K zs)[i]? = some (.int K (zs.getD i 0)) := by
  simp [rowArr, List.getElem?_eq_getElem h, List.getD_eq_getElem?_getD]
theorem rowAt_new (K : IntKind) (zs : List Int) (w : World) (E : TypeId) : RowAt K (w.alloc (.cells (rowArr K zs) E)) (some ⟨w.heap.size, 0, none⟩) zs := by
  refine .inr ⟨_, _, rfl, by simp, fun i hi => ?_⟩
  rw [Nat.zero_add, World.cell?_alloc_mark]
  exact rowArr_get K zs i hi
/-- j of the numbers are laid, the rest is nought -/
def mkArr (K : IntKind) (zs : List Int) (n j : Nat) : Array Value := ((zs.take j).map (Value.int K) ++ List.replicate (n - j) (Value.int K 0)).toArray
theorem mkArr_zero (K : IntKind) (zs : List Int) (n : Nat) : madeCells #[.int K 0] n = mkArr K zs n 0 := by
  apply Array.ext'
  apply List.ext_getElem
  · simp [madeCells, mkArr]
  · intro i h1 h2
    simp [madeCells, mkArr] at h1 ⊢
    rw [Nat.mod_one]
    rfl
theorem mkArr_get (K : IntKind) (zs : List Int) (n j : Nat) (hz : zs.length = n) (hj : j < n) : (mkArr K zs n j)[j]? = some (.int K 0) := by
  unfold mkArr
  rw [List.getElem?_toArray, List.getElem?_append_right (by simp; omega)]
  rw [List.getElem?_replicate, if_pos (by simp; omega)]
theorem mkArr_set (K : IntKind) (zs : List Int) (n j : Nat) (hz : zs.length = n) (hj : j < n) : (mkArr K zs n j).setIfInBounds j (.int K (zs.getD j 0)) = mkArr K zs n (j + 1) := by
  apply Array.ext'
  unfold mkArr
  simp only [List.setIfInBounds_toArray]
  have e1 : zs.take (j + 1) = zs.take j ++ [zs.getD j 0] := by
    rw [List.take_succ_eq_append_getElem (by omega)]
    simp [List.getD_eq_getElem?_getD, List.getElem?_eq_getElem (show j < zs.length by omega)]
  obtain ⟨m, hm⟩ : ∃ m, n - j = m + 1 := ⟨n - j - 1, by omega⟩
  rw [e1, hm, show n - (j + 1) = m from by omega, List.replicate_succ, List.set_append_right _ _ (by simp; omega)]
  simp [List.length_take, show min j zs.length = j from by omega]
theorem mkArr_full (K : IntKind) (zs : List Int) (n : Nat) (hz : zs.length = n) : mkArr K zs n n = rowArr K zs := by
  unfold mkArr rowArr
  rw [List.take_of_length_le (by omega), Nat.sub_self]
  simp
theorem take_eq_step {zs ys : List Int} {k : Nat} (h1 : k < zs.length) (h2 : k < ys.length) (he : zs.take k = ys.take k) (hk : zs.getD k 0 = ys.getD k 0) : zs.take (k + 1) = ys.take (k + 1) := by
  rw [List.take_succ_eq_append_getElem h1, List.take_succ_eq_append_getElem h2, he]
  simp [List.getD_eq_getElem?_getD, List.getElem?_eq_getElem h1, List.getElem?_eq_getElem h2] at hk
  rw [hk]
theorem ne_of_getD {zs ys : List Int} {k : Nat} (hk : ¬ zs.getD k 0 = ys.getD k 0) : (zs == ys) = false := by
  rw [beq_eq_false_iff_ne]
  intro h
  exact hk (by rw [h])
theorem drop_getD {zs : List Int} {k : Nat} (h : k < zs.length) : zs.drop k = zs.getD k 0 :: zs.drop (k + 1) := by
  rw [List.drop_eq_getElem_cons h]
  simp [List.getD_eq_getElem?_getD, List.getElem?_eq_getElem h]
theorem getD_mem {zs : List Int} {k : Nat} (h : k < zs.length) : zs.getD k 0 ∈ zs := by
  simp [List.getD_eq_getElem?_getD, List.getElem?_eq_getElem h]
end Go.Proofs.YtimjfcipkmcgmaaDoor
