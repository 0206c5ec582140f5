/-
  PROVED: the plain law of the parting of a text: as the reference's loop parts it, so the library's.
  CONDITIONS: none.
-/
import Derived.Test.YtimjfcipkmcgmaaDoorOwn
import Derived.Lib.SplitLaws
namespace Go.Proofs.YtimjfcipkmcgmaaDoor
open Go.ChangeShapes Go.WideShapes Go.ChangeAt Go.RowKit
set_option linter.unusedVariables false
def hcat (p : List UInt8) : List (List UInt8) → List (List UInt8)
  | [] => [p]
  | q :: r => (p ++ q) :: r
def partsL (c : UInt8) : List UInt8 → List (List UInt8)
  | [] => [[]]
  | b :: r => if b = c then [] :: partsL c r else hcat [b] (partsL c r)
theorem hcat_ne (p : List UInt8) (L : List (List UInt8)) : hcat p L ≠ [] := by cases L <;> simp [hcat]
theorem partsL_ne (c : UInt8) : ∀ l, partsL c l ≠ []
  | [] => by simp [partsL]
  | b :: r => by
    rw [partsL]
    split
    · simp
    · exact hcat_ne _ _
theorem hcat_hcat (p q : List UInt8) {L : List (List UInt8)} (h : L ≠ []) : hcat p (hcat q L) = hcat (p ++ q) L := by
  cases L with
  | nil => exact absurd rfl h
  | cons x r => simp [hcat]
theorem hcat_nil {L : List (List UInt8)} (h : L ≠ []) : hcat [] L = L := by
  cases L with
  | nil => exact absurd rfl h
  | cons x r => simp [hcat]
theorem splitK_one (c : UInt8) : ∀ l : List UInt8, Lib.splitK [c] 0 (Lib.count l [c]) l = partsL c l
  | [] => by rw [Lib.count_miss (by simp [Lib.index])]; rfl
  | b :: r => by
    have ih := splitK_one c r
    by_cases h : b = c
    · subst h
      have hix : Lib.index (b :: r) [b] = 0 := by rw [Lib.index]; simp [List.isPrefixOf]
      rw [Lib.count_cons_eq, Nat.add_comm, Lib.splitK, if_neg (by rw [hix]; decide), hix, partsL, if_pos rfl, ← ih]
      simp
    · rw [Lib.count_cons_ne b c r h, partsL, if_neg h, ← ih]
      cases hk : Lib.count r [c] with
      | zero => simp [Lib.splitK, hcat]
      | succ k =>
        have hm : Lib.index r [c] ≠ -1 := fun e => by rw [Lib.count_miss e] at hk; omega
        have hge := Lib.index_ge r [c]
        obtain ⟨j, hj⟩ : ∃ j : Nat, Lib.index r [c] = j := ⟨(Lib.index r [c]).toNat, by omega⟩
        have hp : ([c] : List UInt8).isPrefixOf (b :: r) = false := by simp [List.isPrefixOf, Ne.symm h]
        have hix : Lib.index (b :: r) [c] = ((j + 1 : Nat) : Int) := by
          rw [Lib.index, hp]
          simp only [Bool.false_eq_true, if_false]
          rw [if_neg (fun e => hm (beq_iff_eq.1 e)), hj]; omega
        have n1 : ¬ (((j + 1 : Nat) : Int) == -1) = true := fun e => by have := beq_iff_eq.1 e; omega
        have n2 : ¬ ((j : Int) == -1) = true := fun e => by have := beq_iff_eq.1 e; omega
        rw [Lib.splitK, Lib.splitK, hj, hix, if_neg n1, if_neg n2]
        simp [hcat]
/-- the pieces that are still to come: from fr on, k bytes before the end -/
def pF (c : UInt8) (s : ByteArray) (fr : Nat) : Nat → List ByteArray
  | 0 => [s.extract fr s.size]
  | k + 1 => if s.data.toList.getD (s.size - (k + 1)) 0 = c then s.extract fr (s.size - (k + 1)) :: pF c s (s.size - k) k else pF c s fr k
theorem ext_data (s : ByteArray) (a b : Nat) : (s.extract a b).data.toList = (s.data.toList.drop a).take (b - a) := by
  rw [ByteArray.data_extract, Array.toList_extract, List.extract_eq_take_drop]
theorem data_len (s : ByteArray) : s.data.toList.length = s.size := by rw [Array.length_toList]; rfl
theorem pF_data (c : UInt8) (s : ByteArray) : ∀ k fr : Nat, k ≤ s.size → fr ≤ s.size - k →
    (pF c s fr k).map (·.data.toList) = hcat ((s.data.toList.drop fr).take (s.size - k - fr)) (partsL c (s.data.toList.drop (s.size - k)))
  | 0, fr, _, hf => by
    rw [Nat.sub_zero, List.drop_eq_nil_of_le (Nat.le_of_eq (data_len s))]
    simp only [pF, List.map_cons, List.map_nil, ext_data, partsL, hcat, List.append_nil]
  | k + 1, fr, hk, hf => by
    have hlt : s.size - (k + 1) < s.data.toList.length := by rw [data_len]; omega
    have hd : s.data.toList.drop (s.size - (k + 1)) = s.data.toList.getD (s.size - (k + 1)) 0 :: s.data.toList.drop (s.size - k) := by
      rw [List.drop_eq_getElem_cons hlt, show s.size - (k + 1) + 1 = s.size - k by omega]
      simp [List.getD_eq_getElem?_getD, List.getElem?_eq_getElem hlt]
    rw [hd]
    unfold pF
    by_cases h : s.data.toList.getD (s.size - (k + 1)) 0 = c
    · rw [if_pos h, partsL, if_pos h, List.map_cons, pF_data c s k _ (by omega) (Nat.le_refl _)]
      rw [Nat.sub_self, List.take_zero, hcat_nil (partsL_ne _ _)]
      simp only [ext_data, hcat, List.append_nil]
    · rw [if_neg h, partsL, if_neg h, pF_data c s k _ (by omega) (by omega), hcat_hcat _ _ (partsL_ne _ _)]
      have hlt2 : s.size - (k + 1) - fr < (s.data.toList.drop fr).length := by rw [List.length_drop, data_len]; omega
      have hix : fr + (s.size - (k + 1) - fr) = s.size - (k + 1) := by omega
      have hx : (s.data.toList.drop fr)[s.size - (k + 1) - fr] = s.data.toList.getD (s.size - (k + 1)) 0 := by
        rw [List.getElem_drop, List.getD_eq_getElem?_getD, List.getElem?_eq_getElem hlt]
        simp only [hix, Option.getD_some]
      rw [show s.size - k - fr = s.size - (k + 1) - fr + 1 by omega, List.take_succ_eq_append_getElem hlt2, hx]
theorem map_data_inj : ∀ {L M : List ByteArray}, L.map (·.data.toList) = M.map (·.data.toList) → L = M
  | [], [], _ => rfl
  | [], _ :: _, h => by simp at h
  | _ :: _, [], h => by simp at h
  | a :: L, b :: M, h => by
    simp only [List.map_cons, List.cons.injEq] at h
    rw [ByteArray.ext (Array.ext' h.1), map_data_inj h.2]
def partsB (c : UInt8) (s : ByteArray) : List ByteArray := Lib.splitB ⟨#[c]⟩ 0 (Lib.countB s ⟨#[c]⟩) s
theorem partsB_data (c : UInt8) (s : ByteArray) : (partsB c s).map (·.data.toList) = partsL c s.data.toList := by
  unfold partsB
  rw [Lib.splitB_data]
  exact splitK_one c s.data.toList
theorem pF_all (c : UInt8) (s : ByteArray) : pF c s 0 s.size = partsB c s := by
  apply map_data_inj
  rw [pF_data c s s.size 0 (Nat.le_refl _) (Nat.zero_le _), partsB_data]
  simp [hcat_nil (partsL_ne _ _)]
theorem partsB_len (c : UInt8) (s : ByteArray) : (partsB c s).length = Lib.countB s ⟨#[c]⟩ + 1 := Lib.splitB_all _ (by simp [ByteArray.size]) 0 _ s rfl
theorem partsB_le (c : UInt8) (s : ByteArray) : (partsB c s).length ≤ s.size + 1 := by
  rw [partsB_len]
  have := Lib.countB_le ⟨#[c]⟩ (by simp [ByteArray.size]) s.size s (Nat.le_refl _)
  omega
theorem pF_end {c : UInt8} {s : ByteArray} {fr i : Nat} (h : s.size - i = 0) : pF c s fr (s.size - i) = [s.extract fr s.size] := by rw [h]; rfl
theorem pF_hit {c : UInt8} {s : ByteArray} {fr i : Nat} (hi : i < s.size) (h : s[i] = c) : pF c s fr (s.size - i) = s.extract fr i :: pF c s (i + 1) (s.size - (i + 1)) := by
  obtain ⟨k, hk⟩ : ∃ k, s.size - i = k + 1 := ⟨s.size - i - 1, by omega⟩
  have e1 : s.size - (k + 1) = i := by omega
  have e2 : s.size - k = i + 1 := by omega
  have e3 : s.size - (i + 1) = k := by omega
  have hg : s.data.toList.getD i 0 = c := by
    rw [← h, List.getD_eq_getElem?_getD, Array.getElem?_toList, Array.getElem?_eq_getElem (show i < s.data.size from hi)]
    rfl
  rw [hk, pF, e1, e2, e3, if_pos hg]
theorem pF_miss {c : UInt8} {s : ByteArray} {fr i : Nat} (hi : i < s.size) (h : ¬ s[i] = c) : pF c s fr (s.size - i) = pF c s fr (s.size - (i + 1)) := by
  obtain ⟨k, hk⟩ : ∃ k, s.size - i = k + 1 := ⟨s.size - i - 1, by omega⟩
  have e1 : s.size - (k + 1) = i := by omega
  have e3 : s.size - (i + 1) = k := by omega
  have hg : ¬ s.data.toList.getD i 0 = c := by
    intro e
    apply h
    rw [← e, List.getD_eq_getElem?_getD, Array.getElem?_toList, Array.getElem?_eq_getElem (show i < s.data.size from hi)]
    rfl
  rw [hk, pF, e1, e3, if_neg hg]
end Go.Proofs.YtimjfcipkmcgmaaDoor
