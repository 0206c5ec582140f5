/-
  PROVED: contracts of the functions of words: tables of words, the place of a word.
  CONDITIONS: none.
-/
import Derived.Test.YtimjfcipkmcgmaaNums
import Derived.ChangeKeysEq
namespace Go.Proofs.Ytimjfcipkmcgmaa
open Go.ChangeShapes Go.WideShapes Go.ChangeAt Go.RowKit
set_option linter.unusedVariables false
def statusL : List (List UInt8) := [[111, 107], [115, 97, 116], [111, 118, 101, 114], [119, 114, 97, 112], [100, 111, 109, 97, 105, 110], [104, 97, 114, 100], [98, 97, 100]]
def modeL : List (List UInt8) := [[100, 111, 119, 110], [117, 112], [122, 101, 114, 111], [101, 118, 101, 110], [97, 119, 97, 121]]
def policyL : List (List UInt8) := [[115, 97, 116], [101, 114, 114, 111, 114], [119, 114, 97, 112]]
def funL : List (List UInt8) := [[109, 117, 108], [100, 105, 118], [115, 113, 114, 116], [104, 121, 112, 111, 116], [101, 120, 112], [108, 111, 103], [115, 105, 110], [99, 111, 115], [116, 97, 110], [97, 116, 97, 110], [97, 116, 97, 110, 50], [115, 105, 110, 104], [99, 111, 115, 104], [116, 97, 110, 104], [97, 116, 97, 110, 104]]
def strs (l : List (List UInt8)) (n : Nat) : ByteArray := ⟨(l.getD n []).toArray⟩
/-- the place of a word among m words from the k-th on, or -1 -/
def placeF (f : Nat → ByteArray) (s : ByteArray) : Nat → Nat → Int
  | 0, _ => -1
  | m + 1, k => if ((f k).toList == s.toList) = true then (k : Int) else placeF f s m (k + 1)
theorem placeF_hit (f : Nat → ByteArray) (s : ByteArray) (m k : Nat) (hk : k < m) (h : ((f k).toList == s.toList) = true) : placeF f s (m - k) k = (k : Int) := by
  obtain ⟨j, hj⟩ : ∃ j, m - k = j + 1 := ⟨m - k - 1, by omega⟩
  rw [hj, placeF, if_pos h]
theorem placeF_miss (f : Nat → ByteArray) (s : ByteArray) (m k : Nat) (hk : k < m) (h : ((f k).toList == s.toList) = false) : placeF f s (m - (k + 1)) (k + 1) = placeF f s (m - k) k := by
  obtain ⟨j, hj⟩ : ∃ j, m - k = j + 1 := ⟨m - k - 1, by omega⟩
  rw [hj, placeF, if_neg (by simp [h]), show m - (k + 1) = j from by omega]
theorem placeF_end (f : Nat → ByteArray) (s : ByteArray) (m k : Nat) (hk : m ≤ k) : placeF f s (m - k) k = -1 := by
  rw [show m - k = 0 from by omega, placeF]
theorem placeF_range (f : Nat → ByteArray) (s : ByteArray) : ∀ m k, -1 ≤ placeF f s m k ∧ placeF f s m k ≤ (k : Int) + m - 1
  | 0, k => by simp [placeF]; omega
  | m + 1, k => by
    have := placeF_range f s m (k + 1)
    rw [placeF]
    split <;> omega
def wordAt (l : List (List UInt8)) (n : Int) : ByteArray := if 0 ≤ n ∧ n < l.length then strs l n.toNat else ByteArray.empty
theorem wordAt_nat (l : List (List UInt8)) (k : Nat) (h : k < l.length) : wordAt l (k : Int) = strs l k := by
  unfold wordAt; rw [if_pos (by omega)]; simp
theorem run_index_arr {P : Program} (w : World) {t e : TypeId} {n : Nat} {cs : Array Value} {i : Int} {v : Value} {i0 : TypeInfo} (h : P.underlying t = some (.array n e)) (he : P.underlying e = some .string) (hi : P.info? e = some i0) (hs : P.cellsOf e = 1)
    (h0 : 0 ≤ i) (h1 : i < n) (hv : cs[i.toNat]? = some v) : (Instr.index t (.agg cs) (.int .i64 i)).run P w = .ok v w := by
  simp [Instr.index, part, isAgg, run_underlying h, run_underlying he, asIntOf, run_sizeOf w hi, hs, hv, go_sem, h0, h1]
theorem run_index_arr_int {P : Program} (w : World) {t e : TypeId} {n : Nat} {cs : Array Value} {i : Int} {v : Value} {i0 : TypeInfo} {k : IntKind} (h : P.underlying t = some (.array n e)) (he : P.underlying e = some (.int k)) (hi : P.info? e = some i0) (hs : P.cellsOf e = 1)
    (h0 : 0 ≤ i) (h1 : i < n) (hv : cs[i.toNat]? = some v) : (Instr.index t (.agg cs) (.int .i64 i)).run P w = .ok v w := by
  simp [Instr.index, part, isAgg, run_underlying h, run_underlying he, asIntOf, run_sizeOf w hi, hs, hv, go_sem, h0, h1]
set_option maxHeartbeats 1000000 in
theorem iStatusText_any (n : Int) (w : World) : Calls Try.prog 19 #[.int .i64 n] w fun e w' => e = .returned (.string (wordAt statusL n)) ∧ Below w.heap.size w w' := by
  by_cases h : 0 ≤ n ∧ n ≤ 6
  · obtain ⟨i0, hi⟩ : ∃ i0, Try.prog.info? 9 = some i0 := ⟨_, rfl⟩
    obtain ⟨k, rfl⟩ := Int.eq_ofNat_of_zero_le h.1
    have hk : k < 7 := by omega
    have hk' : (k : Int) < 7 := by omega
    have hin : inR (k : Int) 0 6 = true := by rw [inR_iff]; omega
    have hw : wordAt statusL (k : Int) = strs statusL k := wordAt_nat _ _ hk
    have hv : (#[.string ⟨#[111, 107]⟩, .string ⟨#[115, 97, 116]⟩, .string ⟨#[111, 118, 101, 114]⟩, .string ⟨#[119, 114, 97, 112]⟩, .string ⟨#[100, 111, 109, 97, 105, 110]⟩, .string ⟨#[104, 97, 114, 100]⟩, .string ⟨#[98, 97, 100]⟩] : Array Value)[(k : Int).toNat]? = some (.string (strs statusL k)) := by
      rw [Int.toNat_natCast]
      rcases (show k = 0 ∨ k = 1 ∨ k = 2 ∨ k = 3 ∨ k = 4 ∨ k = 5 ∨ k = 6 by omega) with rfl | rfl | rfl | rfl | rfl | rfl | rfl <;> rfl
    have hx := fun w : World => run_index_arr (P := Try.prog) w Try.underlying49 Try.underlying9 hi (by kernel_rfl) (Int.natCast_nonneg k) hk' hv
    rw [hw]
    clear hw hv hi
    go_enter Try.func19, Try.ntmps19
    go_wp2_with (go_at_call 39; refine (inRange_any _ _ _ _).mono ?_; rintro e w' ⟨rfl, rfl⟩)
    go_ret
    exact ⟨rfl, by first | exact Below.refl _ _ | exact bl_alloc _ _⟩
  · have hin : inR n 0 6 = false := by rw [inR_not]; exact h
    have hw : wordAt statusL n = ByteArray.empty := by unfold wordAt; rw [if_neg (by simp [statusL]; omega)]
    rw [hw]
    go_enter Try.func19, Try.ntmps19
    go_wp2_with (go_at_call 39; refine (inRange_any _ _ _ _).mono ?_; rintro e w' ⟨rfl, rfl⟩)
    go_ret
    exact ⟨rfl, by first | exact Below.refl _ _ | exact bl_alloc _ _⟩
set_option maxHeartbeats 400000 in
theorem isFun_any (n : Int) (w : World) : Calls Try.prog 23 #[.int .i64 n] w fun e w' => e = .returned (.bool (inR n 0 14)) ∧ w = w' := by
  go_enter Try.func23, Try.ntmps23
  go_wp2_with (go_at_call 39; refine (inRange_any _ _ _ _).mono ?_; rintro e w' ⟨rfl, rfl⟩)
  go_ret
  exact ⟨rfl, rfl⟩
set_option maxHeartbeats 1000000 in
theorem iFunText_any (n : Int) (w : World) : Calls Try.prog 8 #[.int .i64 n] w fun e w' => e = .returned (.string (wordAt funL n)) ∧ Below w.heap.size w w' := by
  by_cases h : 0 ≤ n ∧ n ≤ 14
  · obtain ⟨k, rfl⟩ := Int.eq_ofNat_of_zero_le h.1
    have hin : inR (k : Int) 0 14 = true := by rw [inR_iff]; omega
    rcases (show k = 0 ∨ k = 1 ∨ k = 2 ∨ k = 3 ∨ k = 4 ∨ k = 5 ∨ k = 6 ∨ k = 7 ∨ k = 8 ∨ k = 9 ∨ k = 10 ∨ k = 11 ∨ k = 12 ∨ k = 13 ∨ k = 14 by omega) with rfl | rfl | rfl | rfl | rfl | rfl | rfl | rfl | rfl | rfl | rfl | rfl | rfl | rfl | rfl
    all_goals
      go_enter Try.func8, Try.ntmps8
      go_wp2_with (go_at_call 23; refine (isFun_any _ _).mono ?_; rintro e w' ⟨rfl, rfl⟩)
      go_ret
      exact ⟨ret_str rfl, bl_alloc _ _⟩
  · have hin : inR n 0 14 = false := by rw [inR_not]; exact h
    have hw : wordAt funL n = ByteArray.empty := by unfold wordAt; rw [if_neg (by simp [funL]; omega)]
    rw [hw]
    go_enter Try.func8, Try.ntmps8
    go_wp2_with (go_at_call 23; refine (isFun_any _ _).mono ?_; rintro e w' ⟨rfl, rfl⟩)
    go_ret
    exact ⟨rfl, Below.refl _ _⟩
set_option maxHeartbeats 1000000 in
theorem imodeText_any (k : Nat) (w : World) (hk : k < 5) : Calls Try.prog 36 #[.int .i64 k] w fun e w' => e = .returned (.string (strs modeL k)) ∧ w = w' := by
  obtain ⟨i0, hi⟩ : ∃ i0, Try.prog.info? 9 = some i0 := ⟨_, rfl⟩
  have hk' : (k : Int) < 5 := by omega
  have hv : (#[.string ⟨#[100, 111, 119, 110]⟩, .string ⟨#[117, 112]⟩, .string ⟨#[122, 101, 114, 111]⟩, .string ⟨#[101, 118, 101, 110]⟩, .string ⟨#[97, 119, 97, 121]⟩] : Array Value)[(k : Int).toNat]? = some (.string (strs modeL k)) := by
    rw [Int.toNat_natCast]
    rcases (show k = 0 ∨ k = 1 ∨ k = 2 ∨ k = 3 ∨ k = 4 by omega) with rfl | rfl | rfl | rfl | rfl <;> rfl
  have hx := fun w : World => run_index_arr (P := Try.prog) w Try.underlying63 Try.underlying9 hi (by kernel_rfl) (Int.natCast_nonneg k) hk' hv
  clear hv hi
  go_enter Try.func36, Try.ntmps36
  go_wp2
  go_ret
  exact ⟨rfl, rfl⟩
set_option maxHeartbeats 1000000 in
theorem ipolicyText_any (k : Nat) (w : World) (hk : k < 3) : Calls Try.prog 37 #[.int .i64 k] w fun e w' => e = .returned (.string (strs policyL k)) ∧ w = w' := by
  obtain ⟨i0, hi⟩ : ∃ i0, Try.prog.info? 9 = some i0 := ⟨_, rfl⟩
  have hk' : (k : Int) < 3 := by omega
  have hv : (#[.string ⟨#[115, 97, 116]⟩, .string ⟨#[101, 114, 114, 111, 114]⟩, .string ⟨#[119, 114, 97, 112]⟩] : Array Value)[(k : Int).toNat]? = some (.string (strs policyL k)) := by
    rw [Int.toNat_natCast]
    rcases (show k = 0 ∨ k = 1 ∨ k = 2 by omega) with rfl | rfl | rfl <;> rfl
  have hx := fun w : World => run_index_arr (P := Try.prog) w Try.underlying64 Try.underlying9 hi (by kernel_rfl) (Int.natCast_nonneg k) hk' hv
  clear hv hi
  go_enter Try.func37, Try.ntmps37
  go_wp2
  go_ret
  exact ⟨rfl, rfl⟩
set_option maxHeartbeats 400000 in
theorem l28Modes_any (w : World) : Calls Try.prog 41 #[] w fun e w' => e = .returned (.slice (some ⟨w.heap.size, 0, none⟩) 5 5) ∧ (∀ k : Nat, k < 5 → w'.cell? ⟨w.heap.size, k, none⟩ = some (.string (strs modeL k))) ∧ Below w.heap.size w w' := by
  go_enter Try.func41, Try.ntmps41
  go_wp2
  go_ret
  refine ⟨rfl, ?_, bl_alloc _ _⟩
  intro k hk
  rw [World.cell?_alloc_mark]
  rcases (show k = 0 ∨ k = 1 ∨ k = 2 ∨ k = 3 ∨ k = 4 by omega) with rfl | rfl | rfl | rfl | rfl <;> rfl
set_option maxHeartbeats 400000 in
theorem l28Policies_any (w : World) : Calls Try.prog 42 #[] w fun e w' => e = .returned (.slice (some ⟨w.heap.size, 0, none⟩) 3 3) ∧ (∀ k : Nat, k < 3 → w'.cell? ⟨w.heap.size, k, none⟩ = some (.string (strs policyL k))) ∧ Below w.heap.size w w' := by
  go_enter Try.func42, Try.ntmps42
  go_wp2
  go_ret
  refine ⟨rfl, ?_, bl_alloc _ _⟩
  intro k hk
  rw [World.cell?_alloc_mark]
  rcases (show k = 0 ∨ k = 1 ∨ k = 2 by omega) with rfl | rfl | rfl <;> rfl
end Go.Proofs.Ytimjfcipkmcgmaa
