/-
  PROVED: plain laws of eighths of a turn.
  CONDITIONS: none.
-/
import Derived.Test.YtimjfcipkmcgmaaPart
namespace Go.Proofs.Ytimjfcipkmcgmaa
open Go.ChangeShapes Go.WideShapes Go.ChangeAt Go.RowKit
set_option linter.unusedVariables false
def waveI (t : Int) : Int := if t = 1 then 1 else if t = 3 then -1 else 0
def sgnI (a : Int) : Int := if a < 0 then -1 else 1
theorem sgnI_or (a : Int) : sgnI a = 1 ∨ sgnI a = -1 := by unfold sgnI; split <;> omega
theorem ret_ib {x y : Int} {b c : Bool} (h : x = y) (h2 : b = c) : Ending.returned (.tuple #[.int .i64 x, .bool b]) = .returned (.tuple #[.int .i64 y, .bool c]) := by rw [h, h2]
def wvN (fn n : Int) : Int := if fn = 8 then waveI (n % 4) else if n % 2 != 0 then 0 else if fn = 6 then waveI (n / 2) else waveI ((n / 2 + 1) % 4)
def wvB (fn n : Int) : Bool := if fn = 8 then true else if n % 2 != 0 then false else true
/-! ### the parts of a turn, both ways -/
theorem mod_sgn (a D : Int) : ∃ q : Int, (a.natAbs : Int) = sgnI a * (a % D) + D * q := by
  have h := Int.mul_ediv_add_emod a D
  unfold sgnI
  by_cases h0 : a < 0
  · refine ⟨-(a / D), ?_⟩
    rw [if_pos h0, Int.mul_neg]; omega
  · exact ⟨a / D, by rw [if_neg h0]; omega⟩
theorem part_law (a : Int) (F K : Nat) (D : Int) (hD : D = ((2 ^ F : Nat) : Int)) (hD0 : 0 < D) (hK : K = 4 ∨ K = 8) :
    (∃ t : Int, 0 ≤ t ∧ t < K ∧ a % D * K = D * t ∧ partB a.natAbs F K = true ∧ partN a.natAbs F K 4 = (sgnI a * t) % 4) ∨ (¬ D ∣ a % D * K ∧ partB a.natAbs F K = false) := by
  obtain ⟨q, hA⟩ := mod_sgn a D
  have hs := sgnI_or a
  have hr0 : 0 ≤ a % D := Int.emod_nonneg _ (by omega)
  have hr1 : a % D < D := Int.emod_lt_of_pos _ hD0
  generalize a % D = r at *
  generalize a.natAbs = A at *
  generalize sgnI a = s at *
  have hK0 : (0 : Int) < (K : Int) := by omega
  have hAK : (A : Int) * K = s * (r * K) + D * (q * K) := by
    rw [hA, Int.add_mul, Int.mul_assoc, Int.mul_assoc]
  have hB : partB A F K = decide ((A : Int) * K % D = 0) := by
    unfold partB
    have e : ((A * K % 2 ^ F : Nat) : Int) = (A : Int) * K % D := by rw [hD]; simp
    exact decide_eq_decide.2 (by rw [← e]; omega)
  have hN : (A : Int) * K % D = 0 → partN A F K 4 = (A : Int) * K / D % 4 := by
    intro h
    have e : ((A * K % 2 ^ F : Nat) : Int) = (A : Int) * K % D := by rw [hD]; simp
    rw [partN_yes (by omega), hD]
    simp
  have e1 : D ∣ D * (q * K) := ⟨q * K, rfl⟩
  by_cases hd : D ∣ r * K
  · obtain ⟨t, ht⟩ := hd
    have hrk : r * K < D * K := Int.mul_lt_mul_of_pos_right hr1 hK0
    have hrk0 : 0 ≤ r * K := Int.mul_nonneg hr0 (by omega)
    have ht0 : 0 ≤ t := by
      by_cases h : 0 ≤ t
      · exact h
      · have : D * t ≤ D * (-1) := Int.mul_le_mul_of_nonneg_left (by omega) (by omega)
        omega
    have ht1 : t < K := by
      by_cases h : t < K
      · exact h
      · have : D * K ≤ D * t := Int.mul_le_mul_of_nonneg_left (by omega) (by omega)
        omega
    have qA : (A : Int) * K = D * (s * t + q * K) := by
      rw [hAK, ht, Int.mul_add]
      congr 1
      rw [← Int.mul_assoc, Int.mul_comm s D, Int.mul_assoc]
    have h0 : (A : Int) * K % D = 0 := by rw [qA]; exact Int.mul_emod_right _ _
    refine .inl ⟨t, ht0, ht1, ht, by rw [hB, decide_eq_true h0], ?_⟩
    rw [hN h0, qA, Int.mul_ediv_cancel_left _ (by omega)]
    rcases hK with rfl | rfl <;> rcases hs with rfl | rfl <;> omega
  · refine .inr ⟨hd, ?_⟩
    rw [hB]
    apply decide_eq_false
    intro h
    apply hd
    have h2 := Int.dvd_of_emod_eq_zero h
    rw [hAK, Int.dvd_add_left e1] at h2
    rcases hs with rfl | rfl
    · simpa using h2
    · have : D ∣ -(r * K) := by simpa using h2
      exact Int.dvd_neg.1 this
def trN (fn D a : Int) : Int := if (a % D * 8 % D == 0) = true then wvN fn (a % D * 8 / D) else 0
def trB (fn D a : Int) : Bool := if (a % D * 8 % D == 0) = true then wvB fn (a % D * 8 / D) else false
theorem eight_of {r D n : Int} (hD0 : 0 < D) (h : r * 8 = D * n) : (r * 8 % D == 0) = true ∧ r * 8 / D = n := by
  rw [h]
  exact ⟨by rw [beq_iff_eq]; exact Int.mul_emod_right _ _, Int.mul_ediv_cancel_left _ (by omega)⟩
theorem two_t {r D t : Int} (h : r * ((4 : Nat) : Int) = D * t) : r * 8 = D * (2 * t) := by
  have h1 : r * ((4 : Nat) : Int) = r * 4 := rfl
  have h2 : D * (2 * t) = 2 * (D * t) := by rw [← Int.mul_assoc, Int.mul_comm D 2, Int.mul_assoc]
  omega
theorem wave_sgn {s t : Int} (hs : s = 1 ∨ s = -1) (h0 : 0 ≤ t) (h1 : t < 8) : s * waveI ((s * t) % 4) = waveI (t % 4) := by
  have ht : t = 0 ∨ t = 1 ∨ t = 2 ∨ t = 3 ∨ t = 4 ∨ t = 5 ∨ t = 6 ∨ t = 7 := by omega
  rcases hs with rfl | rfl <;> rcases ht with rfl | rfl | rfl | rfl | rfl | rfl | rfl | rfl <;> rfl
theorem wave_bd {s : Int} (hs : s = 1 ∨ s = -1) (p : Int) : -1 ≤ s * waveI (p % 4) ∧ s * waveI (p % 4) ≤ 1 := by
  have h : waveI (p % 4) = 0 ∨ waveI (p % 4) = 1 ∨ waveI (p % 4) = -1 := by unfold waveI; split <;> (try split) <;> simp
  rcases hs with rfl | rfl <;> rcases h with h | h | h <;> rw [h] <;> decide
theorem wave_cos {s t : Int} (hs : s = 1 ∨ s = -1) (h0 : 0 ≤ t) (h1 : t < 4) : waveI (((s * t) % 4 + 1) % 4) = waveI ((t + 1) % 4) := by
  have ht : t = 0 ∨ t = 1 ∨ t = 2 ∨ t = 3 := by omega
  rcases hs with rfl | rfl <;> rcases ht with rfl | rfl | rfl | rfl <;> rfl
theorem odd_of {r D : Int} (hD0 : 0 < D) (hn : ¬ D ∣ r * ((4 : Nat) : Int)) (h : (r * 8 % D == 0) = true) : (r * 8 / D % 2 != 0) = true := by
  rw [bne_iff_ne]
  intro h2
  apply hn
  have h3 := Int.mul_ediv_cancel' (Int.dvd_of_emod_eq_zero (beq_iff_eq.1 h))
  refine ⟨r * 8 / D / 2, ?_⟩
  generalize r * 8 / D = n at *
  have : D * n = D * (n / 2) * 2 := by rw [Int.mul_assoc]; congr 1; omega
  have : r * ((4 : Nat) : Int) = r * 4 := rfl
  omega
theorem turn6 (a : Int) (F : Nat) (D : Int) (hD : D = ((2 ^ F : Nat) : Int)) (hD0 : 0 < D) :
    (partB a.natAbs F 4 = true → sgnI a * waveI (partN a.natAbs F 4 4 % 4) = trN 6 D a ∧ trB 6 D a = true) ∧ (partB a.natAbs F 4 = false → trN 6 D a = 0 ∧ trB 6 D a = false) := by
  rcases part_law a F 4 D hD hD0 (.inl rfl) with ⟨t, h0, h1, h2, h3, h4⟩ | ⟨h1, h2⟩
  · rw [h3, h4]
    refine ⟨fun _ => ?_, fun h => by cases h⟩
    obtain ⟨e1, e2⟩ := eight_of (r := a % D) (D := D) (n := 2 * t) hD0 (two_t h2)
    unfold trN trB
    rw [if_pos e1, if_pos e1, e2]
    have e3 : (2 * t % 2 != 0) = false := by rw [bne_eq_false_iff_eq]; omega
    have e4 : 2 * t / 2 = t := by omega
    unfold wvN wvB
    rw [if_neg (by decide), if_neg (by rw [e3]; simp), if_pos rfl, if_neg (by decide), if_neg (by rw [e3]; simp), e4, Int.emod_emod_of_dvd _ (Int.dvd_refl 4), wave_sgn (sgnI_or a) h0 (by omega)]
    exact ⟨by congr 1; omega, rfl⟩
  · rw [h2]
    refine ⟨(fun h => by cases h), fun _ => ?_⟩
    unfold trN trB
    by_cases h : (a % D * 8 % D == 0) = true
    · rw [if_pos h, if_pos h]
      have := odd_of hD0 h1 h
      unfold wvN wvB
      rw [if_neg (by decide), if_pos this, if_neg (by decide), if_pos this]
      exact ⟨rfl, rfl⟩
    · rw [if_neg h, if_neg h]
      exact ⟨rfl, rfl⟩
theorem turn7 (a : Int) (F : Nat) (D : Int) (hD : D = ((2 ^ F : Nat) : Int)) (hD0 : 0 < D) :
    (partB a.natAbs F 4 = true → waveI ((partN a.natAbs F 4 4 + 1) % 4) = trN 7 D a ∧ trB 7 D a = true) ∧ (partB a.natAbs F 4 = false → trN 7 D a = 0 ∧ trB 7 D a = false) := by
  rcases part_law a F 4 D hD hD0 (.inl rfl) with ⟨t, h0, h1, h2, h3, h4⟩ | ⟨h1, h2⟩
  · rw [h3, h4]
    refine ⟨fun _ => ?_, fun h => by cases h⟩
    obtain ⟨e1, e2⟩ := eight_of (r := a % D) (D := D) (n := 2 * t) hD0 (two_t h2)
    unfold trN trB
    rw [if_pos e1, if_pos e1, e2]
    have e3 : (2 * t % 2 != 0) = false := by rw [bne_eq_false_iff_eq]; omega
    have e4 : 2 * t / 2 = t := by omega
    unfold wvN wvB
    rw [if_neg (by decide), if_neg (by rw [e3]; simp), if_neg (by decide), if_neg (by decide), if_neg (by rw [e3]; simp), e4, wave_cos (sgnI_or a) h0 (by omega)]
    exact ⟨rfl, rfl⟩
  · rw [h2]
    refine ⟨(fun h => by cases h), fun _ => ?_⟩
    unfold trN trB
    by_cases h : (a % D * 8 % D == 0) = true
    · rw [if_pos h, if_pos h]
      have := odd_of hD0 h1 h
      unfold wvN wvB
      rw [if_neg (by decide), if_pos this, if_neg (by decide), if_pos this]
      exact ⟨rfl, rfl⟩
    · rw [if_neg h, if_neg h]
      exact ⟨rfl, rfl⟩
theorem turn8 (a : Int) (F : Nat) (D : Int) (hD : D = ((2 ^ F : Nat) : Int)) (hD0 : 0 < D) :
    (partB a.natAbs F 8 = true → sgnI a * waveI (partN a.natAbs F 8 4) = trN 8 D a ∧ trB 8 D a = true) ∧ (partB a.natAbs F 8 = false → trN 8 D a = 0 ∧ trB 8 D a = false) := by
  rcases part_law a F 8 D hD hD0 (.inr rfl) with ⟨t, h0, h1, h2, h3, h4⟩ | ⟨h1, h2⟩
  · rw [h3, h4]
    refine ⟨fun _ => ?_, fun h => by cases h⟩
    obtain ⟨e1, e2⟩ := eight_of (r := a % D) (D := D) (n := t) hD0 h2
    unfold trN trB
    rw [if_pos e1, if_pos e1, e2]
    unfold wvN wvB
    rw [if_pos rfl, if_pos rfl, wave_sgn (sgnI_or a) h0 (by omega)]
    exact ⟨rfl, rfl⟩
  · rw [h2]
    refine ⟨(fun h => by cases h), fun _ => ?_⟩
    unfold trN trB
    have h : ¬ (a % D * 8 % D == 0) = true := by
      intro h
      exact h1 (Int.dvd_of_emod_eq_zero (beq_iff_eq.1 h))
    rw [if_neg h, if_neg h]
    exact ⟨rfl, rfl⟩
theorem partN_or (A F K : Nat) : partN A F K 4 = 0 ∨ partN A F K 4 = 1 ∨ partN A F K 4 = 2 ∨ partN A F K 4 = 3 := by
  unfold partN
  split
  · omega
  · exact .inl rfl
end Go.Proofs.Ytimjfcipkmcgmaa
