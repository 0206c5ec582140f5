/-
  PROVED: plain laws of numbers cut into limbs of 24 bits (no program).
  CONDITIONS: none.
-/
import Derived.Test.YtimjfcipkmcgmaaRows2
namespace Go.Proofs.Ytimjfcipkmcgmaa
set_option linter.unusedVariables false
/-- limb i of m -/
def dg24 (m i : Nat) : Nat := m / 16777216 ^ i % 16777216
theorem dg24_lt (m i : Nat) : dg24 m i < 16777216 := Nat.mod_lt _ (by decide)
theorem dg24_z (m : Nat) : dg24 m 0 = m % 16777216 := by simp [dg24]
theorem dg24_small {m i : Nat} (h : m < 16777216 ^ i) : dg24 m i = 0 := by unfold dg24; rw [Nat.div_eq_of_lt h]
theorem dg24_succ (m i : Nat) : dg24 m (i + 1) = dg24 (m / 16777216) i := by
  unfold dg24; rw [Nat.pow_succ', Nat.div_div_eq_div_mul]
/-- the first L limbs of m -/
def digs (L m : Nat) : List Int := (List.range L).map fun i => ((dg24 m i : Nat) : Int)
theorem digs_len (L m : Nat) : (digs L m).length = L := by simp [digs]
theorem digs_get {L i : Nat} (m : Nat) (h : i < L) : (digs L m).getD i 0 = (dg24 m i : Int) := by
  unfold digs
  rw [List.getD_eq_getElem?_getD, List.getElem?_map, List.getElem?_range h]
  rfl
theorem digs_snoc (L m : Nat) : digs (L + 1) m = digs L m ++ [((dg24 m L : Nat) : Int)] := by
  unfold digs; rw [List.range_succ, List.map_append]; rfl
theorem digs_take {L n : Nat} (m : Nat) (h : n ≤ L) : (digs L m).take n = digs n m := by
  unfold digs; rw [← List.map_take, List.take_range, Nat.min_eq_left h]
theorem digs_in {L m : Nat} : ∀ z ∈ digs L m, 0 ≤ z ∧ z < 16777216 := by
  intro z hz
  obtain ⟨i, _, rfl⟩ := List.mem_map.1 hz
  have := dg24_lt m i
  omega
/-- how many limbs m has -/
def nl (m : Nat) : Nat := if h : m = 0 then 0 else nl (m / 16777216) + 1
termination_by m
decreasing_by exact Nat.div_lt_self (by omega) (by decide)
theorem nl_zero : nl 0 = 0 := by rw [nl, dif_pos rfl]
theorem nl_pos {m : Nat} (h : 0 < m) : nl m = nl (m / 16777216) + 1 := by rw [nl, dif_neg (by omega)]
theorem lt_pow_nl (m : Nat) : m < 16777216 ^ nl m := by
  induction m using Nat.strongRecOn with
  | ind m ih =>
    by_cases h : m = 0
    · subst h; rw [nl_zero]; decide
    · rw [nl_pos (by omega), Nat.pow_succ]
      have := ih (m / 16777216) (Nat.div_lt_self (by omega) (by decide))
      omega
theorem nl_le : ∀ {L m : Nat}, m < 16777216 ^ L → nl m ≤ L
  | 0, m, h => by
    have : m = 0 := by simpa using h
    subst this; rw [nl_zero]; exact Nat.le_refl _
  | L + 1, m, h => by
    by_cases h0 : m = 0
    · subst h0; rw [nl_zero]; omega
    · rw [nl_pos (by omega)]
      have : m / 16777216 < 16777216 ^ L := by
        rw [Nat.div_lt_iff_lt_mul (by decide)]
        rw [Nat.pow_succ] at h
        exact h
      have := nl_le this
      omega
theorem top_ne {m : Nat} (h : 0 < m) : dg24 m (nl m - 1) ≠ 0 := by
  induction m using Nat.strongRecOn with
  | ind m ih =>
    rw [nl_pos h]
    by_cases h1 : m / 16777216 = 0
    · rw [h1, nl_zero]
      show dg24 m 0 ≠ 0
      rw [dg24_z]
      omega
    · have := ih (m / 16777216) (Nat.div_lt_self (by omega) (by decide)) (by omega)
      have e : nl (m / 16777216) + 1 - 1 = (nl (m / 16777216) - 1) + 1 := by rw [nl_pos (by omega)]; omega
      rw [e, dg24_succ]
      exact this
theorem nl_ne_zero {m : Nat} (h : 0 < m) : 0 < nl m := by rw [nl_pos h]; omega
theorem pos_of_nl {m : Nat} (h : 0 < nl m) : 0 < m := by
  rcases Nat.eq_zero_or_pos m with h0 | h0
  · subst h0; rw [nl_zero] at h; exact absurd h (by decide)
  · exact h0
theorem dg24_past {m i : Nat} (h : nl m ≤ i) : dg24 m i = 0 :=
  dg24_small (Nat.lt_of_lt_of_le (lt_pow_nl m) (Nat.pow_le_pow_right (by decide) h))
/-- the limbs of m -/
def limbs (m : Nat) : List Int := digs (nl m) m
theorem limbs_len (m : Nat) : (limbs m).length = nl m := digs_len _ _
/-! ### a number times f, limb by limb -/
theorem pow_pos24 (i : Nat) : 0 < 16777216 ^ i := Nat.pow_pos (by decide)
def carry (x f i : Nat) : Nat := x % 16777216 ^ i * f / 16777216 ^ i
theorem carry_z (x f : Nat) : carry x f 0 = 0 := by simp [carry, Nat.mod_one]
theorem mod_succ24 (x i : Nat) : x % 16777216 ^ (i + 1) = x % 16777216 ^ i + 16777216 ^ i * dg24 x i := by
  unfold dg24; exact Nat.mod_pow_succ
theorem carry_lt {x f i : Nat} (hf : 0 < f) : carry x f i < f := by
  unfold carry
  rw [Nat.div_lt_iff_lt_mul (pow_pos24 i), Nat.mul_comm f]
  exact Nat.mul_lt_mul_of_pos_right (Nat.mod_lt _ (pow_pos24 i)) hf
theorem step_val (x f i : Nat) : dg24 x i * f + carry x f i = x % 16777216 ^ (i + 1) * f / 16777216 ^ i := by
  rw [mod_succ24, Nat.add_mul, Nat.mul_assoc, Nat.add_mul_div_left _ _ (pow_pos24 i)]
  unfold carry
  omega
theorem step_carry (x f i : Nat) : (dg24 x i * f + carry x f i) / 16777216 = carry x f (i + 1) := by
  rw [step_val, Nat.div_div_eq_div_mul, ← Nat.pow_succ]
  rfl
theorem step_digit (x f i : Nat) : (dg24 x i * f + carry x f i) % 16777216 = dg24 (x * f) i := by
  rw [step_val]
  unfold dg24
  have h : x * f = x % 16777216 ^ (i + 1) * f + 16777216 ^ i * (16777216 * (x / 16777216 ^ (i + 1) * f)) := by
    have h1 := Nat.mod_add_div x (16777216 ^ (i + 1))
    have h2 : 16777216 ^ i * (16777216 * (x / 16777216 ^ (i + 1) * f)) = 16777216 ^ (i + 1) * (x / 16777216 ^ (i + 1)) * f := by
      rw [Nat.pow_succ, Nat.mul_assoc, Nat.mul_assoc]
    rw [h2, ← Nat.add_mul, h1]
  rw [h, Nat.add_mul_div_left _ _ (pow_pos24 i), Nat.add_mul_mod_self_left]
theorem dg24_up (y s j : Nat) : dg24 (y * 16777216 ^ s) j = if j < s then 0 else dg24 y (j - s) := by
  unfold dg24
  split
  · rename_i h
    have e : 16777216 ^ s = 16777216 ^ j * (16777216 * 16777216 ^ (s - j - 1)) := by
      rw [← Nat.pow_succ', ← Nat.pow_add]
      congr 1
      omega
    rw [e, ← Nat.mul_assoc, Nat.mul_comm y, Nat.mul_assoc, Nat.mul_div_cancel_left _ (pow_pos24 j), Nat.mul_comm y, Nat.mul_assoc, Nat.mul_mod_right]
  · rename_i h
    have e : 16777216 ^ j = 16777216 ^ (j - s) * 16777216 ^ s := by
      rw [← Nat.pow_add]; congr 1; omega
    rw [e, Nat.mul_div_mul_right _ _ (pow_pos24 s)]
theorem digs_up (y s i : Nat) : digs (s + i) (y * 16777216 ^ s) = List.replicate s 0 ++ digs i y := by
  unfold digs
  apply List.ext_getElem
  · simp
  · intro j h1 h2
    simp only [List.getElem_map, List.getElem_range, List.getElem_append, List.length_replicate, List.getElem_replicate]
    rw [dg24_up]
    split <;> rfl
/-! ### a number by 2^k, limb by limb -/
theorem dg24_skip (x s j : Nat) : dg24 (x / 16777216 ^ s) j = dg24 x (s + j) := by
  unfold dg24; rw [Nat.div_div_eq_div_mul, ← Nat.pow_add]
theorem dg24_down {x f g i : Nat} (hf : f * g = 16777216) : dg24 x i / f + dg24 x (i + 1) % f * g = dg24 (x / f) i := by
  have hf0 : 0 < f := by
    rcases Nat.eq_zero_or_pos f with h | h
    · rw [h, Nat.zero_mul] at hf; omega
    · exact h
  unfold dg24
  have e1 : x / f / 16777216 ^ i = x / 16777216 ^ i / f := by rw [Nat.div_div_eq_div_mul, Nat.div_div_eq_div_mul, Nat.mul_comm]
  have e2 : x / 16777216 ^ (i + 1) = x / 16777216 ^ i / 16777216 := by rw [Nat.pow_succ, Nat.div_div_eq_div_mul]
  rw [e1, e2]
  generalize x / 16777216 ^ i = z
  have e3 : z / 16777216 % 16777216 % f = z / 16777216 % f := Nat.mod_mod_of_dvd _ ⟨g, hf.symm⟩
  rw [e3]
  have e4 : z / f % 16777216 = z % (f * 16777216) / f := (Nat.mod_mul_right_div_self z f 16777216).symm
  have e5 : z % (f * 16777216) = z % 16777216 + 16777216 * (z / 16777216 % f) := by rw [Nat.mul_comm f]; exact Nat.mod_mul
  have e6 : 16777216 * (z / 16777216 % f) = f * (g * (z / 16777216 % f)) := by rw [← Nat.mul_assoc, hf]
  rw [e4, e5, e6, Nat.add_mul_div_left _ _ hf0, Nat.mul_comm g]
theorem pow24 (k : Nat) : 2 ^ k = 2 ^ (k % 24) * 16777216 ^ (k / 24) := by
  have e : (16777216 : Nat) = 2 ^ 24 := by decide
  rw [e, ← Nat.pow_mul, ← Nat.pow_add]
  congr 1
  omega
theorem pow24_comp {r : Nat} (h : r < 24) : 2 ^ r * 2 ^ (24 - r) = 16777216 := by
  rw [← Nat.pow_add, show r + (24 - r) = 24 by omega]
/-! ### comparing -/
theorem limbs_ext {x y L : Nat} (hx : x < 16777216 ^ L) (hy : y < 16777216 ^ L) (h : x / 16777216 ^ 0 = y / 16777216 ^ 0) : x = y := by simpa using h
theorem div_step {x y i : Nat} (h : x / 16777216 ^ (i + 1) = y / 16777216 ^ (i + 1)) (hd : dg24 x i = dg24 y i) : x / 16777216 ^ i = y / 16777216 ^ i := by
  unfold dg24 at hd
  rw [Nat.pow_succ, ← Nat.div_div_eq_div_mul, ← Nat.div_div_eq_div_mul] at h
  omega
theorem lt_step {x y i : Nat} (h : x / 16777216 ^ (i + 1) = y / 16777216 ^ (i + 1)) (hd : dg24 x i < dg24 y i) : x < y := by
  unfold dg24 at hd
  rw [Nat.pow_succ, ← Nat.div_div_eq_div_mul, ← Nat.div_div_eq_div_mul] at h
  have : x / 16777216 ^ i < y / 16777216 ^ i := by omega
  exact Nat.lt_of_not_le fun hh => by have := Nat.div_le_div_right (c := 16777216 ^ i) hh; omega
/-! ### times one small number, in place -/
theorem dg24_add {y z i j : Nat} (h : j < i) : dg24 (y + 16777216 ^ i * z) j = dg24 y j := by
  unfold dg24
  have e : 16777216 ^ i = 16777216 ^ j * (16777216 * 16777216 ^ (i - j - 1)) := by
    rw [← Nat.pow_succ', ← Nat.pow_add]; congr 1; omega
  rw [e, Nat.mul_assoc, Nat.mul_assoc, Nat.add_mul_div_left _ _ (pow_pos24 j), Nat.add_mul_mod_self_left]
theorem part_lt {x K i : Nat} (hK : 0 < K) (hK2 : K < 16777216) : x % 16777216 ^ i * K < 16777216 ^ (i + 1) := by
  rw [Nat.pow_succ]
  exact Nat.lt_of_le_of_lt (Nat.mul_le_mul_right _ (Nat.le_of_lt (Nat.mod_lt _ (pow_pos24 i)))) (Nat.mul_lt_mul_of_pos_left hK2 (pow_pos24 i))
theorem part_at {x K i : Nat} (hK : 0 < K) (hK2 : K < 16777216) : dg24 (x % 16777216 ^ i * K) i = carry x K i := by
  have h := carry_lt (x := x) (i := i) hK
  unfold dg24 carry at *
  exact Nat.mod_eq_of_lt (by omega)
theorem part_zero {x K i j : Nat} (hK : 0 < K) (hK2 : K < 16777216) (h : i + 1 ≤ j) : dg24 (x % 16777216 ^ i * K) j = 0 :=
  dg24_small (Nat.lt_of_lt_of_le (part_lt hK hK2) (Nat.pow_le_pow_right (by decide) h))
theorem times_row {x K i n : Nat} (hK : 0 < K) (hK2 : K < 16777216) (hn : i + 2 ≤ n) :
    ((digs n (x % 16777216 ^ i * K)).set i (((dg24 x i * K + carry x K i) % 16777216 : Nat) : Int)).set (i + 1) ((carry x K (i + 1) : Nat) : Int) = digs n (x % 16777216 ^ (i + 1) * K) := by
  apply List.ext_getElem
  · simp [digs_len]
  · intro j h1 h2
    have hj : j < n := by simpa [digs_len] using h2
    have e2 : (digs n (x % 16777216 ^ (i + 1) * K))[j] = ((dg24 (x % 16777216 ^ (i + 1) * K) j : Nat) : Int) := by simp [digs]
    rw [e2, List.getElem_set]
    split
    · rename_i e
      subst e
      rw [part_at hK hK2]
    · rename_i e
      rw [List.getElem_set]
      split
      · rename_i e'
        subst e'
        rw [step_val]
        rfl
      · rename_i e'
        have e3 : (digs n (x % 16777216 ^ i * K))[j]'(by simpa [digs_len] using hj) = ((dg24 (x % 16777216 ^ i * K) j : Nat) : Int) := by simp [digs]
        rw [e3]
        congr 1
        by_cases hlt : j < i
        · rw [mod_succ24, Nat.add_mul, Nat.mul_assoc, dg24_add hlt]
        · rw [part_zero hK hK2 (by omega), part_zero hK hK2 (by omega)]
theorem times_last (x K : Nat) : x % 16777216 ^ nl x * K = x * K := by rw [Nat.mod_eq_of_lt (lt_pow_nl x)]
theorem times_nl {x K : Nat} (hK : 0 < K) (hK2 : K < 16777216) : nl (x * K) ≤ nl x + 1 := by
  apply nl_le
  have := part_lt (x := x) (i := nl x) hK hK2
  rwa [times_last] at this
theorem nl_one {K : Nat} (hK : 0 < K) (hK2 : K < 16777216) : nl K = 1 := by
  rw [nl_pos hK, Nat.div_eq_of_lt hK2, nl_zero]
theorem dg_one {K : Nat} (hK2 : K < 16777216) : dg24 K 0 = K := by rw [dg24_z, Nat.mod_eq_of_lt hK2]
end Go.Proofs.Ytimjfcipkmcgmaa
