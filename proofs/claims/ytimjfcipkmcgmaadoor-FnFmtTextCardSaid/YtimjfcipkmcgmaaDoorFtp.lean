/-
  PROVED: the plain law of a format's text: it is read as it was written; what is read is its own text.
  CONDITIONS: none.
-/
import Derived.Test.YtimjfcipkmcgmaaDoorFof
import Derived.Test.YtimjfcipkmcgmaaDoorFmtT
import Derived.Test.YtimjfcipkmcgmaaDoorNbs
import Derived.Test.YtimjfcipkmcgmaaDoorRaw
namespace Go.Proofs.YtimjfcipkmcgmaaDoor
open Go.ChangeShapes Go.WideShapes Go.ChangeAt Go.RowKit
set_option linter.unusedVariables false
def dig2 (N : Nat) : List UInt8 := if N < 10 then [UInt8.ofNat (48 + N)] else [UInt8.ofNat (48 + N / 10), UInt8.ofNat (48 + N % 10)]
theorem itoa_dig2 (N : Nat) (h : N < 100) : Lib.itoa (N : Int) = dig2 N := by
  rw [Lib.itoa_nonneg]
  unfold dig2
  by_cases h1 : N < 10
  · rw [if_pos h1, Lib.decDigits_one h1]
  · rw [if_neg h1, Lib.decDigits_two h1 h]
theorem dig2_all : ∀ k : Fin 61, (dig2 k.val).all isDig = true ∧ 1 ≤ (dig2 k.val).length ∧ (dig2 k.val).length ≤ 6 ∧ numV (dig2 k.val) = (k.val : Int) ∧ (dig2 k.val).all (fun b => b != 46) = true := by decide +kernel
theorem num_itoa (n : Int) (h0 : 0 ≤ n) (h1 : n ≤ 60) : numOk ⟨(Lib.itoa n).toArray⟩ = true ∧ numR ⟨(Lib.itoa n).toArray⟩ = n ∧ ∀ b ∈ Lib.itoa n, b ≠ 46 := by
  obtain ⟨N, rfl⟩ := Int.eq_ofNat_of_zero_le h0
  have hN : N < 61 := by omega
  obtain ⟨a1, a2, a3, a4, a5⟩ := dig2_all ⟨N, hN⟩
  rw [itoa_dig2 N (by omega)]
  simp only at a1 a2 a3 a4 a5
  have hok : numOk ⟨(dig2 N).toArray⟩ = true := by
    rw [numOk_end (by simpa [ByteArray.size] using a2) (by simpa [ByteArray.size] using a3) (by simpa using a1)]
    simp [a4, itoa_dig2 N (by omega)]
  refine ⟨hok, ?_, fun b hb e => ?_⟩
  · unfold numR; rw [if_pos hok]; simpa using a4
  · have := List.all_eq_true.1 a5 b hb
    simp [e] at this
theorem partsL_none (c : UInt8) : ∀ l : List UInt8, (∀ b ∈ l, b ≠ c) → partsL c l = [l]
  | [], _ => rfl
  | b :: l, h => by
    rw [partsL, if_neg (h b (by simp)), partsL_none c l (fun x hx => h x (by simp [hx]))]
    rfl
theorem partsL_two (c : UInt8) : ∀ l r : List UInt8, (∀ b ∈ l, b ≠ c) → (∀ b ∈ r, b ≠ c) → partsL c (l ++ c :: r) = [l, r]
  | [], r, _, hr => by
    show partsL c (c :: r) = _
    rw [partsL, if_pos rfl, partsL_none c r hr]
  | b :: l, r, h, hr => by
    show partsL c (b :: (l ++ c :: r)) = _
    rw [partsL, if_neg (h b (by simp)), partsL_two c l r (fun x hx => h x (by simp [hx])) hr]
    rfl
theorem hasB_list (b : UInt8) (l : List UInt8) : hasB b ⟨l.toArray⟩ = (l.head? == some b) := by
  cases l with
  | nil => rfl
  | cons x r =>
    by_cases h : x = b
    · subst h; simp [hasB, Lib.hasPrefix]
    · have h1 : (b == x) = false := beq_eq_false_iff_ne.2 (fun e => h e.symm)
      have h2 : (x == b) = false := beq_eq_false_iff_ne.2 h
      show [b].isPrefixOf (x :: r) = (some x == some b)
      rw [show (some x == some b) = (x == b) from rfl, h2, List.isPrefixOf, h1]
      rfl
theorem cutB_list (b : UInt8) (l : List UInt8) : cutB b ⟨l.toArray⟩ = ⟨(if l.head? == some b then l.tail else l).toArray⟩ := by
  have h := hasB_list b l
  unfold hasB at h
  unfold cutB Lib.trimPrefix
  simp only at h ⊢
  rw [h]
  split <;> simp
theorem parts_of_data {c : UInt8} {s : ByteArray} {x y : List UInt8} (h : partsL c s.data.toList = [x, y]) : partsB c s = [⟨x.toArray⟩, ⟨y.toArray⟩] := by
  apply map_data_inj
  rw [partsB_data, h]
  simp
theorem read_text {s : Bool} {n l : Int} (h : fmtOkB n l = true) : fV ⟨(fmtL s n l).toArray⟩ = .tuple #[.agg #[.bool s, .int .i64 n, .int .i64 l], .bool true] := by
  obtain ⟨⟨h1, h2⟩, h3, h4⟩ := (fmtOkB_iff n l).1 h
  obtain ⟨a1, a2, a3⟩ := num_itoa (n - l) (by omega) (by omega)
  obtain ⟨b1, b2, b3⟩ := num_itoa l (by omega) (by omega)
  have hc1 : cutB 85 ⟨(fmtL s n l).toArray⟩ = ⟨(81 :: (Lib.itoa (n - l) ++ 46 :: Lib.itoa l)).toArray⟩ := by
    rw [fmtL_yes h, cutB_list]
    cases s <;> rfl
  have hc2 : cutB 81 (cutB 85 ⟨(fmtL s n l).toArray⟩) = ⟨(Lib.itoa (n - l) ++ 46 :: Lib.itoa l).toArray⟩ := by
    rw [hc1, cutB_list]; rfl
  have hU : hasB 85 ⟨(fmtL s n l).toArray⟩ = !s := by
    rw [fmtL_yes h, hasB_list]
    cases s <;> rfl
  have hQ : hasB 81 (cutB 85 ⟨(fmtL s n l).toArray⟩) = true := by rw [hc1, hasB_list]; rfl
  have hP : fP ⟨(fmtL s n l).toArray⟩ = [⟨(Lib.itoa (n - l)).toArray⟩, ⟨(Lib.itoa l).toArray⟩] := by
    unfold fP
    rw [hc2]
    exact parts_of_data (by simpa using partsL_two 46 _ _ a3 b3)
  have e0 : f0 ⟨(fmtL s n l).toArray⟩ = ⟨(Lib.itoa (n - l)).toArray⟩ := by unfold f0; rw [hP]; rfl
  have e1 : f1 ⟨(fmtL s n l).toArray⟩ = ⟨(Lib.itoa l).toArray⟩ := by unfold f1; rw [hP]; rfl
  have hok : fOk ⟨(fmtL s n l).toArray⟩ = true := by
    unfold fOk
    rw [hQ, hP, e0, e1, a1, b1, a2, b2, show n - l + l = n by omega, h]
    rfl
  rw [fV_yes hok, hU, e0, e1, a2, b2, show n - l + l = n by omega]
  cases s <;> rfl
theorem read_none {s : Bool} {n l : Int} (h : fmtOkB n l = false) : fV ⟨(fmtL s n l).toArray⟩ = .tuple #[.agg #[.bool false, .int .i64 0, .int .i64 0], .bool false] := by
  rw [fmtL_no h]
  have hok : fOk ⟨([] : List UInt8).toArray⟩ = false := by
    unfold fOk
    rw [cutB_list, hasB_list]
    rfl
  exact fV_no hok
theorem hasB_cons {b : UInt8} {s : ByteArray} (h : hasB b s = true) : s.data.toList = b :: (cutB b s).data.toList := by
  obtain ⟨⟨l⟩⟩ := s
  have hl := hasB_list b l
  have hc := cutB_list b l
  have e : (⟨⟨l⟩⟩ : ByteArray) = ⟨l.toArray⟩ := rfl
  rw [e] at h ⊢
  rw [hl] at h
  rw [hc, h]
  cases l with
  | nil => simp at h
  | cons x r =>
    simp at h
    subst h
    simp
theorem text_read {t : ByteArray} (h : fOk t = true) : fmtL (fS t) (fW t) (fF t) = t.data.toList := by
  have hok := h
  unfold fOk at h
  simp only [Bool.and_eq_true] at h
  obtain ⟨⟨⟨⟨hQ, hL⟩, h0⟩, h1⟩, hf⟩ := h
  have hL2 : (fP t).length = 2 := by simpa using hL
  have eW : fW t = numR (f0 t) + numR (f1 t) := by unfold fW; rw [if_pos hok]
  have eF : fF t = numR (f1 t) := by unfold fF; rw [if_pos hok]
  have eS : fS t = !(hasB 85 t) := by unfold fS; rw [hok]; rfl
  have i0 : Lib.itoa (numR (f0 t)) = (f0 t).data.toList := by
    have := h0
    unfold numOk at this
    simp only [Bool.and_eq_true] at this
    unfold numR; rw [if_pos h0]
    exact (beq_iff_eq.1 this.2)
  have i1 : Lib.itoa (numR (f1 t)) = (f1 t).data.toList := by
    have := h1
    unfold numOk at this
    simp only [Bool.and_eq_true] at this
    unfold numR; rw [if_pos h1]
    exact (beq_iff_eq.1 this.2)
  have hj := join_partsB 46 (cutB 81 (cutB 85 t))
  have hp : ((partsB 46 (cutB 81 (cutB 85 t))).getD 0 ByteArray.empty) = f0 t := rfl
  have hd : ((partsB 46 (cutB 81 (cutB 85 t))).drop 1).map (·.data.toList) = [(f1 t).data.toList] := by
    have e : partsB 46 (cutB 81 (cutB 85 t)) = fP t := rfl
    rw [e]
    unfold f1
    match fP t, hL2 with
    | [x, y], _ => rfl
  rw [hp, hd] at hj
  simp only [tailJ, List.append_nil] at hj
  rw [eW, eF, eS, fmtL_yes hf, show numR (f0 t) + numR (f1 t) - numR (f1 t) = numR (f0 t) by omega, i0, i1, hj, ← hasB_cons hQ]
  cases hU : hasB 85 t
  · rw [(hasB_no hU).1]; rfl
  · rw [hasB_cons hU]; rfl
theorem pw_le' {n m : Int} (h : n ≤ m) : pw n ≤ pw m := by
  have h1 : (2 : Nat) ^ n.toNat ≤ 2 ^ m.toNat := Nat.pow_le_pow_right (by omega) (by omega)
  have h2 : pw n = ((2 ^ n.toNat : Nat) : Int) := by unfold pw; simp
  have h3 : pw m = ((2 ^ m.toNat : Nat) : Int) := by unfold pw; simp
  rw [h2, h3]; omega
theorem most_pos {s : Bool} {n l : Int} (h : fmtOkB n l = true) : 0 < mostB s n l := by
  obtain ⟨⟨h1, h2⟩, h3, h4⟩ := (fmtOkB_iff n l).1 h
  have e1 : pw 1 = 2 := rfl
  have h5 : pw 1 ≤ pw (n - 1) := pw_le' (by omega)
  have h6 : pw 1 ≤ pw n := pw_le' (by omega)
  unfold mostB
  rw [if_pos h]
  split <;> omega
theorem raw_most {s : Bool} {n l : Int} (h : fmtOkB n l = true) : rawOkB s n l (mostB s n l) = true ∧ rawOkB s n l (mostB s n l + 1) = false ∧ rawOkB s n l (leastB s n l - 1) = false := by
  have h1 := leastB_bd s n l
  have h2 := most_pos (s := s) h
  unfold rawOkB
  rw [h]
  simp only [Bool.true_and]
  exact ⟨(inR_iff _ _ _).2 ⟨by omega, by omega⟩, (inR_not _ _ _).2 (by omega), (inR_not _ _ _).2 (by omega)⟩
theorem least_no {s : Bool} {n l : Int} (h : fmtOkB n l = false) : leastB s n l = 0 ∧ mostB s n l = 0 := by
  unfold leastB mostB
  rw [h]
  simp
end Go.Proofs.YtimjfcipkmcgmaaDoor
