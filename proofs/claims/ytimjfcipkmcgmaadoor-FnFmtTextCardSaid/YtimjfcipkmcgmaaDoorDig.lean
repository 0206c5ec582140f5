/-
  PROVED: contracts of the reference's decimal digits.
  CONDITIONS: none.
-/
import Derived.Test.YtimjfcipkmcgmaaDoorKit
import Derived.Lib.ItoaNum
import Derived.Lib.ItoaMem
import Derived.Laws.IdiomStrings
namespace Go.Proofs.YtimjfcipkmcgmaaDoor
open Go.ChangeShapes Go.WideShapes Go.ChangeAt Go.RowKit
set_option linter.unusedVariables false
def dd (c : Nat) : List UInt8 := if c = 0 then [] else Lib.decDigits c
theorem dd_zero : dd 0 = [] := rfl
theorem dd_pos {c : Nat} (h : 0 < c) : dd c = Lib.decDigits c := if_neg (by omega)
theorem dd_step {c : Nat} (h : 0 < c) : dd c = dd (c / 10) ++ [UInt8.ofNat (48 + c % 10)] := by
  rw [dd_pos h, Lib.decDigits]
  by_cases h10 : c < 10
  · rw [dif_pos h10, Nat.div_eq_of_lt h10, dd_zero, Nat.mod_eq_of_lt h10]; rfl
  · rw [dif_neg h10, dd_pos (by omega)]
theorem ba_cat (x y : List UInt8) : (⟨x.toArray⟩ : ByteArray) ++ ⟨y.toArray⟩ = ⟨(x ++ y).toArray⟩ := by
  apply ByteArray.ext
  simp [ByteArray.data_append]
def strL (l : List UInt8) : Value := .string ⟨l.toArray⟩
theorem cv_one (w : World) (v : Int) (b : UInt8) (hb : (b.toNat : Int) = v) : (convert 28 9 (.slice (some ⟨w.heap.size, 0, none⟩) 1 1)).run Tryd.prog (w.alloc (.cells #[.int .u8 v] 5)) = .ok (.string ⟨[b].toArray⟩) (w.alloc (.cells #[.int .u8 v] 5)) := by
  subst hb
  refine run_convert_bytes_back (P := Tryd.prog) (w.alloc (.cells #[.int .u8 (b.toNat : Int)] 5)) 28 9 5 ⟨w.heap.size, 0, none⟩ 1 [b] Tryd.underlying28 Tryd.underlying5 Tryd.underlying9 ?_
  intro j hj
  have : j = 0 := by simpa using hj
  subst this
  rw [Addr.add_lit, World.cell?_alloc_mark]
  rfl
theorem dec_len {u : Nat} (h0 : 0 < u) (h1 : u ≤ 9223372036854775808) : (Lib.decDigits u).length ≤ 20 := by
  rw [Lib.decDigits_length]
  have := Lib.numDigits_eq u (by omega) (by omega)
  split at this <;> omega
theorem dig_byte (c : Nat) : ((UInt8.ofNat (48 + c % 10)).toNat : Int) = 48 + (c : Int) % 10 := by
  have : (UInt8.ofNat (48 + c % 10)).toNat = 48 + c % 10 := by
    rw [UInt8.toNat_ofNat']; omega
  rw [this]; omega
set_option maxRecDepth 100000 in
set_option maxHeartbeats 1000000 in
theorem sDigits_pos (N : Nat) (w : World) (h0 : 0 < N) (h1 : N ≤ 9223372036854775807) :
    Calls Tryd.prog 43 #[.int .i64 N] w fun e w' => e = .returned (.string ⟨(Lib.decDigits N).toArray⟩) ∧ Below w.heap.size w w' := by
  have hn0 : ((N : Int) == 0) = false := by rw [beq_eq_false_iff_ne]; omega
  have hn1 : decide ((N : Int) < 0) = false := by rw [decide_eq_false_iff_not]; omega
  go_enter Tryd.func43, Tryd.ntmps43
  go_wp2_with fail
  go_loopw [0, 4] (fun nv o wr => ∃ (c : Nat) (l : List UInt8), nv = .int .i64 (c : Int) ∧ c ≤ 9223372036854775807 ∧ o = .string ⟨l.toArray⟩ ∧ Hid (dd c ++ l = Lib.decDigits N) ∧ Below w.heap.size w wr) (fun nv _ _ => (intOf nv).toNat)
  case atStart => exact ⟨N, [], rfl, h1, rfl, Lib.hid (by rw [dd_pos h0]; simp), Below.refl _ _⟩
  case round =>
    obtain ⟨c, l, rfl, hc, rfl, HL, hB⟩ := hrel
    by_cases hz : c = 0
    · subst hz
      go_wp2
      go_ret
      exact ⟨ret_str (by have := HL.out; rw [dd_zero] at this; rw [← this]; rfl), hB⟩
    · have hm0 : (0 : Int) ≤ (c : Int) % 10 := by omega
      have hm1 : (c : Int) % 10 < 10 := by omega
      have hp : (0 : Int) < (c : Int) := by omega
      clear hz
      have hll : l.length ≤ 20 := by have h2 := dec_len h0 (by omega); have := congrArg List.length HL.out; rw [List.length_append] at this; omega
      have HL2 : Hid (dd (c / 10) ++ (UInt8.ofNat (48 + c % 10) :: l) = Lib.decDigits N) := by show _ = _; rw [← HL.out, dd_step (c := c) (by omega)]; simp
      have hby := dig_byte c
      generalize UInt8.ofNat (48 + c % 10) = b at *
      have hcv := cv_one wr _ _ hby
      have HCT := Lib.hid (ba_cat [b] l)
      go_wp2_with fail
      go_roundw
      case rel => exact ⟨c / 10, b :: l, by go_num, by omega, by first | rfl | (congr 1; exact HCT.out), HL2, bl_al hB _⟩
      case measure => simp [intOf]; omega

set_option maxRecDepth 100000 in
set_option maxHeartbeats 1000000 in
theorem sDigits_neg (N : Nat) (w : World) (h0 : 0 < N) (h1 : N ≤ 9223372036854775808) :
    Calls Tryd.prog 43 #[.int .i64 (-(N : Int))] w fun e w' => e = .returned (.string ⟨(45 :: Lib.decDigits N).toArray⟩) ∧ Below w.heap.size w w' := by
  have hn0 : (-(N : Int) == 0) = false := by rw [beq_eq_false_iff_ne]; omega
  have hn1 : decide (-(N : Int) < 0) = true := by rw [decide_eq_true_iff]; omega
  go_enter Tryd.func43, Tryd.ntmps43
  go_wp2_with fail
  go_loopw [0, 4] (fun nv o wr => ∃ (c : Nat) (l : List UInt8), nv = .int .i64 (-(c : Int)) ∧ c ≤ 9223372036854775808 ∧ o = .string ⟨l.toArray⟩ ∧ Hid (dd c ++ l = Lib.decDigits N) ∧ Below w.heap.size w wr) (fun nv _ _ => (intOf nv).natAbs)
  case atStart => exact ⟨N, [], rfl, h1, rfl, Lib.hid (by rw [dd_pos h0]; simp), Below.refl _ _⟩
  case round =>
    obtain ⟨c, l, rfl, hc, rfl, HL, hB⟩ := hrel
    have hll : l.length ≤ 20 := by have h2 := dec_len h0 (by omega); have := congrArg List.length HL.out; rw [List.length_append] at this; omega
    by_cases hz : c = 0
    · subst hz
      have HCT := Lib.hid (ba_cat [45] l)
      have HLL : Hid (l = Lib.decDigits N) := by have := HL.out; rwa [dd_zero] at this
      go_wp2
      go_ret
      exact ⟨ret_str (by rw [← HLL.out]; exact HCT.out), hB⟩
    · have hm0 : (0 : Int) ≤ (c : Int) % 10 := by omega
      have hm1 : (c : Int) % 10 < 10 := by omega
      have hp : (0 : Int) < (c : Int) := by omega
      have hne : (-(c : Int) != 0) = true := by rw [bne_iff_ne]; omega
      clear hz
      have HL2 : Hid (dd (c / 10) ++ (UInt8.ofNat (48 + c % 10) :: l) = Lib.decDigits N) := by show _ = _; rw [← HL.out, dd_step (c := c) (by omega)]; simp
      have hby := dig_byte c
      generalize UInt8.ofNat (48 + c % 10) = b at *
      have HCT := Lib.hid (ba_cat [b] l)
      by_cases hr : (0 : Int) < (c : Int) % 10
      · have hcv := cv_one wr _ _ hby
        go_wp2_with fail
        go_roundw
        case rel => exact ⟨c / 10, b :: l, by first | rfl | (congr 1; simp) | (congr 1; omega), by omega, by first | rfl | (congr 1; exact HCT.out), HL2, bl_al hB _⟩
        case measure => simp [intOf]; omega
      · have hby' : (b.toNat : Int) = 48 + -((c : Int) % 10) := by omega
        have hcv := cv_one wr _ _ hby'
        go_wp2_with fail
        go_roundw
        case rel => exact ⟨c / 10, b :: l, by first | rfl | (congr 1; simp) | (congr 1; omega), by omega, by first | rfl | (congr 1; exact HCT.out), HL2, bl_al hB _⟩
        case measure => simp [intOf]; omega
theorem sDigits_any (n : Int) (w : World) (h0 : -9223372036854775808 ≤ n) (h1 : n ≤ 9223372036854775807) :
    Calls Tryd.prog 43 #[.int .i64 n] w fun e w' => e = .returned (.string ⟨(Lib.itoa n).toArray⟩) ∧ Below w.heap.size w w' := by
  by_cases hz : n = 0
  · subst hz
    have he : Lib.itoa 0 = [48] := by
      have := Lib.itoa_nonneg 0
      rw [Lib.decDigits_one (by omega)] at this
      exact this
    rw [he]
    go_enter Tryd.func43, Tryd.ntmps43
    go_wp2
    go_ret
    exact ⟨rfl, Below.refl _ _⟩
  · by_cases hp : 0 ≤ n
    · obtain ⟨N, rfl⟩ := Int.eq_ofNat_of_zero_le hp
      rw [Lib.itoa_nonneg]
      exact sDigits_pos N w (by omega) (by omega)
    · obtain ⟨N, rfl⟩ : ∃ N : Nat, n = -(N : Int) := ⟨n.natAbs, by omega⟩
      rw [Lib.itoa_neg N (by omega)]
      exact sDigits_neg N w (by omega) (by omega)
end Go.Proofs.YtimjfcipkmcgmaaDoor
