/-
  PROVED: contracts of the reading of a number off bytes, and the law on it.
  CONDITIONS: none.
-/
import Derived.Test.YtimjfcipkmcgmaaDoorRows2
namespace Go.Proofs.YtimjfcipkmcgmaaDoor
open Go.ChangeShapes Go.WideShapes Go.ChangeAt Go.RowKit
set_option linter.unusedVariables false
def gstep (y d : Int) (j : Nat) : Int := bits BinOp.or IntKind.i64 y (wrap64 (d % 128 * 2 ^ (7 * j)))
theorem and127_nat : ∀ k : Fin 256, bits BinOp.and IntKind.i64 ((k.val : Nat) : Int) 127 = ((k.val : Nat) : Int) % 128 := by decide +kernel
theorem and127 (d : Int) (h0 : 0 ≤ d) (h1 : d ≤ 255) : bits BinOp.and IntKind.i64 d 127 = d % 128 := by
  obtain ⟨k, rfl⟩ := Int.eq_ofNat_of_zero_le h0
  exact and127_nat ⟨k, by omega⟩
def gF (zs : List Int) (A : Nat) : Nat → Nat → Int → Int × Int × Bool
  | 0, _, _ => (0, 0, false)
  | m + 1, k, y => if A + k < zs.length then (if 128 ≤ zs.getD (A + k) 0 then gF zs A m (k + 1) (gstep y (zs.getD (A + k) 0) k)
      else if (0 < k ∧ zs.getD (A + k) 0 = 0) ∨ 2147483647 < gstep y (zs.getD (A + k) 0) k then (0, 0, false) else (gstep y (zs.getD (A + k) 0) k, (A : Int) + k + 1, true)) else (0, 0, false)
def getB (zs : List Int) (A : Int) : Int × Int × Bool := if A < 0 then (0, 0, false) else gF zs A.toNat 5 0 0
theorem five_sub {j : Nat} (h : j < 5) : 5 - j = (5 - (j + 1)) + 1 := by omega
theorem gF_out {zs : List Int} {A j : Nat} {y : Int} (h : ¬ A + j < zs.length) : gF zs A (5 - j) j y = (0, 0, false) := by
  cases hm : 5 - j with
  | zero => rfl
  | succ m => rw [gF, if_neg h]
theorem gF_cont {zs : List Int} {A j : Nat} {y : Int} (hj : j < 5) (h : A + j < zs.length) (hd : 128 ≤ zs.getD (A + j) 0) : gF zs A (5 - j) j y = gF zs A (5 - (j + 1)) (j + 1) (gstep y (zs.getD (A + j) 0) j) := by
  rw [five_sub hj, gF, if_pos h, if_pos hd]
theorem gF_bad {zs : List Int} {A j : Nat} {y : Int} (hj : j < 5) (h : A + j < zs.length) (hd : ¬ 128 ≤ zs.getD (A + j) 0) (hb : (0 < j ∧ zs.getD (A + j) 0 = 0) ∨ 2147483647 < gstep y (zs.getD (A + j) 0) j) : gF zs A (5 - j) j y = (0, 0, false) := by
  rw [five_sub hj, gF, if_pos h, if_neg hd, if_pos hb]
theorem gF_good {zs : List Int} {A j : Nat} {y : Int} (hj : j < 5) (h : A + j < zs.length) (hd : ¬ 128 ≤ zs.getD (A + j) 0) (hb : ¬ ((0 < j ∧ zs.getD (A + j) 0 = 0) ∨ 2147483647 < gstep y (zs.getD (A + j) 0) j)) : gF zs A (5 - j) j y = (gstep y (zs.getD (A + j) 0) j, (A : Int) + j + 1, true) := by
  rw [five_sub hj, gF, if_pos h, if_neg hd, if_neg hb]
theorem gF_val {zs : List Int} {A j : Nat} {y : Int} (hj : j < 5) (h : A + j < zs.length) (hd : ¬ 128 ≤ zs.getD (A + j) 0) :
    gF zs A (5 - j) j y = if ((decide (0 < j) && (zs.getD (A + j) 0 == 0)) || decide (2147483647 < bits BinOp.or IntKind.i64 y (wrap64 (zs.getD (A + j) 0 % 128 * 2 ^ (7 * j))))) = true then (0, 0, false) else (bits BinOp.or IntKind.i64 y (wrap64 (zs.getD (A + j) 0 % 128 * 2 ^ (7 * j))), (A : Int) + j + 1, true) := by
  by_cases hb : (0 < j ∧ zs.getD (A + j) 0 = 0) ∨ 2147483647 < gstep y (zs.getD (A + j) 0) j
  · rw [gF_bad hj h hd hb, if_pos]
    rw [Bool.or_eq_true, Bool.and_eq_true, decide_eq_true_iff, decide_eq_true_iff, beq_iff_eq]
    rcases hb with ⟨h1, h2⟩ | h1
    · exact .inl ⟨h1, h2⟩
    · exact .inr h1
  · rw [gF_good hj h hd hb, if_neg]
    · rfl
    · rw [Bool.or_eq_true, Bool.and_eq_true, decide_eq_true_iff, decide_eq_true_iff, beq_iff_eq]
      intro h3
      apply hb
      rcases h3 with ⟨h1, h2⟩ | h1
      · exact .inl ⟨h1, h2⟩
      · exact .inr h1
theorem ret3 {x y : Int} {b : Bool} {r : Int × Int × Bool} (h : r = (x, y, b)) : Ending.returned (.tuple #[.int .i64 x, .int .i64 y, .bool b]) = .returned (.tuple #[.int .i64 r.1, .int .i64 r.2.1, .bool r.2.2]) := by rw [h]
set_option maxHeartbeats 1000000 in
theorem iGetNum_any (a : Option Addr) (n cap : Nat) (A : Int) (zs : List Int) (w : World) (hz : zs.length = n) (hn : n ≤ 1048576) (hb8 : ∀ z ∈ zs, 0 ≤ z ∧ z ≤ 255) (ha : RowAt .u8 w a zs) :
    Calls Tryd.prog 26 #[.slice a n cap, .int .i64 A] w fun e w' => e = .returned (.tuple #[.int .i64 (getB zs A).1, .int .i64 (getB zs A).2.1, .bool (getB zs A).2.2]) ∧ w = w' := by
  have HZ := Lib.hid hz; clear hz
  have H8 := Lib.hid hb8; clear hb8
  by_cases hA : A < 0
  · have hr : getB zs A = (0, 0, false) := by unfold getB; rw [if_pos hA]
    have HR := Lib.hid hr; clear hr
    go_enter Tryd.func26, Tryd.ntmps26
    go_wp2
    go_ret3
    exact ⟨ret3 HR.out, rfl⟩
  · obtain ⟨A, rfl⟩ := Int.eq_ofNat_of_zero_le (show 0 ≤ A by omega)
    have hr : getB zs (A : Int) = gF zs A 5 0 0 := by unfold getB; rw [if_neg hA, Int.toNat_natCast]
    rw [hr]
    clear hA hr
    by_cases h0 : n = 0
    · subst h0
      have HE := Lib.hid (gF_out (zs := zs) (A := A) (j := 0) (y := 0) (by rw [HZ.out]; omega))
      have hA0 : (0 : Int) ≤ (A : Int) := by omega
      go_enter Tryd.func26, Tryd.ntmps26
      go_wp2
      go_loop [7, 8] (fun s i => s = .int .i64 0 ∧ i = .int .i64 0) (fun _ _ => 0)
      case atStart => exact ⟨rfl, rfl⟩
      case round =>
        obtain ⟨rfl, rfl⟩ := hrel
        go_wp2
        all_goals go_ret3
        all_goals exact ⟨ret3 HE.out, rfl⟩
    · rcases ha with h | ⟨b, off, rfl, hb, hc⟩
      · exfalso; rw [h] at HZ; exact h0 HZ.out.symm
      · have HC := Lib.hid hc; clear hc
        go_enter Tryd.func26, Tryd.ntmps26
        go_wp2
        go_loop [7, 8] (fun s i => ∃ (j : Nat) (y : Int), j ≤ 5 ∧ s = .int .i64 y ∧ i = .int .i64 j ∧ gF zs A (5 - j) j y = gF zs A 5 0 0) (fun _ i => 5 - (intOf i).toNat)
        case atStart => exact ⟨0, 0, by omega, rfl, rfl, rfl⟩
        case round =>
          obtain ⟨j, y, hj, rfl, rfl, hG⟩ := hrel
          have HG := Lib.hid hG; clear hG
          by_cases hj5 : j < 5
          · by_cases hlt : A + j < n
            · have hlz : A + j < zs.length := by rw [HZ.out]; exact hlt
              have hck := HC.out (A + j) hlz
              obtain ⟨hd0, hd1⟩ := H8.out _ (getD_mem hlz)
              by_cases hd : 128 ≤ zs.getD (A + j) 0
              · have HS := Lib.hid (gF_cont (y := y) hj5 hlz hd)
                clear hlz
                generalize zs.getD (A + j) 0 = d at *
                have hand := and127 d hd0 hd1
                go_wp2
                go_round
                case rel => exact ⟨j + 1, gstep y d j, by omega, by unfold gstep; rfl, by go_num, by rw [← HS.out, HG.out]⟩
                case measure => simp [intOf]; omega
              · have HS := Lib.hid (gF_val (y := y) hj5 hlz hd)
                clear hlz
                generalize zs.getD (A + j) 0 = d at *
                have HE : Hid (gF zs A 5 0 0 = if ((decide (0 < j) && (d == 0)) || decide (2147483647 < bits BinOp.or IntKind.i64 y (wrap64 (d % 128 * 2 ^ (7 * j))))) = true then (0, 0, false) else (bits BinOp.or IntKind.i64 y (wrap64 (d % 128 * 2 ^ (7 * j))), (A : Int) + j + 1, true)) := by rw [← HG.out]; exact HS.out
                clear HS
                have hand := and127 d hd0 hd1
                cases hjz : decide (0 < j)
                all_goals
                  cases hdz : (d == 0)
                  all_goals
                    cases hyz : decide (2147483647 < bits BinOp.or IntKind.i64 y (wrap64 (d % 128 * 2 ^ (7 * j))))
                    all_goals
                      rw [hjz, hdz, hyz] at HE
                      go_wp2
                      go_ret3
                      exact ⟨ret3 HE.out, rfl⟩
            · have HE : Hid (gF zs A 5 0 0 = (0, 0, false)) := by
                rw [← HG.out]; exact gF_out (by rw [HZ.out]; exact hlt)
              go_wp2
              all_goals go_ret3
              all_goals exact ⟨ret3 HE.out, rfl⟩
          · obtain rfl : j = 5 := by omega
            have HE : Hid (gF zs A 5 0 0 = (0, 0, false)) := by rw [← HG.out]; rfl
            go_wp2
            all_goals go_ret3
            all_goals exact ⟨ret3 HE.out, rfl⟩
end Go.Proofs.YtimjfcipkmcgmaaDoor
