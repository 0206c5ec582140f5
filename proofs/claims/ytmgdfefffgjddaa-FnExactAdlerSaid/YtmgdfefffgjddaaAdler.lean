/-
  PROVED: contracts of the sum of bytes, and the law on it.
  CONDITIONS: none.
-/
import Derived.Test.YtmgdfefffgjddaaRows2
namespace Go.Proofs.Ytmgdfefffgjddaa
open Go.ChangeShapes Go.WideShapes Go.ChangeAt Go.RowKit
set_option linter.unusedVariables false
def adlerF : List Int → Int → Int → Int
  | [], s, t => t * 65536 + s
  | x :: r, s, t => adlerF r ((s + x) % 65521) ((t + (s + x) % 65521) % 65521)
def adlerB (zs : List Int) : Int := adlerF zs 1 0
theorem u8_all {zs : List Int} (h : ∀ z ∈ zs, (Lit.int .u8 z).wf = true) : ∀ z ∈ zs, 0 ≤ z ∧ z ≤ 255 := fun z hz => bounds_u8 (h z hz)
set_option maxHeartbeats 400000 in
theorem sAdler_any (a : Option Addr) (n cap : Nat) (zs : List Int) (w : World) (hz : zs.length = n) (hn : n ≤ 1048576) (hb8 : ∀ z ∈ zs, 0 ≤ z ∧ z ≤ 255) (ha : RowAt .u8 w a zs) :
    Calls Try.prog 13 #[.slice a n cap] w fun e w' => e = .returned (.int .i64 (adlerB zs)) ∧ w = w' := by
  have HZ := Lib.hid hz; clear hz
  have H8 := Lib.hid hb8; clear hb8
  by_cases h0 : n = 0
  · subst h0
    rw [List.length_eq_zero_iff.1 HZ.out]
    go_enter Try.func13, Try.ntmps13
    go_wp2
    go_loop [3, 4, 5] (fun s t i => s = .int .i64 1 ∧ t = .int .i64 0 ∧ i = .int .i64 0) (fun _ _ _ => 0)
    case atStart => exact ⟨rfl, rfl, rfl⟩
    case round =>
      obtain ⟨rfl, rfl, rfl⟩ := hrel
      go_wp2
      go_ret
      exact ⟨rfl, rfl⟩
  · rcases ha with h | ⟨b, off, rfl, hb, hc⟩
    · exfalso; rw [h] at HZ; exact h0 HZ.out.symm
    · have HC := Lib.hid hc; clear hc
      go_enter Try.func13, Try.ntmps13
      go_wp2
      go_loop [3, 4, 5] (fun s t i => ∃ (j : Nat) (x y : Int), j ≤ n ∧ s = .int .i64 x ∧ t = .int .i64 y ∧ i = .int .i64 j ∧ 0 ≤ x ∧ x ≤ 65520 ∧ 0 ≤ y ∧ y ≤ 65520 ∧ adlerF (zs.drop j) x y = adlerB zs) (fun _ _ i => n - (intOf i).toNat)
      case atStart => exact ⟨0, 1, 0, by omega, rfl, rfl, rfl, by omega, by omega, by omega, by omega, rfl⟩
      case round =>
        obtain ⟨j, x, y, hj, rfl, rfl, rfl, hx0, hx1, hy0, hy1, hA⟩ := hrel
        have HA := Lib.hid hA; clear hA
        by_cases hlt : j < n
        · have hlz : j < zs.length := by rw [HZ.out]; exact hlt
          have hck := HC.out j hlz
          obtain ⟨hd0, hd1⟩ := H8.out _ (getD_mem hlz)
          have HD := Lib.hid (drop_getD hlz)
          clear hlz
          have hz0 := Int.emod_nonneg (x + zs.getD j 0) (show (65521 : Int) ≠ 0 by omega)
          have hz1 := Int.emod_lt_of_pos (x + zs.getD j 0) (show (0 : Int) < 65521 by omega)
          generalize hd : zs.getD j 0 = d at *
          clear hd
          generalize hm : (x + d) % 65521 = m at hz0 hz1
          have HM := Lib.hid hm; clear hm
          have hz2 : m ≤ 65520 := by omega
          clear hz1
          rw [← HM.out] at hz0 hz2
          go_wp2
          go_round
          case rel =>
            refine ⟨j + 1, (x + d) % 65521, (y + (x + d) % 65521) % 65521, by omega, rfl, rfl, by go_num, hz0, hz2, Int.emod_nonneg _ (by omega), ?_, ?_⟩
            · have := Int.emod_lt_of_pos (y + (x + d) % 65521) (show (0 : Int) < 65521 by omega)
              omega
            · rw [← HA.out, HD.out]; rfl
          case measure => simp [intOf]; omega
        · obtain rfl : j = n := by omega
          have hA := HA.out
          rw [List.drop_eq_nil_of_le (by rw [HZ.out]; omega)] at hA
          have hA2 : y * 65536 + x = adlerB zs := hA
          have HA2 := Lib.hid hA2; clear hA hA2
          go_wp2
          go_ret
          exact ⟨ret_int HA2.out, rfl⟩
set_option maxHeartbeats 400000 in
theorem iAdler_any (a : Option Addr) (n cap : Nat) (zs : List Int) (w : World) (hz : zs.length = n) (hn : n ≤ 1048576) (hb8 : ∀ z ∈ zs, 0 ≤ z ∧ z ≤ 255) (ha : RowAt .u8 w a zs) :
    Calls Try.prog 15 #[.slice a n cap] w fun e w' => e = .returned (.int .i64 (adlerB zs)) ∧ w = w' := by
  have HZ := Lib.hid hz; clear hz
  have H8 := Lib.hid hb8; clear hb8
  by_cases h0 : n = 0
  · subst h0
    rw [List.length_eq_zero_iff.1 HZ.out]
    go_enter Try.func15, Try.ntmps15
    go_wp2
    go_loop [3, 4, 9] (fun s t i => s = .int .i64 1 ∧ t = .int .i64 0 ∧ i = .int .i64 0) (fun _ _ _ => 0)
    case atStart => exact ⟨rfl, rfl, rfl⟩
    case round =>
      obtain ⟨rfl, rfl, rfl⟩ := hrel
      go_wp2
      go_ret
      exact ⟨rfl, rfl⟩
  · rcases ha with h | ⟨b, off, rfl, hb, hc⟩
    · exfalso; rw [h] at HZ; exact h0 HZ.out.symm
    · have HC := Lib.hid hc; clear hc
      go_enter Try.func15, Try.ntmps15
      go_wp2
      go_loop [3, 4, 9] (fun s t i => ∃ (j : Nat) (x y : Int), j ≤ n ∧ s = .int .i64 x ∧ t = .int .i64 y ∧ i = .int .i64 j ∧ 0 ≤ x ∧ x ≤ 65520 ∧ 0 ≤ y ∧ y ≤ 65520 ∧ adlerF (zs.drop j) x y = adlerB zs) (fun _ _ i => n - (intOf i).toNat)
      case atStart => exact ⟨0, 1, 0, by omega, rfl, rfl, rfl, by omega, by omega, by omega, by omega, rfl⟩
      case round =>
        obtain ⟨j, x, y, hj, rfl, rfl, rfl, hx0, hx1, hy0, hy1, hA⟩ := hrel
        have HA := Lib.hid hA; clear hA
        by_cases hlt : j < n
        · have hlz : j < zs.length := by rw [HZ.out]; exact hlt
          have hck := HC.out j hlz
          obtain ⟨hd0, hd1⟩ := H8.out _ (getD_mem hlz)
          have HD := Lib.hid (drop_getD hlz)
          clear hlz
          have hz0 := Int.emod_nonneg (x + zs.getD j 0) (show (65521 : Int) ≠ 0 by omega)
          have hz1 := Int.emod_lt_of_pos (x + zs.getD j 0) (show (0 : Int) < 65521 by omega)
          generalize hd : zs.getD j 0 = d at *
          clear hd
          generalize hm : (x + d) % 65521 = m at hz0 hz1
          have HM := Lib.hid hm; clear hm
          have hz2 : m ≤ 65520 := by omega
          clear hz1
          rw [← HM.out] at hz0 hz2
          go_wp2
          go_round
          case rel =>
            refine ⟨j + 1, (x + d) % 65521, (y + (x + d) % 65521) % 65521, by omega, rfl, rfl, by go_num, hz0, hz2, Int.emod_nonneg _ (by omega), ?_, ?_⟩
            · have := Int.emod_lt_of_pos (y + (x + d) % 65521) (show (0 : Int) < 65521 by omega)
              omega
            · rw [← HA.out, HD.out]; rfl
          case measure => simp [intOf]; omega
        · obtain rfl : j = n := by omega
          have hA := HA.out
          rw [List.drop_eq_nil_of_le (by rw [HZ.out]; omega)] at hA
          have hA2 : y * 65536 + x = adlerB zs := hA
          have HA2 := Lib.hid hA2; clear hA hA2
          go_wp2
          go_ret
          exact ⟨ret_int HA2.out, rfl⟩
set_option maxHeartbeats 400000 in
theorem walkFnExactAdler (a0 : Option Addr) (len0 cap0 : Nat) (z0 : List Int) (w : World) (w0 : IsRow .u8 w a0 len0 cap0 z0) :
    Calls Try.prog 3 #[.slice a0 len0 cap0] w fun e w' => e = .returned (.bool true) ∧ Below w.heap.size w w' := by
  obtain ⟨r0, hz, hwf⟩ := w0.rowAt
  have h8 := u8_all hwf
  clear w0 hwf
  generalize z0.take len0 = zs at *
  have HZ := Lib.hid hz; clear hz
  have H8 := Lib.hid h8; clear h8
  by_cases hbig : len0 ≤ 1048576
  · go_enter Try.func3, Try.ntmps3
    go_wp2_with fail
    refine (toByteS_any _ _ _ zs _ HZ.out hbig r0).mono ?_
    rintro e w1 ⟨rfl, r1, hb1⟩
    have r0 := r0.below hb1
    go_wp2_with fail
    refine (sAdler_any _ _ _ zs _ HZ.out hbig H8.out r1).mono ?_
    rintro e w2 ⟨rfl, rfl⟩
    go_wp2_with fail
    refine (toByteS_any _ _ _ zs _ HZ.out hbig r0).mono ?_
    rintro e w2 ⟨rfl, r2, hb2⟩
    have r0 := r0.below hb2
    go_wp2_with fail
    refine (iAdler_any _ _ _ zs _ HZ.out hbig H8.out r2).mono ?_
    rintro e w3 ⟨rfl, rfl⟩
    go_wp2_with fail
    refine (toByteS_any _ _ _ zs _ HZ.out hbig r0).mono ?_
    rintro e w3 ⟨rfl, r3, hb3⟩
    have r2 := r2.below hb3
    go_wp2_with fail
    refine (eqByteS_any _ _ _ _ _ _ zs zs _ HZ.out HZ.out hbig hbig r2 r3).mono ?_
    rintro e w4 ⟨rfl, hb4⟩
    go_wp2_with fail
    go_ret
    exact ⟨rfl, bl_step hb1 (bl_step hb2 (bl_step hb3 hb4))⟩
  · go_enter Try.func3, Try.ntmps3
    go_wp2_with fail
    go_ret
    exact ⟨rfl, Below.refl _ _⟩
end Go.Proofs.Ytmgdfefffgjddaa
