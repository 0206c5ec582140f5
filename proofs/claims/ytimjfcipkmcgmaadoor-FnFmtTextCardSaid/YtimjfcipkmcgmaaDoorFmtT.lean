/-
  PROVED: contracts of the text of a format, the reference's and the program's, and the walk of the law on it.
  CONDITIONS: none.
-/
import Derived.Test.YtimjfcipkmcgmaaDoorDigL
import Derived.Test.YtimjfcipkmcgmaaDoorFmt
import Derived.Deep.RegionHeld3
namespace Go.Proofs.YtimjfcipkmcgmaaDoor
open Go.ChangeShapes Go.WideShapes Go.ChangeAt Go.RowKit
set_option linter.unusedVariables false
def fmtL (s : Bool) (n l : Int) : List UInt8 := if fmtOkB n l = true then (if s = true then [] else [85]) ++ 81 :: (Lib.itoa (n - l) ++ 46 :: Lib.itoa l) else []
theorem fmtL_no {s : Bool} {n l : Int} (h : fmtOkB n l = false) : fmtL s n l = [] := by unfold fmtL; rw [h]; rfl
theorem fmtL_yes {s : Bool} {n l : Int} (h : fmtOkB n l = true) : fmtL s n l = (if s = true then [] else [85]) ++ 81 :: (Lib.itoa (n - l) ++ 46 :: Lib.itoa l) := by unfold fmtL; rw [h]; rfl
theorem itoa_small {n : Int} (h0 : 0 ≤ n) (h1 : n ≤ 60) : (Lib.itoa n).length ≤ 20 := by
  obtain ⟨N, rfl⟩ := Int.eq_ofNat_of_zero_le h0
  rw [Lib.itoa_nonneg]
  by_cases hz : 0 < N
  · exact dec_len hz (by omega)
  · have : N = 0 := by omega
    subst this
    rw [Lib.decDigits_one (by omega)]; simp
theorem three_at {w : World} {b : Nat} {c0 c1 c2 : Value} (h : ∀ i, w.cell? ⟨b, i, none⟩ = #[c0, c1, c2][i]?) : w.cell? ⟨b, 0, none⟩ = some c0 ∧ w.cell? ⟨b, 1, none⟩ = some c1 ∧ w.cell? ⟨b, 2, none⟩ = some c2 := ⟨h 0, h 1, h 2⟩
set_option maxHeartbeats 2000000 in
theorem sFmtText_any (s : Bool) (n l : Int) (w : World) :
    Calls Tryd.prog 35 #[.agg #[.bool s, .int .i64 n, .int .i64 l]] w fun e w' => e = .returned (.string ⟨(fmtL s n l).toArray⟩) ∧ Below w.heap.size w w' := by
  have hB := Below.refl (w.alloc (.cells #[.bool s, .int .i64 n, .int .i64 l] 23)).heap.size (w.alloc (.cells #[.bool s, .int .i64 n, .int .i64 l] 23))
  cases hf : fmtOkB n l
  · rw [fmtL_no hf]
    go_enter Tryd.func35, Tryd.ntmps35
    go_wp2_with (go_at_call 14; refine (sfmtOk_eq _ _ _ _ hf).mono ?_; rintro e w1 ⟨rfl, hb⟩; have hB := bl_step hB hb; obtain ⟨hc, hz⟩ := kept_box hB; clear hb)
    go_ret
    exact ⟨rfl, bl_step (bl_alloc _ _) hB⟩
  · rw [fmtL_yes hf]
    have hr := hf
    unfold fmtOkB at hr
    simp only [Bool.and_eq_true] at hr
    obtain ⟨⟨h1, h2⟩, h3, h4⟩ := And.imp (inR_iff _ _ _).1 (inR_iff _ _ _).1 hr
    clear hr
    have hd0 : 0 ≤ n - l := by omega
    have hd1 : n - l ≤ 60 := by omega
    have hl60 : l ≤ 60 := by omega
    have hw1 : IntKind.i64.wrap (n - l) = n - l := IntWalk.i64_in _ (by omega)
    have HA := Lib.hid (fun W : World => sDigits_any (n - l) W (by omega) (by omega))
    have HC := Lib.hid (fun W : World => sDigits_any l W (by omega) (by omega))
    have hla := itoa_small hd0 hd1
    have hlb := itoa_small h3 hl60
    generalize Lib.itoa (n - l) = la at *
    generalize Lib.itoa l = lb at *
    have HX := Lib.hid (show (⟨la.toArray⟩ : ByteArray).data.toList = la by simp)
    have HY := Lib.hid (show (⟨lb.toArray⟩ : ByteArray).data.toList = lb by simp)
    have hx : (⟨la.toArray⟩ : ByteArray).size ≤ 20 := by simpa [ByteArray.size] using hla
    have hy : (⟨lb.toArray⟩ : ByteArray).size ≤ 20 := by simpa [ByteArray.size] using hlb
    generalize (⟨la.toArray⟩ : ByteArray) = x at *
    generalize (⟨lb.toArray⟩ : ByteArray) = y at *
    have i1 : ¬ 9223372036854775807 < 1 + x.size := by omega
    have i2 : ¬ 9223372036854775807 < 2 + x.size := by omega
    have i3 : ¬ 9223372036854775807 < 1 + x.size + 1 := by omega
    have i4 : ¬ 9223372036854775807 < 2 + x.size + 1 := by omega
    have i5 : ¬ 9223372036854775807 < 1 + x.size + 1 + y.size := by omega
    have i6 : ¬ 9223372036854775807 < 2 + x.size + 1 + y.size := by omega
    cases s
    all_goals
      go_enter Tryd.func35, Tryd.ntmps35
      go_wp2_with (go_at_call 14; refine (sfmtOk_eq _ _ _ _ hf).mono ?_; rintro e w1 ⟨rfl, hb⟩; replace hB := bl_step hB hb; obtain ⟨hc, hz⟩ := kept_box hB; clear hb)
      have hB1 := bl_dr hB
      have k0 : _ ∧ _ := (three_at (kept_box hB1).1).2
      go_region_held3 (fun w' => w'.cell? ⟨w.heap.size, 1, none⟩ = some (.int .i64 n) ∧ w'.cell? ⟨w.heap.size, 2, none⟩ = some (.int .i64 l))
        (first | with_reducible exact k2 | with_reducible exact k1 | with_reducible exact k0)
        (first
        | (go_at_call 43; have q0 := hB2; refine (HC.out _).mono ?_; rintro e w3 ⟨rfl, hb3⟩; have hB3 := bl_step hB2 hb3; have k2 : _ ∧ _ := (three_at (kept_box hB3).1).2)
        | (go_at_call 43; refine (HA.out _).mono ?_; rintro e w2 ⟨rfl, hb2⟩; have hB2 := bl_step hB1 hb2; have k1 : _ ∧ _ := (three_at (kept_box hB2).1).2))
      obtain ⟨hc9, hz9⟩ := kept_box hB3
      go_wp2
      go_ret
      exact ⟨ret_str (by apply ByteArray.ext; apply Array.ext'; simp [ByteArray.data_append, HX.out, HY.out]), bl_step (bl_alloc _ _) hB3⟩
set_option maxHeartbeats 2000000 in
theorem iFmtText_any (s : Bool) (n l : Int) (w : World) (ht : Lib.TabIs Tryd.prog w "internal/strconv.uint64pow10" .u64 Lib.pow10Tab) :
    Calls Tryd.prog 12 #[.agg #[.bool s, .int .i64 n, .int .i64 l]] w fun e w' => e = .returned (.string ⟨(fmtL s n l).toArray⟩) ∧ Below w.heap.size w w' := by
  have HTB := Lib.hid (Lib.tabBelow_of_tabIs ht); clear ht
  have hB := Below.refl (w.alloc (.cells #[.bool s, .int .i64 n, .int .i64 l] 23)).heap.size (w.alloc (.cells #[.bool s, .int .i64 n, .int .i64 l] 23))
  cases hf : fmtOkB n l
  · rw [fmtL_no hf]
    go_enter Tryd.func12, Tryd.ntmps12
    go_wp2_with (go_at_call 31; refine (fmtOk_eq _ _ _ _ hf).mono ?_; rintro e w1 ⟨rfl, hb⟩; have hB := bl_step hB hb; obtain ⟨hc, hz⟩ := kept_box hB; clear hb)
    go_ret
    exact ⟨rfl, bl_step (bl_alloc _ _) hB⟩
  · rw [fmtL_yes hf]
    have hr := hf
    unfold fmtOkB at hr
    simp only [Bool.and_eq_true] at hr
    obtain ⟨⟨h1, h2⟩, h3, h4⟩ := And.imp (inR_iff _ _ _).1 (inR_iff _ _ _).1 hr
    clear hr
    have hd0 : 0 ≤ n - l := by omega
    have hd1 : n - l ≤ 60 := by omega
    have hl60 : l ≤ 60 := by omega
    have hw1 : IntKind.i64.wrap (n - l) = n - l := IntWalk.i64_in _ (by omega)
    have HA := Lib.hid (fun W : World => iDigits_any (n - l) W (by omega) (by omega))
    have HC := Lib.hid (fun W : World => iDigits_any l W (by omega) (by omega))
    have hla := itoa_small hd0 hd1
    have hlb := itoa_small h3 hl60
    generalize Lib.itoa (n - l) = la at *
    generalize Lib.itoa l = lb at *
    have HX := Lib.hid (show (⟨la.toArray⟩ : ByteArray).data.toList = la by simp)
    have HY := Lib.hid (show (⟨lb.toArray⟩ : ByteArray).data.toList = lb by simp)
    have hx : (⟨la.toArray⟩ : ByteArray).size ≤ 20 := by simpa [ByteArray.size] using hla
    have hy : (⟨lb.toArray⟩ : ByteArray).size ≤ 20 := by simpa [ByteArray.size] using hlb
    generalize (⟨la.toArray⟩ : ByteArray) = x at *
    generalize (⟨lb.toArray⟩ : ByteArray) = y at *
    have i1 : ¬ 9223372036854775807 < x.size + 1 := by omega
    have i2 : ¬ 9223372036854775807 < x.size + 1 + y.size := by omega
    cases s
    all_goals
      go_enter Tryd.func12, Tryd.ntmps12
      go_wp2_with (go_at_call 31; refine (fmtOk_eq _ _ _ _ hf).mono ?_; rintro e w1 ⟨rfl, hb⟩; replace hB := bl_step hB hb; obtain ⟨hc, hz⟩ := kept_box hB; clear hb)
      have hB1 := bl_dr hB
      have k0 : _ ∧ _ := (three_at (kept_box hB1).1).2
      go_region_held3 (fun w' => w'.cell? ⟨w.heap.size, 1, none⟩ = some (.int .i64 n) ∧ w'.cell? ⟨w.heap.size, 2, none⟩ = some (.int .i64 l))
        (first | with_reducible exact k2 | with_reducible exact k1 | with_reducible exact k0)
        (first
        | (go_at_call 34; have q0 := hB2; refine (HC.out _ (HTB.out _ (bl_step (bl_alloc _ _) hB2))).mono ?_; rintro e w3 ⟨rfl, hb3⟩; have hB3 := bl_step hB2 hb3; have k2 : _ ∧ _ := (three_at (kept_box hB3).1).2)
        | (go_at_call 34; refine (HA.out _ (HTB.out _ (bl_step (bl_alloc _ _) hB1))).mono ?_; rintro e w2 ⟨rfl, hb2⟩; have hB2 := bl_step hB1 hb2; have k1 : _ ∧ _ := (three_at (kept_box hB2).1).2))
      obtain ⟨hc9, hz9⟩ := kept_box hB3
      go_wp2
      go_ret
      exact ⟨ret_str (by apply ByteArray.ext; apply Array.ext'; simp [ByteArray.data_append, HX.out, HY.out]), bl_step (bl_alloc _ _) hB3⟩
end Go.Proofs.YtimjfcipkmcgmaaDoor
