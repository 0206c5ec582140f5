/-
  PROVED: contracts of the draws of a word; the walk of the law of the words that are read.
  CONDITIONS: none.
-/
import Derived.Test.YtimjfcipkmcgmaaCur2
import Derived.Test.YtimjfcipkmcgmaaPlace
namespace Go.Proofs.Ytimjfcipkmcgmaa
open Go.ChangeShapes Go.WideShapes Go.ChangeAt Go.RowKit
set_option linter.unusedVariables false
def drawModeL : List (List UInt8) := [[100, 111, 119, 110], [117, 112], [122, 101, 114, 111], [101, 118, 101, 110], [97, 119, 97, 121], [], [85, 112], [110, 101, 97, 114]]
def drawPolicyL : List (List UInt8) := [[115, 97, 116], [101, 114, 114, 111, 114], [119, 114, 97, 112], [], [101, 114, 114]]
theorem big_any (a : Option Addr) (n c : Nat) (w : World) : Calls Try.prog 6 #[.slice a n c] w fun e w' => e = .returned (.bool (decide ((n : Int) > 1048576))) ∧ w = w' := by
  by_cases h : (n : Int) > 1048576
  · rw [decide_eq_true h]
    go_enter Try.func6, Try.ntmps6
    go_wp2
    go_ret
    exact ⟨rfl, rfl⟩
  · rw [decide_eq_false h]
    go_enter Try.func6, Try.ntmps6
    go_wp2
    go_ret
    exact ⟨rfl, rfl⟩
set_option maxHeartbeats 1000000 in
theorem l1Pick_any (w : World) (g : Nat) (S : Src) (i : Nat) (h : Int) (b m : Nat) (L : List (List UInt8)) (hw : CurAt w g S i h) (hm : 0 < m) (hm2 : m ≤ 256) (hb : b < w.heap.size) (hc : ∀ k : Nat, k < m → w.cell? ⟨b, k, none⟩ = some (.string (strs L k))) (hbg : b ≠ g) :
    Calls Try.prog 34 #[.pointer (some ⟨g, 0, none⟩), .slice (some ⟨b, 0, none⟩) m m] w fun e w' => e = .returned (.string (strs L (byV S i h % m).toNat)) ∧ CurAt w' g S (byI S i) (hNext h) ∧ w.grownBy w' (some g) := by
  have HC := Lib.hid (l1Below_small w g S i h (m : Int) hw (by omega) (by omega)); clear hw
  have HA := Lib.hid hc; clear hc
  have hv0 : 0 ≤ byV S i h % (m : Int) := Int.emod_nonneg _ (by omega)
  have hv1 : byV S i h % (m : Int) < m := Int.emod_lt_of_pos _ (by omega)
  generalize byV S i h % (m : Int) = v at *
  obtain ⟨k, rfl⟩ := Int.eq_ofNat_of_zero_le hv0
  have hkm : k < m := by omega
  go_enter Try.func34, Try.ntmps34
  go_wp2_with fail
  refine HC.out.mono ?_
  rintro e w1 ⟨rfl, hc, ho⟩
  have HCU := Lib.hid hc; clear hc
  have hcell : w1.cell? ⟨b, k, none⟩ = some (.string (strs L k)) := by
    rw [← HA.out k hkm]
    exact World.cell?_of_block (a := ⟨b, k, none⟩) (ho.block b hb (fun e => hbg (by injection e)))
  clear hv0 hv1
  go_wp2
  go_ret
  exact ⟨rfl, HCU.out, ho⟩
set_option maxHeartbeats 1000000 in
theorem drawModeOf_any (S : Src) (w : World) (ha : RowAt .u8 w S.a S.l) : Calls Try.prog 14 #[.slice S.a S.n S.c] w fun e w' => e = .returned (.string (strs drawModeL (byV S 0 (h0S S) % 8).toNat)) ∧ Below w.heap.size w w' := by
  have HC := Lib.hid (l1New_any S w ha); clear ha
  go_enter Try.func14, Try.ntmps14
  go_wp2_with fail
  refine HC.out.mono ?_
  rintro e w1 ⟨rfl, hc, hb⟩
  have hlt := hc.lt
  have HCU := Lib.hid hc; clear hc
  go_wp2_with fail
  refine (l1Pick_any _ w.heap.size S 0 (h0S S) w1.heap.size 8 drawModeL (HCU.out.below (bl_alloc _ _)) (by omega) (by omega) (by simp) ?_ (by omega)).mono ?_
  · intro k hk
    rw [World.cell?_alloc_mark]
    rcases (show k = 0 ∨ k = 1 ∨ k = 2 ∨ k = 3 ∨ k = 4 ∨ k = 5 ∨ k = 6 ∨ k = 7 by omega) with rfl | rfl | rfl | rfl | rfl | rfl | rfl | rfl <;> rfl
  rintro e w2 ⟨rfl, _, ho⟩
  go_wp2
  go_ret
  exact ⟨rfl, below_only (bl_step hb (bl_alloc _ _)) ho (Nat.le_refl _)⟩
set_option maxHeartbeats 1000000 in
theorem drawPolicyOf_any (S : Src) (w : World) (ha : RowAt .u8 w S.a S.l) : Calls Try.prog 17 #[.slice S.a S.n S.c] w fun e w' => e = .returned (.string (strs drawPolicyL (byV S 0 (h0S S) % 5).toNat)) ∧ Below w.heap.size w w' := by
  have HC := Lib.hid (l1New_any S w ha); clear ha
  go_enter Try.func17, Try.ntmps17
  go_wp2_with fail
  refine HC.out.mono ?_
  rintro e w1 ⟨rfl, hc, hb⟩
  have hlt := hc.lt
  have HCU := Lib.hid hc; clear hc
  go_wp2_with fail
  refine (l1Pick_any _ w.heap.size S 0 (h0S S) w1.heap.size 5 drawPolicyL (HCU.out.below (bl_alloc _ _)) (by omega) (by omega) (by simp) ?_ (by omega)).mono ?_
  · intro k hk
    rw [World.cell?_alloc_mark]
    rcases (show k = 0 ∨ k = 1 ∨ k = 2 ∨ k = 3 ∨ k = 4 by omega) with rfl | rfl | rfl | rfl | rfl <;> rfl
  rintro e w2 ⟨rfl, _, ho⟩
  go_wp2
  go_ret
  exact ⟨rfl, below_only (bl_step hb (bl_alloc _ _)) ho (Nat.le_refl _)⟩
set_option maxHeartbeats 1000000 in
theorem drawStatusText_any (S : Src) (w : World) (ha : RowAt .u8 w S.a S.l) : Calls Try.prog 18 #[.slice S.a S.n S.c] w fun e w' => e = .returned (.int .i64 (byV S 0 (h0S S) % 10 - 1)) ∧ Below w.heap.size w w' := by
  have HC := Lib.hid (l1New_any S w ha); clear ha
  have hv0 : 0 ≤ byV S 0 (h0S S) % 10 := Int.emod_nonneg _ (by omega)
  have hv1 : byV S 0 (h0S S) % 10 < 10 := Int.emod_lt_of_pos _ (by omega)
  generalize hx : byV S 0 (h0S S) % 10 = v at *
  have HX := Lib.hid hx
  clear hx
  go_enter Try.func18, Try.ntmps18
  go_wp2_with fail
  refine HC.out.mono ?_
  rintro e w1 ⟨rfl, hc, hb⟩
  have HCU := Lib.hid hc; clear hc
  go_wp2_with fail
  refine (l1Below_small _ w.heap.size S 0 (h0S S) 10 HCU.out (by omega) (by omega)).mono ?_
  rintro e w2 ⟨rfl, _, ho⟩
  rw [HX.out]
  go_wp2
  go_ret
  exact ⟨rfl, below_only hb ho (Nat.le_refl _)⟩
theorem status_in (h : Int) (h0 : -1 ≤ h) (h1 : h ≤ 8) : (0 ≤ h ∧ h ≤ 6 ∧ ((wordAt statusL h).toList == []) = false ∧ ∀ k : Nat, k < 7 → ¬ (k : Int) = h → ((strs statusL k).toList == (wordAt statusL h).toList) = false) ∨ ((h < 0 ∨ 6 < h) ∧ ((wordAt statusL h).toList == []) = true) := by
  obtain ⟨j, rfl⟩ : ∃ j : Nat, h = (j : Int) - 1 := ⟨(h + 1).toNat, by omega⟩
  have hj : j < 10 := by omega
  rcases (show j = 0 ∨ j = 1 ∨ j = 2 ∨ j = 3 ∨ j = 4 ∨ j = 5 ∨ j = 6 ∨ j = 7 ∨ j = 8 ∨ j = 9 by omega) with rfl | rfl | rfl | rfl | rfl | rfl | rfl | rfl | rfl | rfl
  · right; exact ⟨by omega, by simp [ByteArray.toList_eq, wordAt]⟩
  all_goals try (right; exact ⟨by omega, by simp [ByteArray.toList_eq, wordAt, statusL]⟩)
  all_goals
    left
    refine ⟨by omega, by omega, by simp [ByteArray.toList_eq, wordAt, statusL, strs], ?_⟩
    intro k hk hne
    rcases (show k = 0 ∨ k = 1 ∨ k = 2 ∨ k = 3 ∨ k = 4 ∨ k = 5 ∨ k = 6 by omega) with rfl | rfl | rfl | rfl | rfl | rfl | rfl
    all_goals first | (exfalso; exact hne (by decide)) | simp [ByteArray.toList_eq, wordAt, statusL, strs]
set_option maxHeartbeats 2000000 in
theorem walkFnWordsRead (a0 : Option Addr) (len0 cap0 : Nat) (z0 : List Int) (w : World) (w0 : IsRow .u8 w a0 len0 cap0 z0) :
    Calls Try.prog 4 #[.slice a0 len0 cap0] w fun e w' => e = .returned (.bool true) ∧ Below w.heap.size w w' := by
  obtain ⟨ha, hlen, hwf⟩ := w0.rowAt
  have hby : ∀ z ∈ z0.take len0, 0 ≤ z ∧ z ≤ 255 := fun z hz => bounds_u8 (hwf z hz)
  clear w0 hwf
  generalize z0.take len0 = z0 at *
  by_cases hbg : (len0 : Int) > 1048576
  · have hd : decide ((len0 : Int) > 1048576) = true := decide_eq_true hbg
    clear ha hby
    go_enter Try.func4, Try.ntmps4
    go_wp2_with fail
    refine (big_any _ _ _ _).mono ?_
    rintro e w1 ⟨rfl, rfl⟩
    rw [hd]
    go_wp2
    go_ret
    exact ⟨rfl, Below.refl _ _⟩
  · have hd : decide ((len0 : Int) > 1048576) = false := decide_eq_false hbg
    obtain ⟨S, rfl, rfl, rfl, rfl⟩ : ∃ S : Src, S.a = a0 ∧ S.n = len0 ∧ S.c = cap0 ∧ S.l = z0 := ⟨⟨a0, len0, cap0, z0, hlen, by omega, hby⟩, rfl, rfl, rfl, rfl⟩
    have HA := Lib.hid ha
    clear ha hby hlen hbg
    have hv0 : 0 ≤ byV S 0 (h0S S) % 10 := Int.emod_nonneg _ (by omega)
    have hv1 : byV S 0 (h0S S) % 10 < 10 := Int.emod_lt_of_pos _ (by omega)
    have hst := status_in (byV S 0 (h0S S) % 10 - 1) (by omega) (by omega)
    have C3 := Lib.hid (fun w1 hb => drawStatusText_any S w1 (HA.out.below hb))
    generalize byV S 0 (h0S S) % 10 - 1 = hh at *
    clear hv0 hv1
    have C1 := Lib.hid (drawModeOf_any S w HA.out)
    have C2 := Lib.hid (fun w1 hb => drawPolicyOf_any S w1 (HA.out.below hb))
    generalize (strs drawModeL (byV S 0 (h0S S) % 8).toNat) = s1 at *
    generalize (strs drawPolicyL (byV S 0 (h0S S) % 5).toNat) = s2 at *
    have hr := placeF_range (strs modeL) s1 5 0
    go_enter Try.func4, Try.ntmps4
    go_wp2_with fail
    refine (big_any _ _ _ _).mono ?_
    rintro e w1 ⟨rfl, rfl⟩
    rw [hd]
    clear hd
    go_wp2_with fail
    refine C1.out.mono ?_
    rintro e w1 ⟨rfl, hb1⟩
    go_wp2_with fail
    refine (iModeOf_any _ _).mono ?_
    rintro e w1' ⟨rfl, rfl⟩
    go_wp2_with fail
    refine (C2.out _ hb1).mono ?_
    rintro e w2 ⟨rfl, hb2⟩
    go_wp2_with fail
    refine (iPolicyOf_any _ _).mono ?_
    rintro e w2' ⟨rfl, rfl⟩
    have hb12 := bl_step hb1 hb2
    clear hb1 hb2
    go_wp2_with fail
    refine (C3.out _ hb12).mono ?_
    rintro e w3 ⟨rfl, hb3⟩
    go_wp2_with fail
    refine (iStatusText_any _ _).mono ?_
    rintro e w4 ⟨rfl, hb4⟩
    have hb14 := bl_step (bl_step hb12 hb3) hb4
    clear hb12 hb3 hb4
    generalize wordAt statusL hh = t at *
    have HR := Lib.hid hr; clear hr
    have HP := Lib.hid (placeF_range (strs policyL) s2 3 0)
    generalize hmm : placeF (strs modeL) s1 5 0 = m at *
    generalize hpp : placeF (strs policyL) s2 3 0 = p at *
    have HMM := Lib.hid hmm; clear hmm
    have HPP := Lib.hid hpp; clear hpp
    rcases hst with ⟨hs1, hs2, hs3, hs4⟩ | ⟨hs1 | hs1, hs3⟩
    · have HS4 := Lib.hid hs4; clear hs4
      go_wp2_with fail
      refine (sModeOf_any _ _).mono ?_
      rintro e w5 ⟨rfl, hb5⟩
      rw [HMM.out]
      have hb15 := bl_step hb14 hb5
      go_wp2_with fail
      refine (C2.out _ hb15).mono ?_
      rintro e w6 ⟨rfl, hb6⟩
      go_wp2_with fail
      refine (sPolicyOf_any _ _).mono ?_
      rintro e w7 ⟨rfl, hb7⟩
      rw [HPP.out]
      have hb17 := bl_step hb15 (bl_step hb6 hb7)
      clear hb14 hb5 hb15 hb6 hb7
      go_wp2_with fail
      go_loopw [8] (fun k wr => ∃ K : Nat, K ≤ 7 ∧ k = .int .i64 K ∧ Below w.heap.size w wr) (fun k _ => 7 - (intOf k).toNat)
      case atStart => exact ⟨0, by omega, rfl, hb17⟩
      case round =>
        obtain ⟨K, hK, rfl, hB⟩ := hrel
        by_cases hlt : K < 7
        · by_cases he : (K : Int) = hh
          · go_wp2_with fail
            go_roundw
            case rel => exact ⟨K + 1, by omega, by go_num, hB⟩
            case measure => simp [intOf]; omega
          · have hn := HS4.out K hlt he
            have hw := wordAt_nat statusL K (by simpa [statusL] using hlt)
            go_wp2_with fail
            refine (iStatusText_any _ _).mono ?_
            rintro e w8 ⟨rfl, hb8⟩
            rw [hw]
            go_wp2_with fail
            go_roundw
            case rel => exact ⟨K + 1, by omega, by go_num, bl_step hB hb8⟩
            case measure => simp [intOf]; omega
        · obtain ⟨hr1, hr2⟩ := HR.out
          go_wp2_with fail
          go_ret
          exact ⟨ret_bool (decide_eq_true (by omega)), hB⟩
    · go_wp2_with fail
      refine (sModeOf_any _ _).mono ?_
      rintro e w5 ⟨rfl, hb5⟩
      rw [HMM.out]
      have hb15 := bl_step hb14 hb5
      go_wp2_with fail
      refine (C2.out _ hb15).mono ?_
      rintro e w6 ⟨rfl, hb6⟩
      go_wp2_with fail
      refine (sPolicyOf_any _ _).mono ?_
      rintro e w7 ⟨rfl, hb7⟩
      rw [HPP.out]
      have hb17 := bl_step hb15 (bl_step hb6 hb7)
      clear hb14 hb5 hb15 hb6 hb7
      go_wp2_with fail
      go_loopw [8] (fun k wr => ∃ K : Nat, K ≤ 7 ∧ k = .int .i64 K ∧ Below w.heap.size w wr) (fun k _ => 7 - (intOf k).toNat)
      case atStart => exact ⟨0, by omega, rfl, hb17⟩
      case round =>
        obtain ⟨K, hK, rfl, hB⟩ := hrel
        by_cases hlt : K < 7
        · have hne : ¬ (K : Int) = hh := by omega
          go_wp2_with fail
          go_roundw
          case rel => exact ⟨K + 1, by omega, by go_num, hB⟩
          case measure => simp [intOf]; omega
        · obtain ⟨hr1, hr2⟩ := HR.out
          go_wp2_with fail
          go_ret
          exact ⟨ret_bool (decide_eq_true (by omega)), hB⟩
    · go_wp2_with fail
      refine (sModeOf_any _ _).mono ?_
      rintro e w5 ⟨rfl, hb5⟩
      rw [HMM.out]
      have hb15 := bl_step hb14 hb5
      go_wp2_with fail
      refine (C2.out _ hb15).mono ?_
      rintro e w6 ⟨rfl, hb6⟩
      go_wp2_with fail
      refine (sPolicyOf_any _ _).mono ?_
      rintro e w7 ⟨rfl, hb7⟩
      rw [HPP.out]
      have hb17 := bl_step hb15 (bl_step hb6 hb7)
      clear hb14 hb5 hb15 hb6 hb7
      go_wp2_with fail
      go_loopw [8] (fun k wr => ∃ K : Nat, K ≤ 7 ∧ k = .int .i64 K ∧ Below w.heap.size w wr) (fun k _ => 7 - (intOf k).toNat)
      case atStart => exact ⟨0, by omega, rfl, hb17⟩
      case round =>
        obtain ⟨K, hK, rfl, hB⟩ := hrel
        by_cases hlt : K < 7
        · have hne : ¬ (K : Int) = hh := by omega
          go_wp2_with fail
          go_roundw
          case rel => exact ⟨K + 1, by omega, by go_num, hB⟩
          case measure => simp [intOf]; omega
        · obtain ⟨hr1, hr2⟩ := HR.out
          go_wp2_with fail
          go_ret
          exact ⟨ret_bool (decide_eq_true (by omega)), hB⟩
end Go.Proofs.Ytimjfcipkmcgmaa
