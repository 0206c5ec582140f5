/-
  PROVED: the walk of the law of words.
  CONDITIONS: none.
-/
import Derived.Test.YtldidbejieekcaaWds
namespace Go.Proofs.Ytldidbejieekcaa
open Go.ChangeShapes Go.WideShapes Go.ChangeAt Go.RowKit
set_option linter.unusedVariables false
theorem big_any_w (a : Option Addr) (n c : Nat) (w : World) : Calls Try.prog 32 #[.slice a n c] w fun e w' => e = .returned (.bool (decide ((n : Int) > 1048576))) ∧ w = w' := big_any a n c w
theorem size_data (s : ByteArray) : s.data.toList.length = s.size := by rw [Array.length_toList]; rfl
theorem drop_byte (s : ByteArray) (k : Nat) (h : k < s.size) : s.data.toList.drop k = s[k] :: s.data.toList.drop (k + 1) := by
  have h' : k < s.data.toList.length := by rw [size_data]; exact h
  rw [List.drop_eq_getElem_cons h']
  rfl
theorem valB_one {a : Int} {b : UInt8} {r : List UInt8} (h : b = 49) : valB a (b :: r) = valB (2 * a + 1) r := by rw [valB, if_pos h]
theorem valB_nought {a : Int} {b : UInt8} {r : List UInt8} (h : b = 48) : valB a (b :: r) = valB (2 * a) r := by rw [valB, if_neg (by rw [h]; decide), if_pos h]
theorem valB_other {a : Int} {b : UInt8} {r : List UInt8} (h : ¬ b = 49) (h2 : ¬ b = 48) : valB a (b :: r) = valB a r := by rw [valB, if_neg h, if_neg h2]
set_option maxRecDepth 100000 in
set_option maxHeartbeats 4000000 in
theorem walkFnWords (a0 : Option Addr) (len0 cap0 : Nat) (z0 : List Int) (w : World) (w0 : IsRow .u8 w a0 len0 cap0 z0) :
    Calls Try.prog 10 #[.slice a0 len0 cap0] w fun e w' => e = .returned (.bool true) ∧ Below w.heap.size w w' := by
  obtain ⟨ha, hlen, hwf⟩ := w0.rowAt
  have hby : ∀ z ∈ z0.take len0, 0 ≤ z ∧ z ≤ 255 := fun z hz => bounds_u8 (hwf z hz)
  clear w0 hwf
  generalize z0.take len0 = z0 at *
  by_cases hbg : (len0 : Int) > 1048576
  · have hd : decide ((len0 : Int) > 1048576) = true := decide_eq_true hbg
    clear ha hby
    go_enter Try.func10, Try.ntmps10
    go_wp2_with fail
    refine (big_any _ _ _ _).mono ?_
    rintro e w1 ⟨rfl, rfl⟩
    rw [hd]
    go_wp2
    go_ret
    exact ⟨rfl, Below.refl _ _⟩
  · have hd : decide ((len0 : Int) > 1048576) = false := decide_eq_false hbg
    obtain ⟨S, rfl, rfl, rfl, rfl⟩ : ∃ S : Src, S.a = a0 ∧ S.n = len0 ∧ S.c = cap0 ∧ S.l = z0 := ⟨⟨a0, len0, cap0, z0, hlen, by omega, hby⟩, rfl, rfl, rfl, rfl⟩
    have HA := Lib.hid ha
    clear ha hby hlen hbg
    go_enter Try.func10, Try.ntmps10
    go_wp2_with fail
    refine (big_any _ _ _ _).mono ?_
    rintro e w1 ⟨rfl, rfl⟩
    rw [hd]
    clear hd
    go_wp2_with fail
    refine (drawWordOf_any S w HA.out).mono ?_
    rintro e w1 ⟨s, n, l, v, rfl, hb1⟩
    have T := bl_al hb1 (.cells #[.bool s, .int .i64 n, .int .i64 l] 27)
    have BF := BoxAt.new w1 #[.bool s, .int .i64 n, .int .i64 l] 27
    have HW := Lib.hid (fun W : World => iWordOf_any s n l v W)
    have HBT := Lib.hid (fun W : World => iBitsText_any s n l v W)
    have HRK := Lib.hid (fun W : World => sRawOk_any s n l v W)
    clear hb1
    cases hr : rawOkB s n l v
    · have HRO := Lib.hid (fun W : World => iRawOf_any s n l (-1) W)
      have hno := raw_no s n l
      have hro : rawOfB s n l (-1) = 0 := by unfold rawOfB; rw [if_neg (by simp [hno])]
      rw [hno, hro] at HRO
      rw [wordB_no hr] at HW
      rw [bitsT_no hr] at HBT
      rw [hr] at HRK
      clear hno hro hr
      go_wp2_with fail
      refine (HW.out _).mono ?_
      rintro e w2 ⟨rfl, hb2⟩
      replace BF := BF.below hb2
      replace T := bl_step T hb2
      obtain ⟨c20, c21, c22⟩ := three_box BF
      go_wp2_with fail
      refine (HRO.out _).mono ?_
      rintro e w3 ⟨rfl, hb3⟩
      replace BF := BF.below hb3
      replace T := bl_step T hb3
      obtain ⟨c30, c31, c32⟩ := three_box BF
      go_wp2_with fail
      refine (HBT.out _).mono ?_
      rintro e w4 ⟨rfl, hb4⟩
      replace BF := BF.below hb4
      replace T := bl_step T hb4
      obtain ⟨c40, c41, c42⟩ := three_box BF
      go_wp2_with fail
      refine (HRK.out _).mono ?_
      rintro e w5 ⟨rfl, hb5⟩
      replace BF := BF.below hb5
      replace T := bl_step T hb5
      obtain ⟨c50, c51, c52⟩ := three_box BF
      go_wp2_with fail
      go_ret
      exact ⟨rfl, T⟩
    · obtain ⟨hX0, hX1⟩ := wordB_bd hr
      obtain ⟨hwok, hwv⟩ := word_back hr
      have hf : (2 ≤ n ∧ n ≤ 60) ∧ 0 ≤ l ∧ l ≤ n := by
        have h0 := hr
        unfold rawOkB at h0
        simp only [Bool.and_eq_true] at h0
        exact (fmtOkB_iff n l).1 h0.1
      obtain ⟨⟨hn2, hn60⟩, hl0, hl1⟩ := hf
      have HRO := Lib.hid (fun W : World => iRawOf_any s n l (wordB s n l v) W)
      rw [hwok, hwv] at HRO
      rw [bitsT_yes hr] at HBT
      rw [hr] at HRK
      have hval := valB_bits (wordB s n l v) l n.toNat 0
      rw [Int.zero_mul, Int.zero_add, Int.emod_eq_of_lt hX0 (show wordB s n l v < 2 ^ n.toNat from hX1)] at hval
      have hln := bits_len (wordB s n l v) l hl0 n.toNat
      obtain ⟨t, ht⟩ : ∃ t : ByteArray, t = ⟨(bitsL (wordB s n l v) l n.toNat).toArray⟩ := ⟨_, rfl⟩
      rw [← ht] at HBT
      have htd : t.data.toList = bitsL (wordB s n l v) l n.toNat := by rw [ht]
      rw [← htd] at hval hln
      rw [size_data] at hln
      have hln2 : (t.size : Int) = n + (if 0 < l then 1 else 0) := by
        rw [hln, Int.toNat_of_nonneg (by omega)]
        by_cases h : 0 < l
        · rw [if_pos ⟨h, hl1⟩, if_pos h]
        · rw [if_neg (fun e => h e.1), if_neg h]
      have hpb := (pw_bd n (by omega)).2
      generalize wordB s n l v = X at *
      have hX2 : X ≤ 4611686018427387903 := by omega
      have HV := Lib.hid hval
      have HLN := Lib.hid hln2
      have hts : t.size ≤ 61 := by have h := hln2; split at h <;> omega
      clear ht htd hval hln hln2 hr hwok hwv hpb hX1
      go_wp2_with fail
      refine (HW.out _).mono ?_
      rintro e w2 ⟨rfl, hb2⟩
      replace BF := BF.below hb2
      replace T := bl_step T hb2
      obtain ⟨c20, c21, c22⟩ := three_box BF
      go_wp2_with fail
      refine (HRO.out _).mono ?_
      rintro e w3 ⟨rfl, hb3⟩
      replace BF := BF.below hb3
      replace T := bl_step T hb3
      obtain ⟨c30, c31, c32⟩ := three_box BF
      go_wp2_with fail
      refine (HBT.out _).mono ?_
      rintro e w4 ⟨rfl, hb4⟩
      replace BF := BF.below hb4
      replace T := bl_step T hb4
      obtain ⟨c40, c41, c42⟩ := three_box BF
      go_wp2_with fail
      refine (HRK.out _).mono ?_
      rintro e w5 ⟨rfl, hb5⟩
      replace BF := BF.below hb5
      replace T := bl_step T hb5
      obtain ⟨c50, c51, c52⟩ := three_box BF
      go_wp2_with fail
      go_loop [9, 10] (fun nv iv => ∃ (k : Nat) (a : Int), iv = .int .i64 k ∧ nv = .int .i64 a ∧ k ≤ t.size ∧ 0 ≤ a ∧ a ≤ 4611686018427387903 ∧ Hid (valB a (t.data.toList.drop k) = X)) (fun _ iv => t.size - (intOf iv).toNat)
      case atStart => exact ⟨0, 0, rfl, rfl, Nat.zero_le _, by omega, by omega, Lib.hid HV.out⟩
      case round =>
        obtain ⟨k, a, rfl, rfl, hk, ha0, ha1, HA2⟩ := hrel
        by_cases hlt : k < t.size
        · have HD := Lib.hid (drop_byte t k hlt)
          by_cases h49 : t[k] = 49
          · have HV2 : Hid (valB (2 * a + 1) (t.data.toList.drop (k + 1)) = X) := by show _ = _; rw [← HA2.out, HD.out, valB_one h49]
            have hb2 := valB_ge (t.data.toList.drop (k + 1)) (2 * a + 1) (by omega)
            rw [HV2.out] at hb2
            have c1 : (t[k].toNat == 49) = true := by rw [h49]; rfl
            have c2 : (t[k].toNat == 48) = false := by rw [h49]; rfl
            clear h49
            go_wp2_with fail
            go_round
            case rel => exact ⟨k + 1, 2 * a + 1, by go_num, rfl, by omega, by omega, by omega, HV2⟩
            case measure => simp [intOf]; omega
          · by_cases h48 : t[k] = 48
            · have HV2 : Hid (valB (2 * a) (t.data.toList.drop (k + 1)) = X) := by show _ = _; rw [← HA2.out, HD.out, valB_nought h48]
              have hb2 := valB_ge (t.data.toList.drop (k + 1)) (2 * a) (by omega)
              rw [HV2.out] at hb2
              have c1 : (t[k].toNat == 49) = false := by rw [h48]; rfl
              have c2 : (t[k].toNat == 48) = true := by rw [h48]; rfl
              clear h49 h48
              go_wp2_with fail
              go_round
              case rel => exact ⟨k + 1, 2 * a, by go_num, rfl, by omega, by omega, by omega, HV2⟩
              case measure => simp [intOf]; omega
            · have HV2 : Hid (valB a (t.data.toList.drop (k + 1)) = X) := by show _ = _; rw [← HA2.out, HD.out, valB_other h49 h48]
              have c1 : (t[k].toNat == 49) = false := beq_eq_false_iff_ne.2 (fun e => h49 (UInt8.toNat_inj.1 e))
              have c2 : (t[k].toNat == 48) = false := beq_eq_false_iff_ne.2 (fun e => h48 (UInt8.toNat_inj.1 e))
              have d1 : ¬ t[k].toNat = 49 := fun e => h49 (UInt8.toNat_inj.1 e)
              have d2 : ¬ t[k].toNat = 48 := fun e => h48 (UInt8.toNat_inj.1 e)
              clear h49 h48
              go_wp2_with fail
              go_round
              case rel => exact ⟨k + 1, a, by go_num, rfl, by omega, by omega, by omega, HV2⟩
              case measure => simp [intOf]; omega
        · obtain rfl : k = t.size := by omega
          have hfin : a = X := by
            have h := HA2.out
            rw [List.drop_eq_nil_of_le (by rw [size_data]; exact Nat.le_refl _)] at h
            exact h
          subst hfin
          by_cases hl : 0 < l
          · have hz : (t.size : Int) = n + 1 := by have := HLN.out; rwa [if_pos hl] at this
            go_wp2_with fail
            go_ret
            exact ⟨rfl, T⟩
          · have hz : (t.size : Int) = n + 0 := by have := HLN.out; rwa [if_neg hl] at this
            go_wp2_with fail
            go_ret
            exact ⟨rfl, T⟩
end Go.Proofs.Ytldidbejieekcaa
