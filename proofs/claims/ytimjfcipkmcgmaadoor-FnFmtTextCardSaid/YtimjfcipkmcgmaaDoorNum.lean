/-
  PROVED: contracts of the reading of a number, the reference's and the program's, and the walk of the law on it.
  CONDITIONS: none.
-/
import Derived.Test.YtimjfcipkmcgmaaDoorDigL
namespace Go.Proofs.YtimjfcipkmcgmaaDoor
open Go.ChangeShapes Go.WideShapes Go.ChangeAt Go.RowKit
set_option linter.unusedVariables false
def isDig (b : UInt8) : Bool := decide (48 ≤ b.toNat) && decide (b.toNat ≤ 57)
def numV : List UInt8 → Int
  | l => l.foldl (fun n b => n * 10 + ((b.toNat : Int) - 48)) 0
theorem numV_snoc (l : List UInt8) (b : UInt8) : numV (l ++ [b]) = numV l * 10 + ((b.toNat : Int) - 48) := by simp [numV]
theorem isDig_iff (b : UInt8) : isDig b = true ↔ 48 ≤ (b.toNat : Int) ∧ (b.toNat : Int) ≤ 57 := by unfold isDig; simp; omega
theorem take_snoc (s : ByteArray) (k : Nat) (h : k < s.size) : s.data.toList.take (k + 1) = s.data.toList.take k ++ [s[k]] := by
  rw [List.take_succ_eq_append_getElem (by simpa using h)]; rfl
theorem numV_take (s : ByteArray) : ∀ k, (s.data.toList.take k).all isDig = true → 0 ≤ numV (s.data.toList.take k) ∧ numV (s.data.toList.take k) < ((10 ^ k : Nat) : Int)
  | 0, _ => by simp [numV]
  | k + 1, h => by
    by_cases hlt : k < s.size
    · rw [take_snoc s k hlt, List.all_append] at h
      simp only [Bool.and_eq_true, List.all_cons, List.all_nil, Bool.and_true] at h
      obtain ⟨h1, h2⟩ := numV_take s k h.1
      have h3 := (isDig_iff _).1 h.2
      rw [take_snoc s k hlt, numV_snoc, Nat.pow_succ]
      generalize (10 : Nat) ^ k = P at *
      omega
    · have e : ∀ j, s.size ≤ j → s.data.toList.take j = s.data.toList := fun j hj => List.take_of_length_le (by simpa using hj)
      rw [e (k + 1) (by omega)] at h ⊢
      rw [← e k (by omega)] at h
      obtain ⟨h1, h2⟩ := numV_take s k h
      rw [e k (by omega)] at h1 h2
      rw [Nat.pow_succ]
      generalize (10 : Nat) ^ k = P at *
      omega
theorem numV_six (s : ByteArray) (k : Nat) (hk : k ≤ 6) (h : (s.data.toList.take k).all isDig = true) : 0 ≤ numV (s.data.toList.take k) ∧ numV (s.data.toList.take k) < 1000000 := by
  obtain ⟨h1, h2⟩ := numV_take s k h
  have h3 : 10 ^ k ≤ 10 ^ 6 := Nat.pow_le_pow_right (by decide) hk
  have h4 : (10 : Nat) ^ 6 = 1000000 := by decide
  omega
def numOk (s : ByteArray) : Bool := decide (1 ≤ s.size) && decide (s.size ≤ 6) && s.data.toList.all isDig && (Lib.itoa (numV s.data.toList) == s.data.toList)
def numR (s : ByteArray) : Int := if numOk s = true then numV s.data.toList else 0
theorem numOk_len {s : ByteArray} (h : ¬ (1 ≤ s.size ∧ s.size ≤ 6)) : numOk s = false := by
  unfold numOk
  by_cases h1 : 1 ≤ s.size
  · have h2 : ¬ s.size ≤ 6 := fun h2 => h ⟨h1, h2⟩
    simp [h2]
  · simp [h1]
theorem numOk_bad {s : ByteArray} {k : Nat} (hk : k < s.size) (h : isDig s[k] = false) : numOk s = false := by
  have h1 : s.data.toList.all isDig = false := by
    rw [List.all_eq_false]
    exact ⟨s[k], List.getElem_mem (l := s.data.toList) (n := k) (by simpa using hk), by simp [h]⟩
  unfold numOk
  rw [h1]; simp
theorem numR_no {s : ByteArray} (h : numOk s = false) : numR s = 0 := by unfold numR; rw [h]; rfl
theorem numOk_end {s : ByteArray} (h1 : 1 ≤ s.size) (h2 : s.size ≤ 6) (h3 : s.data.toList.all isDig = true) : numOk s = (Lib.itoa (numV s.data.toList) == s.data.toList) := by
  unfold numOk
  rw [h3]; simp [h1, h2]
theorem ret_ib {x y : Int} {b c : Bool} (h : x = y) (h2 : b = c) : Ending.returned (.tuple #[.int .i64 x, .bool b]) = .returned (.tuple #[.int .i64 y, .bool c]) := by rw [h, h2]
theorem toList_data (s : ByteArray) : s.toList = s.data.toList := by rw [ByteArray.toList_eq]
set_option maxHeartbeats 2000000 in
theorem sNumber_any (s : ByteArray) (w : World) (hs : s.size ≤ 9223372036854775807) :
    Calls Tryd.prog 28 #[.string s] w fun e w' => e = .returned (.tuple #[.int .i64 (numR s), .bool (numOk s)]) ∧ Below w.heap.size w w' := by
  by_cases hsz : 1 ≤ s.size ∧ s.size ≤ 6
  · obtain ⟨h1, h6⟩ := hsz
    have HOK := Lib.hid (fun h3 => numOk_end (s := s) h1 h6 h3)
    go_enter Tryd.func28, Tryd.ntmps28
    go_wp2_with fail
    go_loop [4, 5] (fun n i => ∃ k : Nat, k ≤ s.size ∧ i = .int .i64 k ∧ n = .int .i64 (numV (s.data.toList.take k)) ∧ Hid ((s.data.toList.take k).all isDig = true)) (fun _ i => s.size - (intOf i).toNat)
    case atStart => exact ⟨0, Nat.zero_le _, rfl, rfl, Lib.hid (by simp)⟩
    case round =>
      obtain ⟨k, hk, rfl, rfl, HD⟩ := hrel
      obtain ⟨hn0, hn1⟩ := numV_six s k (by omega) HD.out
      by_cases hlt : k < s.size
      · have HSN := Lib.hid (show numV (s.data.toList.take (k + 1)) = numV (s.data.toList.take k) * 10 + ((s[k].toNat : Int) - 48) by rw [take_snoc s k hlt, numV_snoc])
        have HB := Lib.hid (fun h => numOk_bad (s := s) (k := k) hlt h)
        have HDS : Hid (isDig s[k] = true → (s.data.toList.take (k + 1)).all isDig = true) := by
          intro h
          rw [take_snoc s k hlt, List.all_append, HD.out]; simp [h]
        by_cases hd : isDig s[k] = true
        · obtain ⟨hd1, hd2⟩ := (isDig_iff _).1 hd
          have HD2 := Lib.hid (HDS.out hd)
          clear hd HB HDS
          go_wp2
          go_round
          case rel => exact ⟨k + 1, by omega, by go_num, by rw [HSN.out]; first | go_num | (congr 1; omega), HD2⟩
          case measure => simp [intOf]; omega
        · have hb : isDig s[k] = false := by simpa using hd
          have HNO := Lib.hid (HB.out hb)
          have hd' : ¬ (48 ≤ (s[k].toNat : Int) ∧ (s[k].toNat : Int) ≤ 57) := fun h => hd ((isDig_iff _).2 h)
          clear hd hb HB HDS
          by_cases hl : 48 ≤ (s[k].toNat : Int)
          · have hg : ¬ (s[k].toNat : Int) ≤ 57 := fun h => hd' ⟨hl, h⟩
            clear hd'
            go_wp2
            go_ret2
            exact ⟨ret_ib (numR_no HNO.out).symm HNO.out.symm, Below.refl _ _⟩
          · clear hd'
            go_wp2
            go_ret2
            exact ⟨ret_ib (numR_no HNO.out).symm HNO.out.symm, Below.refl _ _⟩
      · obtain rfl : k = s.size := by omega
        have hfl : s.data.toList.take s.size = s.data.toList := List.take_of_length_le (by simp)
        have HALL : Hid (s.data.toList.all isDig = true) := by have := HD.out; rwa [hfl] at this
        have HOK2 := Lib.hid (HOK.out HALL.out)
        have HST := Lib.hid (toList_data s)
        have HNR := Lib.hid (show numOk s = true → numR s = numV s.data.toList from fun h => by unfold numR; rw [h]; rfl)
        rw [hfl] at hn0 hn1 ⊢
        clear hfl HD
        generalize numV s.data.toList = n at *
        have HC := Lib.hid (fun W : World => sDigits_any n W (by omega) (by omega))
        generalize Lib.itoa n = li at *
        cases hq : (li == s.data.toList)
        · have HNO : Hid (numOk s = false) := by have := HOK2.out; rw [hq] at this; exact this
          have hne : (li == s.toList) = false := by rw [HST.out, hq]
          clear hq
          go_wp2_with fail
          refine (HC.out _).mono ?_
          rintro e w1 ⟨rfl, hb⟩
          go_wp2_with fail
          go_ret2
          exact ⟨ret_ib (numR_no HNO.out).symm HNO.out.symm, hb⟩
        · have HYES : Hid (numOk s = true) := by have := HOK2.out; rw [hq] at this; exact this
          have hne : (li == s.toList) = true := by rw [HST.out, hq]
          clear hq
          go_wp2_with fail
          refine (HC.out _).mono ?_
          rintro e w1 ⟨rfl, hb⟩
          go_wp2_with fail
          go_ret2
          exact ⟨ret_ib (HNR.out HYES.out).symm HYES.out.symm, hb⟩
  · have hno := numOk_len hsz
    rw [numR_no hno, hno]
    by_cases h1 : 1 ≤ s.size
    · have h6 : ¬ s.size ≤ 6 := fun h => hsz ⟨h1, h⟩
      clear hsz hno
      go_enter Tryd.func28, Tryd.ntmps28
      go_wp2
      go_ret2
      exact ⟨rfl, Below.refl _ _⟩
    · clear hsz hno
      go_enter Tryd.func28, Tryd.ntmps28
      go_wp2
      go_ret2
      exact ⟨rfl, Below.refl _ _⟩
set_option maxHeartbeats 2000000 in
theorem iNumber_any (s : ByteArray) (w : World) (hs : s.size ≤ 9223372036854775807) (ht : Lib.TabIs Tryd.prog w "internal/strconv.uint64pow10" .u64 Lib.pow10Tab) :
    Calls Tryd.prog 30 #[.string s] w fun e w' => e = .returned (.tuple #[.int .i64 (numR s), .bool (numOk s)]) ∧ Below w.heap.size w w' := by
  have HTB := Lib.hid ht; clear ht
  by_cases hsz : 1 ≤ s.size ∧ s.size ≤ 6
  · obtain ⟨h1, h6⟩ := hsz
    have HOK := Lib.hid (fun h3 => numOk_end (s := s) h1 h6 h3)
    go_enter Tryd.func30, Tryd.ntmps30
    go_wp2_with fail
    go_loop [4, 5] (fun n i => ∃ k : Nat, k ≤ s.size ∧ i = .int .i64 k ∧ n = .int .i64 (numV (s.data.toList.take k)) ∧ Hid ((s.data.toList.take k).all isDig = true)) (fun _ i => s.size - (intOf i).toNat)
    case atStart => exact ⟨0, Nat.zero_le _, rfl, rfl, Lib.hid (by simp)⟩
    case round =>
      obtain ⟨k, hk, rfl, rfl, HD⟩ := hrel
      obtain ⟨hn0, hn1⟩ := numV_six s k (by omega) HD.out
      by_cases hlt : k < s.size
      · have HSN := Lib.hid (show numV (s.data.toList.take (k + 1)) = numV (s.data.toList.take k) * 10 + ((s[k].toNat : Int) - 48) by rw [take_snoc s k hlt, numV_snoc])
        have HB := Lib.hid (fun h => numOk_bad (s := s) (k := k) hlt h)
        have HDS : Hid (isDig s[k] = true → (s.data.toList.take (k + 1)).all isDig = true) := by
          intro h
          rw [take_snoc s k hlt, List.all_append, HD.out]; simp [h]
        by_cases hd : isDig s[k] = true
        · obtain ⟨hd1, hd2⟩ := (isDig_iff _).1 hd
          have HD2 := Lib.hid (HDS.out hd)
          clear hd HB HDS
          go_wp2
          go_round
          case rel => exact ⟨k + 1, by omega, by go_num, by rw [HSN.out], HD2⟩
          case measure => simp [intOf]; omega
        · have hb : isDig s[k] = false := by simpa using hd
          have HNO := Lib.hid (HB.out hb)
          have hd' : ¬ (48 ≤ (s[k].toNat : Int) ∧ (s[k].toNat : Int) ≤ 57) := fun h => hd ((isDig_iff _).2 h)
          clear hd hb HB HDS
          by_cases hl : 48 ≤ (s[k].toNat : Int)
          · have hg : ¬ (s[k].toNat : Int) ≤ 57 := fun h => hd' ⟨hl, h⟩
            clear hd'
            go_wp2
            go_ret2
            exact ⟨ret_ib (numR_no HNO.out).symm HNO.out.symm, Below.refl _ _⟩
          · clear hd'
            go_wp2
            go_ret2
            exact ⟨ret_ib (numR_no HNO.out).symm HNO.out.symm, Below.refl _ _⟩
      · obtain rfl : k = s.size := by omega
        have hfl : s.data.toList.take s.size = s.data.toList := List.take_of_length_le (by simp)
        have HALL : Hid (s.data.toList.all isDig = true) := by have := HD.out; rwa [hfl] at this
        have HOK2 := Lib.hid (HOK.out HALL.out)
        have HST := Lib.hid (toList_data s)
        have HNR := Lib.hid (show numOk s = true → numR s = numV s.data.toList from fun h => by unfold numR; rw [h]; rfl)
        rw [hfl] at hn0 hn1 ⊢
        clear hfl HD
        generalize numV s.data.toList = n at *
        have HC := Lib.hid (iDigits_any n w (by omega) (by omega) HTB.out)
        generalize Lib.itoa n = li at *
        cases hq : (li == s.data.toList)
        · have HNO : Hid (numOk s = false) := by have := HOK2.out; rw [hq] at this; exact this
          have hne : (li == s.toList) = false := by rw [HST.out, hq]
          clear hq
          go_wp2_with fail
          refine HC.out.mono ?_
          rintro e w1 ⟨rfl, hb⟩
          go_wp2_with fail
          go_ret2
          exact ⟨ret_ib (numR_no HNO.out).symm HNO.out.symm, hb⟩
        · have HYES : Hid (numOk s = true) := by have := HOK2.out; rw [hq] at this; exact this
          have hne : (li == s.toList) = true := by rw [HST.out, hq]
          clear hq
          go_wp2_with fail
          refine HC.out.mono ?_
          rintro e w1 ⟨rfl, hb⟩
          go_wp2_with fail
          go_ret2
          exact ⟨ret_ib (HNR.out HYES.out).symm HYES.out.symm, hb⟩
  · have hno := numOk_len hsz
    rw [numR_no hno, hno]
    by_cases h1 : 1 ≤ s.size
    · have h6 : ¬ s.size ≤ 6 := fun h => hsz ⟨h1, h⟩
      clear hsz hno
      go_enter Tryd.func30, Tryd.ntmps30
      go_wp2
      go_ret2
      exact ⟨rfl, Below.refl _ _⟩
    · clear hsz hno
      go_enter Tryd.func30, Tryd.ntmps30
      go_wp2
      go_ret2
      exact ⟨rfl, Below.refl _ _⟩
end Go.Proofs.YtimjfcipkmcgmaaDoor
