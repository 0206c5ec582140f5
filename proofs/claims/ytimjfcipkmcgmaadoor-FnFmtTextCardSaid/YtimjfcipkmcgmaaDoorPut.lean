/-
  PROVED: contracts of the writing of a number in bytes, and the law on it.
  CONDITIONS: none.
-/
import Derived.Test.YtimjfcipkmcgmaaDoorOwn
import Derived.Maps.AppendAt
namespace Go.Proofs.YtimjfcipkmcgmaaDoor
open Go.ChangeShapes Go.WideShapes Go.ChangeAt Go.RowKit
set_option linter.unusedVariables false
def RowOwn (K : IntKind) (zs : List Int) (w : World) : Ending → World → Prop := fun e w' =>
  ∃ a c, e = .returned (.slice a zs.length c) ∧ OwnA K w' w.heap.size w'.heap.size a zs ∧ Below w.heap.size w w'
theorem own_none (K : IntKind) (w : World) (lo hi : Nat) : OwnA K w lo hi none [] := .inl ⟨rfl, rfl⟩
theorem one8 (x : Int) : ∀ u ∈ [Value.int .u8 x], u.oneCell' = true := by
  intro u hu
  obtain rfl := List.mem_singleton.1 hu
  rfl
theorem max8 {n : Nat} (h : n ≤ 5) : n + 1 ≤ maxLen := by unfold maxLen; omega
theorem byt8 {n : Nat} (h : n ≤ 5) : (n + 1) * 1 ≤ 140737488355328 := by omega
theorem base8 {w wr : World} (h : Below w.heap.size w wr) (o : Obj) : w.heap.size ≤ (wr.alloc o).heap.size := (bl_al h o).size
theorem lt_five {n : Int} (h : n ≤ 2147483647) : n < 128 * 128 ^ 5 := by
  have e5 : (128 : Int) * 128 ^ 5 = 4398046511104 := by decide
  rw [e5]; omega
theorem own_from {w : World} {b : Nat} {e : TypeId} {v : Value} {n : Nat} {xs : List Value} (h : w.ownsRow b e 1 v n xs) : ∀ k, v.ownBlock = some k → b ≤ k := by
  intro k hk
  rcases h.2 with ⟨rfl, _⟩ | ⟨g, cap, cur, rfl, hg, _⟩
  · simp [Value.ownBlock] at hk
  · simp [Value.ownBlock] at hk
    omega
theorem own_nil8 (w : World) (A : Array Value) : OwnA .u8 (w.alloc (.cells A 5)) w.heap.size (w.alloc (.cells A 5)).heap.size (some ⟨w.heap.size, 0, none⟩) [] := by
  refine .inr ⟨w.heap.size, A, 5, rfl, Nat.le_refl _, by simp, ?_, Nat.zero_le _, by simp⟩
  show (w.heap.push _)[w.heap.size]? = _
  simp
def putF : Nat → Int → List Int
  | 0, n => [n]
  | m + 1, n => if 127 < n then (n % 128 + 128) :: putF m (n / 128) else [n]
def putL (n : Int) : List Int := if inR n 0 2147483647 = true then putF 5 n else []
theorem putF_len : ∀ (m : Nat) (n : Int), (putF m n).length ≤ m + 1
  | 0, n => by simp [putF]
  | m + 1, n => by
    rw [putF]
    split
    · simp only [List.length_cons]
      have := putF_len m (n / 128)
      omega
    · simp
theorem putL_len (n : Int) : (putL n).length ≤ 6 := by
  unfold putL
  split
  · exact putF_len 5 n
  · simp
theorem putF_more {m : Nat} {n : Int} (h : 127 < n) : putF (m + 1) n = (n % 128 + 128) :: putF m (n / 128) := by rw [putF, if_pos h]
theorem putF_last {m : Nat} {n : Int} (h : ¬ 127 < n) : putF m n = [n] := by
  cases m with
  | zero => rfl
  | succ m => rw [putF, if_neg h]
theorem info8 : (Tryd.prog.info? 5).map (fun i => (i.zero, i.size, i.bytes)) = some (some (.int .u8 0), 1, 1) := by kernel_rfl
set_option maxHeartbeats 1000000 in
theorem sPutNum_any (n : Int) (w : World) : Calls Tryd.prog 25 #[.int .i64 n] w (RowOwn .u8 (putL n) w) := by
  cases h : inR n 0 2147483647
  · have hr : putL n = [] := by unfold putL; rw [if_neg (by simp [h])]
    rw [hr]; clear hr
    go_enter Tryd.func25, Tryd.ntmps25
    go_wp2_with (go_at_call 38; refine (l1In_any _ _ _ _).mono ?_; rintro e w' ⟨rfl, rfl⟩)
    go_ret
    exact ⟨some ⟨w.heap.size, 0, none⟩, 0, rfl, own_nil8 w _, bl_alloc _ _⟩
  · have hr : putL n = putF 5 n := by unfold putL; rw [if_pos h]
    rw [hr]; clear hr
    obtain ⟨h1, h2⟩ := (inR_iff _ _ _).1 h
    obtain ⟨i0, hi, hz0, hz1, hz2⟩ := info_parts info8
    have HI := Lib.hid hi; clear hi
    go_enter Tryd.func25, Tryd.ntmps25
    go_wp2_with (go_at_call 38; refine (l1In_any _ _ _ _).mono ?_; rintro e w' ⟨rfl, rfl⟩)
    go_loopw [0, 3] (fun q v wr => ∃ (m : Nat) (acc : List Int) (x : Int), acc.length + m = 5 ∧ q = .int .i64 x ∧ 0 ≤ x ∧ x ≤ 2147483647 ∧ x < 128 * 128 ^ m ∧ wr.ownsRow w.heap.size 5 1 v acc.length (acc.map (Value.int .u8)) ∧ Below w.heap.size w wr ∧ acc ++ putF m x = putF 5 n) (fun q _ _ => (intOf q).toNat)
    case atStart => exact ⟨5, [], n, by simp, rfl, h1, h2, lt_five h2, World.ownsRow_made (e := 5) (size := 1) w #[] 0 (Nat.le_refl _) (Nat.zero_le _) rfl, bl_alloc _ _, rfl⟩
    case round =>
      obtain ⟨m, acc, x, hm, rfl, hx0, hxb, hx1, hown, hB, hA⟩ := hrel
      have HA := Lib.hid hA; clear hA
      have HOWN := Lib.hid hown; clear hown
      have hal : acc.length ≤ 5 := by omega
      have HM := Lib.hid hm; clear hm
      by_cases hlt : 127 < x
      · have hmp : m ≠ 0 := by intro h; rw [h] at hx1; omega
        obtain ⟨m', rfl⟩ : ∃ m', m = m' + 1 := ⟨m - 1, by omega⟩
        have hx2 : x / 128 < 128 * 128 ^ m' := by rw [Int.pow_succ] at hx1; omega
        have HX2 := Lib.hid hx2; clear hx1 hx2 hmp
        have HS := Lib.hid (putF_more (m := m') hlt)
        go_wp2_with (at_builtin; refine wpList_append_own _ rfl _ _ 28 rfl w.heap.size 5 i0 (.int .u8 0) 1 1 Tryd.underlying28 HI.out hz0 hz1 hz2 rfl (by decide) _ _ _ rfl (HOWN.out.alloc _) ⟨wr.heap.size, 0, none⟩ 1 1 [.int .u8 (x % 128 + 128)] rfl rfl (cell_one_new _ _ _) (one8 _) (max8 hal) (byt8 hal) (base8 hB _) ?_)
        intro v' w1 hown' hgrow _
        have hB' : Below w.heap.size w w1 := (bl_al hB _).grown hgrow (by have := hB.size; simp; omega) (own_from HOWN.out)
        go_wp2
        go_roundw
        case rel => exact ⟨m', acc ++ [x % 128 + 128], x / 128, by have := HM.out; simp; omega, rfl, by omega, by omega, HX2.out, by have hown2 := hown'; simpa using hown2, hB', by rw [← HA.out, HS.out]; simp⟩
        case measure => simp [intOf]; omega
      · have HS := Lib.hid (putF_last (m := m) hlt)
        clear hx1
        go_wp2_with (at_builtin; refine wpList_append_own _ rfl _ _ 28 rfl w.heap.size 5 i0 (.int .u8 0) 1 1 Tryd.underlying28 HI.out hz0 hz1 hz2 rfl (by decide) _ _ _ rfl (HOWN.out.alloc _) ⟨wr.heap.size, 0, none⟩ 1 1 [.int .u8 (x)] rfl rfl (cell_one_new _ _ _) (one8 _) (max8 hal) (byt8 hal) (base8 hB _) ?_)
        intro v' w1 hown' hgrow _
        have hB' : Below w.heap.size w w1 := (bl_al hB _).grown hgrow (by have := hB.size; simp; omega) (own_from HOWN.out)
        have hfin : acc ++ [x] = putF 5 n := by rw [← HA.out, HS.out]
        have hown2 : w1.ownsRow w.heap.size 5 1 v' (putF 5 n).length ((putF 5 n).map (Value.int .u8)) := by rw [← hfin]; simpa using hown'
        obtain ⟨a', c', rfl, hoa⟩ := own_of_row (hi := w1.heap.size) hown2 rfl (Nat.le_refl _)
        clear hfin hown2 hown'
        go_wp2
        go_ret
        exact ⟨a', c', rfl, hoa, hB'⟩
set_option maxHeartbeats 1000000 in
theorem iPutNum_any (n : Int) (w : World) : Calls Tryd.prog 24 #[.int .i64 n] w (RowOwn .u8 (putL n) w) := by
  cases h : inR n 0 2147483647
  · have hr : putL n = [] := by unfold putL; rw [if_neg (by simp [h])]
    rw [hr]; clear hr
    go_enter Tryd.func24, Tryd.ntmps24
    go_wp2_with (go_at_call 39; refine (inRange_any _ _ _ _).mono ?_; rintro e w' ⟨rfl, rfl⟩)
    go_ret
    exact ⟨none, 0, rfl, own_none _ _ _ _, Below.refl _ _⟩
  · have hr : putL n = putF 5 n := by unfold putL; rw [if_pos h]
    rw [hr]; clear hr
    obtain ⟨h1, h2⟩ := (inR_iff _ _ _).1 h
    obtain ⟨i0, hi, hz0, hz1, hz2⟩ := info_parts info8
    have HI := Lib.hid hi; clear hi
    go_enter Tryd.func24, Tryd.ntmps24
    go_wp2_with (go_at_call 39; refine (inRange_any _ _ _ _).mono ?_; rintro e w' ⟨rfl, rfl⟩)
    go_loopw [0, 3] (fun q v wr => ∃ (m : Nat) (acc : List Int) (x : Int), acc.length + m = 5 ∧ q = .int .i64 x ∧ 0 ≤ x ∧ x ≤ 2147483647 ∧ x < 128 * 128 ^ m ∧ wr.ownsRow w.heap.size 5 1 v acc.length (acc.map (Value.int .u8)) ∧ Below w.heap.size w wr ∧ acc ++ putF m x = putF 5 n) (fun q _ _ => (intOf q).toNat)
    case atStart => exact ⟨5, [], n, by simp, rfl, h1, h2, lt_five h2, ⟨rfl, .inl ⟨rfl, rfl⟩⟩, Below.refl _ _, rfl⟩
    case round =>
      obtain ⟨m, acc, x, hm, rfl, hx0, hxb, hx1, hown, hB, hA⟩ := hrel
      have HA := Lib.hid hA; clear hA
      have HOWN := Lib.hid hown; clear hown
      have hal : acc.length ≤ 5 := by omega
      have HM := Lib.hid hm; clear hm
      by_cases hlt : 127 < x
      · have hmp : m ≠ 0 := by intro h; rw [h] at hx1; omega
        obtain ⟨m', rfl⟩ : ∃ m', m = m' + 1 := ⟨m - 1, by omega⟩
        have hx2 : x / 128 < 128 * 128 ^ m' := by rw [Int.pow_succ] at hx1; omega
        have HX2 := Lib.hid hx2; clear hx1 hx2 hmp
        have HS := Lib.hid (putF_more (m := m') hlt)
        go_wp2_with (at_builtin; refine wpList_append_own _ rfl _ _ 28 rfl w.heap.size 5 i0 (.int .u8 0) 1 1 Tryd.underlying28 HI.out hz0 hz1 hz2 rfl (by decide) _ _ _ rfl (HOWN.out.alloc _) ⟨wr.heap.size, 0, none⟩ 1 1 [.int .u8 (128 + x % 128)] rfl rfl (cell_one_new _ _ _) (one8 _) (max8 hal) (byt8 hal) (base8 hB _) ?_)
        intro v' w1 hown' hgrow _
        have hB' : Below w.heap.size w w1 := (bl_al hB _).grown hgrow (by have := hB.size; simp; omega) (own_from HOWN.out)
        go_wp2
        go_roundw
        case rel => exact ⟨m', acc ++ [x % 128 + 128], x / 128, by have := HM.out; simp; omega, rfl, by omega, by omega, HX2.out, by have hown2 := hown'; rw [Int.add_comm 128 (x % 128)] at hown2; simpa using hown2, hB', by rw [← HA.out, HS.out]; simp⟩
        case measure => simp [intOf]; omega
      · have HS := Lib.hid (putF_last (m := m) hlt)
        clear hx1
        go_wp2_with (at_builtin; refine wpList_append_own _ rfl _ _ 28 rfl w.heap.size 5 i0 (.int .u8 0) 1 1 Tryd.underlying28 HI.out hz0 hz1 hz2 rfl (by decide) _ _ _ rfl (HOWN.out.alloc _) ⟨wr.heap.size, 0, none⟩ 1 1 [.int .u8 (x)] rfl rfl (cell_one_new _ _ _) (one8 _) (max8 hal) (byt8 hal) (base8 hB _) ?_)
        intro v' w1 hown' hgrow _
        have hB' : Below w.heap.size w w1 := (bl_al hB _).grown hgrow (by have := hB.size; simp; omega) (own_from HOWN.out)
        have hfin : acc ++ [x] = putF 5 n := by rw [← HA.out, HS.out]
        have hown2 : w1.ownsRow w.heap.size 5 1 v' (putF 5 n).length ((putF 5 n).map (Value.int .u8)) := by rw [← hfin]; simpa using hown'
        obtain ⟨a', c', rfl, hoa⟩ := own_of_row (hi := w1.heap.size) hown2 rfl (Nat.le_refl _)
        clear hfin hown2 hown'
        go_wp2
        go_ret
        exact ⟨a', c', rfl, hoa, hB'⟩
end Go.Proofs.YtimjfcipkmcgmaaDoor
