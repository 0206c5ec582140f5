/-
  PROVED: contracts of the functions that copy, compare, mark and look over slices of numbers.
  CONDITIONS: none.
-/
import Derived.Test.YtmgdfefffgjddaaNums
import Derived.Deep.OwnRows
namespace Go.Proofs.Ytmgdfefffgjddaa
open Go.ChangeShapes Go.WideShapes Go.ChangeAt Go.RowKit
set_option linter.unusedVariables false

/-- at the address a lie the numbers zs, one behind the other -/
def RowAt (K : IntKind) (w : World) (a : Option Addr) (zs : List Int) : Prop := zs = [] ∨ ∃ b off, a = some ⟨b, off, none⟩ ∧ b < w.heap.size ∧ ∀ i, i < zs.length → w.cell? ⟨b, off + i, none⟩ = some (.int K (zs.getD i 0))
theorem RowAt.below {K : IntKind} {w w' : World} {a : Option Addr} {zs : List Int} (h : RowAt K w a zs) (hb : Below w.heap.size w w') : RowAt K w' a zs := by
  rcases h with h | ⟨b, off, ha, hl, hc⟩
  · exact .inl h
  · exact .inr ⟨b, off, ha, Nat.lt_of_lt_of_le hl hb.size, fun i hi => (hb.cell (p := ⟨b, off + i, none⟩) hl).trans (hc i hi)⟩
theorem RowAt.nil {K : IntKind} {w : World} {a : Option Addr} : RowAt K w a [] := .inl rfl
theorem IsRow.rowAt {K : IntKind} {w : World} {a : Option Addr} {len cap : Nat} {zs : List Int} (h : IsRow K w a len cap zs) : RowAt K w a (zs.take len) ∧ (zs.take len).length = len ∧ ∀ z ∈ zs.take len, (Lit.int K z).wf = true := by
  rcases h with ⟨rfl, rfl, rfl, rfl⟩ | ⟨x, rfl, hl, hm, hz, hcell, hwf⟩
  · exact ⟨.inl rfl, rfl, by simp⟩
  · refine ⟨?_, by rw [List.length_take]; omega, fun z hz => hwf z (List.mem_of_mem_take hz)⟩
    by_cases h0 : 0 < zs.length
    · obtain ⟨b, off, rfl, hc⟩ := ints_at hcell h0
      refine .inr ⟨b, off, rfl, World.block_lt_of_cell? w _ (hc 0 h0), fun i hi => ?_⟩
      rw [List.length_take] at hi
      rw [hc i (by omega)]
      congr 2
      rw [List.getD_eq_getElem?_getD, List.getD_eq_getElem?_getD, List.getElem?_take, if_pos (by omega)]
    · left
      rw [List.length_eq_zero_iff.1 (show zs.length = 0 by omega), List.take_nil]
def rowArr (K : IntKind) (zs : List Int) : Array Value := (zs.map (Value.int K)).toArray
theorem rowArr_get (K : IntKind) (zs : List Int) (i : Nat) (h : i < zs.length) : (rowArr K zs)[i]? = some (.int K (zs.getD i 0)) := by
  simp [rowArr, List.getElem?_eq_getElem h, List.getD_eq_getElem?_getD]
theorem rowAt_new (K : IntKind) (zs : List Int) (w : World) (E : TypeId) : RowAt K (w.alloc (.cells (rowArr K zs) E)) (some ⟨w.heap.size, 0, none⟩) zs := by
  refine .inr ⟨_, _, rfl, by simp, fun i hi => ?_⟩
  rw [Nat.zero_add, World.cell?_alloc_mark]
  exact rowArr_get K zs i hi
/-- j of the numbers are laid, the rest is nought -/
def mkArr (K : IntKind) (zs : List Int) (n j : Nat) : Array Value := ((zs.take j).map (Value.int K) ++ List.replicate (n - j) (Value.int K 0)).toArray
theorem mkArr_zero (K : IntKind) (zs : List Int) (n : Nat) : madeCells #[.int K 0] n = mkArr K zs n 0 := by
  apply Array.ext'
  apply List.ext_getElem
  · simp [madeCells, mkArr]
  · intro i h1 h2
    simp [madeCells, mkArr] at h1 ⊢
    rw [Nat.mod_one]
    rfl
theorem mkArr_get (K : IntKind) (zs : List Int) (n j : Nat) (hz : zs.length = n) (hj : j < n) : (mkArr K zs n j)[j]? = some (.int K 0) := by
  unfold mkArr
  rw [List.getElem?_toArray, List.getElem?_append_right (by simp; omega)]
  rw [List.getElem?_replicate, if_pos (by simp; omega)]
theorem mkArr_set (K : IntKind) (zs : List Int) (n j : Nat) (hz : zs.length = n) (hj : j < n) : (mkArr K zs n j).setIfInBounds j (.int K (zs.getD j 0)) = mkArr K zs n (j + 1) := by
  apply Array.ext'
  unfold mkArr
  simp only [List.setIfInBounds_toArray]
  have e1 : zs.take (j + 1) = zs.take j ++ [zs.getD j 0] := by
    rw [List.take_succ_eq_append_getElem (by omega)]
    simp [List.getD_eq_getElem?_getD, List.getElem?_eq_getElem (show j < zs.length by omega)]
  obtain ⟨m, hm⟩ : ∃ m, n - j = m + 1 := ⟨n - j - 1, by omega⟩
  rw [e1, hm, show n - (j + 1) = m from by omega, List.replicate_succ, List.set_append_right _ _ (by simp; omega)]
  simp [List.length_take, show min j zs.length = j from by omega]
theorem mkArr_full (K : IntKind) (zs : List Int) (n : Nat) (hz : zs.length = n) : mkArr K zs n n = rowArr K zs := by
  unfold mkArr rowArr
  rw [List.take_of_length_le (by omega), Nat.sub_self]
  simp
theorem take_eq_step {zs ys : List Int} {k : Nat} (h1 : k < zs.length) (h2 : k < ys.length) (he : zs.take k = ys.take k) (hk : zs.getD k 0 = ys.getD k 0) : zs.take (k + 1) = ys.take (k + 1) := by
  rw [List.take_succ_eq_append_getElem h1, List.take_succ_eq_append_getElem h2, he]
  simp [List.getD_eq_getElem?_getD, List.getElem?_eq_getElem h1, List.getElem?_eq_getElem h2] at hk
  rw [hk]
theorem ne_of_getD {zs ys : List Int} {k : Nat} (hk : ¬ zs.getD k 0 = ys.getD k 0) : (zs == ys) = false := by
  rw [beq_eq_false_iff_ne]
  intro h
  exact hk (by rw [h])
theorem drop_getD {zs : List Int} {k : Nat} (h : k < zs.length) : zs.drop k = zs.getD k 0 :: zs.drop (k + 1) := by
  rw [List.drop_eq_getElem_cons h]
  simp [List.getD_eq_getElem?_getD, List.getElem?_eq_getElem h]
theorem getD_mem {zs : List Int} {k : Nat} (h : k < zs.length) : zs.getD k 0 ∈ zs := by
  simp [List.getD_eq_getElem?_getD, List.getElem?_eq_getElem h]
theorem infoByte : (Try.prog.info? 5).map (fun i => (i.zero, i.size, i.bytes)) = some (some (.int .u8 0), 1, 1) := by kernel_rfl
set_option maxHeartbeats 400000 in
theorem toByteS_eq (a : Option Addr) (n cap : Nat) (zs : List Int) (w : World) (hz : zs.length = n) (hn : n ≤ 1048576) (ha : RowAt .u8 w a zs) :
    Calls Try.prog 14 #[.slice a n cap] w fun e w' => e = .returned (.slice (some ⟨w.heap.size, 0, none⟩) n n) ∧ w.alloc (.cells (rowArr .u8 zs) 5) = w' := by
  have hmk := run_make_row' (P := Try.prog) 22 5 (.int .u8 0) 1 Try.underlying22 infoByte rfl .i64 .i64 n (by omega) (by omega)
  rw [mkArr_zero .u8 zs n] at hmk
  have HZ := Lib.hid hz; clear hz
  have HE := Lib.hid (mkArr_full .u8 zs n HZ.out)
  by_cases h0 : n = 0
  · subst h0
    have hmk0 : ∀ w : World, (Instr.makeSlice 22 (.int .i64 0) (.int .i64 0)).run Try.prog w = .ok (.slice (some ⟨w.heap.size, 0, none⟩) 0 0) (w.alloc (.cells (mkArr .u8 zs 0 0) 5)) := fun w => hmk w
    clear hmk
    rw [← HE.out]
    generalize mkArr .u8 zs 0 0 = A0 at *
    clear HE
    go_enter Try.func14, Try.ntmps14
    go_wp2
    go_loopw [4] (fun i wr => i = .int .i64 0 ∧ wr = w.alloc (.cells A0 5)) (fun _ _ => 0)
    case atStart => exact ⟨rfl, rfl⟩
    case round =>
      obtain ⟨rfl, rfl⟩ := hrel
      go_wp2
      go_ret
      exact ⟨rfl, rfl⟩
  · rcases ha with h | ⟨b, off, rfl, hb, hc⟩
    · exfalso; rw [h] at HZ; exact h0 HZ.out.symm
    · have HC := Lib.hid hc; clear hc
      rw [← HE.out]
      go_enter Try.func14, Try.ntmps14
      go_wp2
      go_loopw [4] (fun i wr => ∃ j : Nat, j ≤ n ∧ i = .int .i64 j ∧ wr = w.alloc (.cells (mkArr .u8 zs n j) 5)) (fun i _ => n - (intOf i).toNat)
      case atStart => exact ⟨0, by omega, rfl, rfl⟩
      case round =>
        obtain ⟨j, hj, rfl, rfl⟩ := hrel
        by_cases hlt : j < n
        · have hci : (w.alloc (.cells (mkArr .u8 zs n j) 5)).cell? ⟨b, off + j, none⟩ = some (.int .u8 (zs.getD j 0)) := ((bl_alloc w _).cell (p := ⟨b, off + j, none⟩) hb).trans (HC.out j (by rw [HZ.out]; exact hlt))
          have hA := mkArr_get .u8 zs n j HZ.out hlt
          have HS := Lib.hid (mkArr_set .u8 zs n j HZ.out hlt)
          generalize mkArr .u8 zs n j = Aj at *
          clear hmk HE
          go_wp2
          go_roundw
          case rel => exact ⟨j + 1, by omega, by go_num, by rw [← HS.out, List.getD_eq_getElem?_getD]⟩
          case measure => simp [intOf]; omega
        · obtain rfl : j = n := by omega
          go_wp2
          go_ret
          exact ⟨rfl, rfl⟩
theorem toByteS_any (a : Option Addr) (n cap : Nat) (zs : List Int) (w : World) (hz : zs.length = n) (hn : n ≤ 1048576) (ha : RowAt .u8 w a zs) :
    Calls Try.prog 14 #[.slice a n cap] w fun e w' => e = .returned (.slice (some ⟨w.heap.size, 0, none⟩) n n) ∧ RowAt .u8 w' (some ⟨w.heap.size, 0, none⟩) zs ∧ Below w.heap.size w w' :=
  (toByteS_eq a n cap zs w hz hn ha).mono fun e w' h => ⟨h.1, by rw [← h.2]; exact rowAt_new _ _ _ _, by rw [← h.2]; exact bl_alloc _ _⟩
set_option maxHeartbeats 400000 in
theorem eqByteS_any (a a' : Option Addr) (n m cap cap' : Nat) (zs ys : List Int) (w : World) (hz : zs.length = n) (hy : ys.length = m) (hn : n ≤ 1048576) (hm : m ≤ 1048576) (ha : RowAt .u8 w a zs) (ha' : RowAt .u8 w a' ys) :
    Calls Try.prog 16 #[.slice a n cap, .slice a' m cap'] w fun e w' => e = .returned (.bool (zs == ys)) ∧ Below w.heap.size w w' := by
  have HZ := Lib.hid hz; clear hz
  have HY := Lib.hid hy; clear hy
  by_cases hnm : n = m
  · subst hnm
    by_cases h0 : n = 0
    · subst h0
      have he : (zs == ys) = true := by rw [List.length_eq_zero_iff.1 HZ.out, List.length_eq_zero_iff.1 HY.out]; rfl
      rw [he]; clear he
      go_enter Try.func16, Try.ntmps16
      go_wp2
      go_loop [5] (fun i => i = .int .i64 0) (fun _ => 0)
      case atStart => rfl
      case round =>
        obtain rfl := hrel
        go_wp2
        go_ret
        exact ⟨rfl, Below.refl _ _⟩
    · rcases ha with h | ⟨b, off, rfl, hb, hc⟩
      · exfalso; rw [h] at HZ; exact h0 HZ.out.symm
      · rcases ha' with h | ⟨b', off', rfl, hb', hc'⟩
        · exfalso; rw [h] at HY; exact h0 HY.out.symm
        · have HC := Lib.hid hc; clear hc
          have HC' := Lib.hid hc'; clear hc'
          go_enter Try.func16, Try.ntmps16
          go_wp2
          go_loopw [5] (fun i wr => ∃ j : Nat, j ≤ n ∧ i = .int .i64 j ∧ zs.take j = ys.take j ∧ Below w.heap.size w wr) (fun i _ => n - (intOf i).toNat)
          case atStart => exact ⟨0, by omega, rfl, rfl, Below.refl _ _⟩
          case round =>
            obtain ⟨j, hj, rfl, ht, hB⟩ := hrel
            have HT := Lib.hid ht; clear ht
            by_cases hlt : j < n
            · have hci : wr.cell? ⟨b, off + j, none⟩ = some (.int .u8 (zs.getD j 0)) := (hB.cell (p := ⟨b, off + j, none⟩) hb).trans (HC.out j (by rw [HZ.out]; exact hlt))
              have hci' : wr.cell? ⟨b', off' + j, none⟩ = some (.int .u8 (ys.getD j 0)) := (hB.cell (p := ⟨b', off' + j, none⟩) hb').trans (HC'.out j (by rw [HY.out]; exact hlt))
              have hi1 : (j : Int) < (n : Int) := by omega
              have hi0 : (0 : Int) ≤ (j : Int) := by omega
              by_cases he : zs.getD j 0 = ys.getD j 0
              · have HS := Lib.hid (take_eq_step (by rw [HZ.out]; exact hlt) (by rw [HY.out]; exact hlt) HT.out he)
                have he' : (zs.getD j 0 != ys.getD j 0) = false := by rw [he]; simp
                generalize zs.getD j 0 = x at *
                generalize ys.getD j 0 = y at *
                clear he
                go_wp2_with fail
                go_quiet (fail)
                go_wp2
                go_roundw
                case rel => exact ⟨j + 1, by omega, by go_num, HS.out, bl_step hB (bl_drewN _ _)⟩
                case measure => simp [intOf]; omega
              · have HN := Lib.hid (ne_of_getD he)
                have he' : (zs.getD j 0 != ys.getD j 0) = true := by rw [bne_iff_ne]; exact he
                generalize zs.getD j 0 = x at *
                generalize ys.getD j 0 = y at *
                clear he
                go_wp2_with fail
                go_quiet (fail)
                go_wp2
                go_ret
                exact ⟨ret_bool HN.out.symm, bl_step hB (bl_drewN _ _)⟩
            · have he : (zs == ys) = true := by
                rw [beq_iff_eq]
                have := HT.out
                rwa [List.take_of_length_le (by rw [HZ.out]; omega), List.take_of_length_le (by rw [HY.out]; omega)] at this
              have HN := Lib.hid he; clear he
              go_wp2
              go_ret
              exact ⟨ret_bool HN.out.symm, hB⟩
  · have he : (zs == ys) = false := by
      rw [beq_eq_false_iff_ne]
      intro h
      exact hnm (by rw [← HZ.out, ← HY.out, h])
    rw [he]; clear he
    have hnm' : ((n : Int) != (m : Int)) = true := by rw [bne_iff_ne]; omega
    go_enter Try.func16, Try.ntmps16
    go_wp2
    go_ret
    exact ⟨rfl, Below.refl _ _⟩
theorem infoInt : (Try.prog.info? 3).map (fun i => (i.zero, i.size, i.bytes)) = some (some (.int .i64 0), 1, 8) := by kernel_rfl
set_option maxHeartbeats 400000 in
theorem toIntS_eq (a : Option Addr) (n cap : Nat) (zs : List Int) (w : World) (hz : zs.length = n) (hn : n ≤ 1048576) (ha : RowAt .i64 w a zs) :
    Calls Try.prog 18 #[.slice a n cap] w fun e w' => e = .returned (.slice (some ⟨w.heap.size, 0, none⟩) n n) ∧ w.alloc (.cells (rowArr .i64 zs) 3) = w' := by
  have hmk := run_make_row' (P := Try.prog) 27 3 (.int .i64 0) 8 Try.underlying27 infoInt rfl .i64 .i64 n (by omega) (by omega)
  rw [mkArr_zero .i64 zs n] at hmk
  have HZ := Lib.hid hz; clear hz
  have HE := Lib.hid (mkArr_full .i64 zs n HZ.out)
  by_cases h0 : n = 0
  · subst h0
    have hmk0 : ∀ w : World, (Instr.makeSlice 27 (.int .i64 0) (.int .i64 0)).run Try.prog w = .ok (.slice (some ⟨w.heap.size, 0, none⟩) 0 0) (w.alloc (.cells (mkArr .i64 zs 0 0) 3)) := fun w => hmk w
    clear hmk
    rw [← HE.out]
    generalize mkArr .i64 zs 0 0 = A0 at *
    clear HE
    go_enter Try.func18, Try.ntmps18
    go_wp2
    go_loopw [4] (fun i wr => i = .int .i64 0 ∧ wr = w.alloc (.cells A0 3)) (fun _ _ => 0)
    case atStart => exact ⟨rfl, rfl⟩
    case round =>
      obtain ⟨rfl, rfl⟩ := hrel
      go_wp2
      go_ret
      exact ⟨rfl, rfl⟩
  · rcases ha with h | ⟨b, off, rfl, hb, hc⟩
    · exfalso; rw [h] at HZ; exact h0 HZ.out.symm
    · have HC := Lib.hid hc; clear hc
      rw [← HE.out]
      go_enter Try.func18, Try.ntmps18
      go_wp2
      go_loopw [4] (fun i wr => ∃ j : Nat, j ≤ n ∧ i = .int .i64 j ∧ wr = w.alloc (.cells (mkArr .i64 zs n j) 3)) (fun i _ => n - (intOf i).toNat)
      case atStart => exact ⟨0, by omega, rfl, rfl⟩
      case round =>
        obtain ⟨j, hj, rfl, rfl⟩ := hrel
        by_cases hlt : j < n
        · have hci : (w.alloc (.cells (mkArr .i64 zs n j) 3)).cell? ⟨b, off + j, none⟩ = some (.int .i64 (zs.getD j 0)) := ((bl_alloc w _).cell (p := ⟨b, off + j, none⟩) hb).trans (HC.out j (by rw [HZ.out]; exact hlt))
          have hA := mkArr_get .i64 zs n j HZ.out hlt
          have HS := Lib.hid (mkArr_set .i64 zs n j HZ.out hlt)
          generalize mkArr .i64 zs n j = Aj at *
          clear hmk HE
          go_wp2
          go_roundw
          case rel => exact ⟨j + 1, by omega, by go_num, by rw [← HS.out, List.getD_eq_getElem?_getD]⟩
          case measure => simp [intOf]; omega
        · obtain rfl : j = n := by omega
          go_wp2
          go_ret
          exact ⟨rfl, rfl⟩
theorem toIntS_any (a : Option Addr) (n cap : Nat) (zs : List Int) (w : World) (hz : zs.length = n) (hn : n ≤ 1048576) (ha : RowAt .i64 w a zs) :
    Calls Try.prog 18 #[.slice a n cap] w fun e w' => e = .returned (.slice (some ⟨w.heap.size, 0, none⟩) n n) ∧ RowAt .i64 w' (some ⟨w.heap.size, 0, none⟩) zs ∧ Below w.heap.size w w' :=
  (toIntS_eq a n cap zs w hz hn ha).mono fun e w' h => ⟨h.1, by rw [← h.2]; exact rowAt_new _ _ _ _, by rw [← h.2]; exact bl_alloc _ _⟩
set_option maxHeartbeats 400000 in
theorem eqIntS_any (a a' : Option Addr) (n m cap cap' : Nat) (zs ys : List Int) (w : World) (hz : zs.length = n) (hy : ys.length = m) (hn : n ≤ 1048576) (hm : m ≤ 1048576) (ha : RowAt .i64 w a zs) (ha' : RowAt .i64 w a' ys) :
    Calls Try.prog 20 #[.slice a n cap, .slice a' m cap'] w fun e w' => e = .returned (.bool (zs == ys)) ∧ Below w.heap.size w w' := by
  have HZ := Lib.hid hz; clear hz
  have HY := Lib.hid hy; clear hy
  by_cases hnm : n = m
  · subst hnm
    by_cases h0 : n = 0
    · subst h0
      have he : (zs == ys) = true := by rw [List.length_eq_zero_iff.1 HZ.out, List.length_eq_zero_iff.1 HY.out]; rfl
      rw [he]; clear he
      go_enter Try.func20, Try.ntmps20
      go_wp2
      go_loop [5] (fun i => i = .int .i64 0) (fun _ => 0)
      case atStart => rfl
      case round =>
        obtain rfl := hrel
        go_wp2
        go_ret
        exact ⟨rfl, Below.refl _ _⟩
    · rcases ha with h | ⟨b, off, rfl, hb, hc⟩
      · exfalso; rw [h] at HZ; exact h0 HZ.out.symm
      · rcases ha' with h | ⟨b', off', rfl, hb', hc'⟩
        · exfalso; rw [h] at HY; exact h0 HY.out.symm
        · have HC := Lib.hid hc; clear hc
          have HC' := Lib.hid hc'; clear hc'
          go_enter Try.func20, Try.ntmps20
          go_wp2
          go_loopw [5] (fun i wr => ∃ j : Nat, j ≤ n ∧ i = .int .i64 j ∧ zs.take j = ys.take j ∧ Below w.heap.size w wr) (fun i _ => n - (intOf i).toNat)
          case atStart => exact ⟨0, by omega, rfl, rfl, Below.refl _ _⟩
          case round =>
            obtain ⟨j, hj, rfl, ht, hB⟩ := hrel
            have HT := Lib.hid ht; clear ht
            by_cases hlt : j < n
            · have hci : wr.cell? ⟨b, off + j, none⟩ = some (.int .i64 (zs.getD j 0)) := (hB.cell (p := ⟨b, off + j, none⟩) hb).trans (HC.out j (by rw [HZ.out]; exact hlt))
              have hci' : wr.cell? ⟨b', off' + j, none⟩ = some (.int .i64 (ys.getD j 0)) := (hB.cell (p := ⟨b', off' + j, none⟩) hb').trans (HC'.out j (by rw [HY.out]; exact hlt))
              have hi1 : (j : Int) < (n : Int) := by omega
              have hi0 : (0 : Int) ≤ (j : Int) := by omega
              by_cases he : zs.getD j 0 = ys.getD j 0
              · have HS := Lib.hid (take_eq_step (by rw [HZ.out]; exact hlt) (by rw [HY.out]; exact hlt) HT.out he)
                have he' : (zs.getD j 0 != ys.getD j 0) = false := by rw [he]; simp
                generalize zs.getD j 0 = x at *
                generalize ys.getD j 0 = y at *
                clear he
                go_wp2_with fail
                go_quiet (fail)
                go_wp2
                go_roundw
                case rel => exact ⟨j + 1, by omega, by go_num, HS.out, bl_step hB (bl_drewN _ _)⟩
                case measure => simp [intOf]; omega
              · have HN := Lib.hid (ne_of_getD he)
                have he' : (zs.getD j 0 != ys.getD j 0) = true := by rw [bne_iff_ne]; exact he
                generalize zs.getD j 0 = x at *
                generalize ys.getD j 0 = y at *
                clear he
                go_wp2_with fail
                go_quiet (fail)
                go_wp2
                go_ret
                exact ⟨ret_bool HN.out.symm, bl_step hB (bl_drewN _ _)⟩
            · have he : (zs == ys) = true := by
                rw [beq_iff_eq]
                have := HT.out
                rwa [List.take_of_length_le (by rw [HZ.out]; omega), List.take_of_length_le (by rw [HY.out]; omega)] at this
              have HN := Lib.hid he; clear he
              go_wp2
              go_ret
              exact ⟨ret_bool HN.out.symm, hB⟩
  · have he : (zs == ys) = false := by
      rw [beq_eq_false_iff_ne]
      intro h
      exact hnm (by rw [← HZ.out, ← HY.out, h])
    rw [he]; clear he
    have hnm' : ((n : Int) != (m : Int)) = true := by rw [bne_iff_ne]; omega
    go_enter Try.func20, Try.ntmps20
    go_wp2
    go_ret
    exact ⟨rfl, Below.refl _ _⟩
end Go.Proofs.Ytmgdfefffgjddaa
