/-
  PROVED: contracts of the comparing of whole numbers and of slices of them.
  CONDITIONS: none.
-/
import Derived.Test.YtmgdfefffgjddaaRom2
namespace Go.Proofs.Ytmgdfefffgjddaa
open Go.ChangeShapes Go.WideShapes Go.ChangeAt Go.RowKit
set_option linter.unusedVariables false
theorem take_next {α : Type} {l m : List α} {j : Nat} (h1 : j < l.length) (h2 : j < m.length) (ht : l.take j = m.take j) (he : l[j] = m[j]) : l.take (j + 1) = m.take (j + 1) := by
  rw [List.take_succ_eq_append_getElem h1, List.take_succ_eq_append_getElem h2, ht, he]
theorem two_cells {w : World} {b : Nat} {c0 c1 : Value} (h : BoxAt w b #[c0, c1]) : w.cell? ⟨b, 0, none⟩ = some c0 ∧ w.cell? ⟨b, 1, none⟩ = some c1 := ⟨h.cell 0, h.cell 1⟩
theorem two_boxes (w : World) (A B : Array Value) (t : TypeId) : BoxAt ((w.alloc (.cells A t)).alloc (.cells B t)) w.heap.size A ∧ BoxAt ((w.alloc (.cells A t)).alloc (.cells B t)) (w.heap.size + 1) B :=
  ⟨(BoxAt.new w A t).below (bl_alloc _ _), BoxAt.new_at _ _ _ (by simp)⟩
set_option maxHeartbeats 2000000 in
theorem eqWholeS_refl (a a' : Option Addr) (n cap cap' : Nat) (pl : List (Bool × List Int)) (w : World) (hz : pl.length = n) (hn : n ≤ 1048576) (hp : ∀ p ∈ pl, p.2.length ≤ 1048576) (ha : WholesAt w a pl) (ha' : WholesAt w a' pl) :
    Calls Try.prog 71 #[.slice a n cap, .slice a' n cap'] w fun e w' => e = .returned (.bool true) ∧ Below w.heap.size w w' := by
  have HZ := Lib.hid hz; clear hz
  have HP := Lib.hid hp; clear hp
  by_cases h0 : n = 0
  · subst h0
    go_enter Try.func71, Try.ntmps71
    go_wp2
    go_loop [5] (fun i => i = .int .i64 0) (fun _ => 0)
    case atStart => rfl
    case round =>
      obtain rfl := hrel
      go_wp2
      go_ret
      exact ⟨rfl, Below.refl _ _⟩
  · rcases ha with h | ⟨b, off, rfl, hb, hc⟩
    · exfalso; rw [h] at HZ; exact h0 HZ.out.symm
    · rcases ha' with h | ⟨b', off', rfl, hb', hc'⟩
      · exfalso; rw [h] at HZ; exact h0 HZ.out.symm
      · have HC := Lib.hid hc; clear hc
        have HC' := Lib.hid hc'; clear hc'
        go_enter Try.func71, Try.ntmps71
        go_wp2
        go_loopw [5] (fun i wr => ∃ j : Nat, j ≤ n ∧ i = .int .i64 j ∧ Below w.heap.size w wr) (fun i _ => n - (intOf i).toNat)
        case atStart => exact ⟨0, by omega, rfl, Below.refl _ _⟩
        case round =>
          obtain ⟨j, hj, rfl, hB⟩ := hrel
          by_cases hlt : j < n
          · have hlz : j < pl.length := by rw [HZ.out]; exact hlt
            obtain ⟨x, c, p0, p1, hr⟩ := HC.out j hlz
            obtain ⟨x', c', p0', p1', hr'⟩ := HC'.out j hlz
            have hbr : b < wr.heap.size := Nat.lt_of_lt_of_le hb hB.size
            have hbr' : b' < wr.heap.size := Nat.lt_of_lt_of_le hb' hB.size
            have hx0 : (0 : Int) ≤ (j : Int) := by omega
            have hx1 : (j : Int) < (n : Int) := by omega
            have KK : ∀ W : World, Below wr.heap.size wr W → W.cell? ⟨b, off + j * 2, none⟩ = some (.bool pl[j].1) ∧ W.cell? ⟨b, off + j * 2 + 1, none⟩ = some (.slice x pl[j].2.length c) ∧ W.cell? ⟨b', off' + j * 2, none⟩ = some (.bool pl[j].1) ∧ W.cell? ⟨b', off' + j * 2 + 1, none⟩ = some (.slice x' pl[j].2.length c') := fun W hW =>
              ⟨((hW.cell (p := ⟨b, off + j * 2, none⟩) hbr).trans ((hB.cell (p := ⟨b, off + j * 2, none⟩) hb).trans p0)), ((hW.cell (p := ⟨b, off + j * 2 + 1, none⟩) hbr).trans ((hB.cell (p := ⟨b, off + j * 2 + 1, none⟩) hb).trans p1)),
               ((hW.cell (p := ⟨b', off' + j * 2, none⟩) hbr').trans ((hB.cell (p := ⟨b', off' + j * 2, none⟩) hb').trans p0')), ((hW.cell (p := ⟨b', off' + j * 2 + 1, none⟩) hbr').trans ((hB.cell (p := ⟨b', off' + j * 2 + 1, none⟩) hb').trans p1'))⟩
            have HK := Lib.hid KK
            have HEQ := Lib.hid (eqWhole_eq pl[j].1 x x' pl[j].2.length c c' pl[j].2 wr.drew rfl (HP.out _ (List.getElem_mem hlz)) ((hr.below hB).below (bl_drew _)) ((hr'.below hB).below (bl_drew _)))
            clear p0 p1 p0' p1' hr hr' KK
            generalize pl[j] = p at *
            have k0 := HK.out wr.drew (bl_drew wr)
            go_wp2_with fail
            go_region_held3 (fun w' => w'.cell? ⟨b, off + j * 2, none⟩ = some (.bool p.1) ∧ w'.cell? ⟨b, off + j * 2 + 1, none⟩ = some (.slice x p.2.length c) ∧ w'.cell? ⟨b', off' + j * 2, none⟩ = some (.bool p.1) ∧ w'.cell? ⟨b', off' + j * 2 + 1, none⟩ = some (.slice x' p.2.length c'))
              (first | with_reducible exact k1 | with_reducible exact k0)
              (first | (go_at_call 31; refine HEQ.out.mono ?_; rintro e w2 ⟨rfl, hb2⟩; have hbF := bl_step (bl_drew wr) hb2; have k1 := HK.out w2 hbF))
            go_wp2
            go_roundw
            case rel => exact ⟨j + 1, by omega, by go_num, bl_step hB hbF⟩
            case measure => simp [intOf]; omega
          · obtain rfl : j = n := by omega
            go_wp2_with fail
            go_ret
            exact ⟨rfl, hB⟩
set_option maxHeartbeats 1000000 in
theorem sameInts_any (a a' : Option Addr) (n m cap cap' : Nat) (zs ys : List Int) (w : World) (hz : zs.length = n) (hy : ys.length = m) (hn : n ≤ 1048576) (hm : m ≤ 1048576) (ha : RowAt .i64 w a zs) (ha' : RowAt .i64 w a' ys) :
    Calls Try.prog 73 #[.slice a n cap, .slice a' m cap'] w fun e w' => e = .returned (.bool (zs == ys)) ∧ Below w.heap.size w w' := by
  have HZ := Lib.hid hz; clear hz
  have HY := Lib.hid hy; clear hy
  by_cases hnm : n = m
  · subst hnm
    by_cases h0 : n = 0
    · subst h0
      have he : (zs == ys) = true := by rw [List.length_eq_zero_iff.1 HZ.out, List.length_eq_zero_iff.1 HY.out]; rfl
      rw [he]; clear he
      go_enter Try.func73, Try.ntmps73
      go_wp2
      go_loop [13] (fun i => i = .int .i64 0) (fun _ => 0)
      case atStart => rfl
      case round =>
        obtain rfl := hrel
        go_wp2
        go_ret
        exact ⟨rfl, Below.refl _ _⟩
    · rcases ha with h | ⟨b, off, rfl, hb, hc⟩
      · exfalso; rw [h] at HZ; exact h0 HZ.out.symm
      · rcases ha' with h | ⟨b', off', rfl, hb', hc'⟩
        · exfalso; rw [h] at HY; exact h0 HY.out.symm
        · have HC := Lib.hid hc; clear hc
          have HC' := Lib.hid hc'; clear hc'
          go_enter Try.func73, Try.ntmps73
          go_wp2
          go_loopw [13] (fun i wr => ∃ j : Nat, j ≤ n ∧ i = .int .i64 j ∧ zs.take j = ys.take j ∧ Below w.heap.size w wr) (fun i _ => n - (intOf i).toNat)
          case atStart => exact ⟨0, by omega, rfl, rfl, Below.refl _ _⟩
          case round =>
            obtain ⟨j, hj, rfl, ht, hB⟩ := hrel
            have HT := Lib.hid ht; clear ht
            by_cases hlt : j < n
            · have hci : wr.cell? ⟨b, off + j, none⟩ = some (.int .i64 (zs.getD j 0)) := (hB.cell (p := ⟨b, off + j, none⟩) hb).trans (HC.out j (by rw [HZ.out]; exact hlt))
              have hci' : wr.cell? ⟨b', off' + j, none⟩ = some (.int .i64 (ys.getD j 0)) := (hB.cell (p := ⟨b', off' + j, none⟩) hb').trans (HC'.out j (by rw [HY.out]; exact hlt))
              have hi1 : (j : Int) < (n : Int) := by omega
              have hi0 : (0 : Int) ≤ (j : Int) := by omega
              by_cases he : zs.getD j 0 = ys.getD j 0
              · have HS := Lib.hid (take_eq_step (by rw [HZ.out]; exact hlt) (by rw [HY.out]; exact hlt) HT.out he)
                have he' : (zs.getD j 0 != ys.getD j 0) = false := by rw [he]; simp
                generalize zs.getD j 0 = p at *
                generalize ys.getD j 0 = q at *
                clear he
                go_wp2_with fail
                go_quiet (fail)
                go_wp2
                go_roundw
                case rel => exact ⟨j + 1, by omega, by go_num, HS.out, bl_step hB (bl_drewN _ _)⟩
                case measure => simp [intOf]; omega
              · have HN := Lib.hid (ne_of_getD he)
                have he' : (zs.getD j 0 != ys.getD j 0) = true := by rw [bne_iff_ne]; exact he
                generalize zs.getD j 0 = p at *
                generalize ys.getD j 0 = q at *
                clear he
                go_wp2_with fail
                go_quiet (fail)
                go_wp2
                go_ret
                exact ⟨ret_bool HN.out.symm, bl_step hB (bl_drewN _ _)⟩
            · have he : (zs == ys) = true := by
                rw [beq_iff_eq]
                have := HT.out
                rwa [List.take_of_length_le (by rw [HZ.out]; omega), List.take_of_length_le (by rw [HY.out]; omega)] at this
              have HN := Lib.hid he; clear he
              go_wp2
              go_ret
              exact ⟨ret_bool HN.out.symm, hB⟩
  · have he : (zs == ys) = false := by
      rw [beq_eq_false_iff_ne]
      intro h
      exact hnm (by rw [← HZ.out, ← HY.out, h])
    rw [he]; clear he
    have hnm' : ((n : Int) != (m : Int)) = true := by rw [bne_iff_ne]; omega
    go_enter Try.func73, Try.ntmps73
    go_wp2
    go_ret
    exact ⟨rfl, Below.refl _ _⟩
set_option maxHeartbeats 2000000 in
theorem l26Same_any (neg neg' : Bool) (a a' : Option Addr) (n m cap cap' : Nat) (zs ys : List Int) (w : World) (hz : zs.length = n) (hy : ys.length = m) (hn : n ≤ 1048576) (hm : m ≤ 1048576) (ha : RowAt .i64 w a zs) (ha' : RowAt .i64 w a' ys) :
    Calls Try.prog 67 #[.agg #[.bool neg, .slice a n cap], .agg #[.bool neg', .slice a' m cap']] w fun e w' => e = .returned (.bool (neg == neg' && zs == ys)) ∧ Below w.heap.size w w' := by
  have HZ := Lib.hid hz; clear hz
  have HY := Lib.hid hy; clear hy
  have hW0 : Below w.heap.size w ((w.alloc (.cells #[.bool neg, .slice a n cap] 41)).alloc (.cells #[.bool neg', .slice a' m cap'] 41)) := bl_al (bl_alloc _ _) _
  obtain ⟨X0, Y0⟩ := two_boxes w #[.bool neg, .slice a n cap] #[.bool neg', .slice a' m cap'] 41
  by_cases hs : neg = neg'
  · subst hs
    have hr : (neg == neg && zs == ys) = (zs == ys) := by simp
    rw [hr]; clear hr
    have hnn : (neg != neg) = false := by simp
    by_cases hnm : n = m
    · subst hnm
      by_cases h0 : n = 0
      · subst h0
        have he : (zs == ys) = true := by rw [List.length_eq_zero_iff.1 HZ.out, List.length_eq_zero_iff.1 HY.out]; rfl
        rw [he]; clear he X0 Y0
        go_enter Try.func67, Try.ntmps67
        go_wp2
        go_loop [5] (fun i => i = .int .i64 0) (fun _ => 0)
        case atStart => rfl
        case round =>
          obtain rfl := hrel
          go_wp2
          go_ret
          exact ⟨rfl, hW0⟩
      · rcases ha with h | ⟨b, off, rfl, hb, hc⟩
        · exfalso; rw [h] at HZ; exact h0 HZ.out.symm
        · rcases ha' with h | ⟨b', off', rfl, hb', hc'⟩
          · exfalso; rw [h] at HY; exact h0 HY.out.symm
          · have HC := Lib.hid hc; clear hc
            have HC' := Lib.hid hc'; clear hc'
            have HX0 := Lib.hid X0; clear X0
            have HY0 := Lib.hid Y0; clear Y0
            go_enter Try.func67, Try.ntmps67
            go_wp2
            go_loopw [5] (fun i wr => ∃ j : Nat, j ≤ n ∧ i = .int .i64 j ∧ zs.take j = ys.take j ∧ Below ((w.alloc (.cells #[.bool neg, .slice (some ⟨b, off, none⟩) n cap] 41)).alloc (.cells #[.bool neg, .slice (some ⟨b', off', none⟩) n cap'] 41)).heap.size ((w.alloc (.cells #[.bool neg, .slice (some ⟨b, off, none⟩) n cap] 41)).alloc (.cells #[.bool neg, .slice (some ⟨b', off', none⟩) n cap'] 41)) wr) (fun i _ => n - (intOf i).toNat)
            case atStart => exact ⟨0, by omega, rfl, rfl, Below.refl _ _⟩
            case round =>
              obtain ⟨j, hj, rfl, ht, hBB⟩ := hrel
              have HT := Lib.hid ht; clear ht
              have hB := bl_step hW0 hBB
              obtain ⟨x1, x2⟩ := two_cells (HX0.out.below hBB)
              obtain ⟨y1, y2⟩ := two_cells (HY0.out.below hBB)
              by_cases hlt : j < n
              · have hci : wr.cell? ⟨b, off + j, none⟩ = some (.int .i64 (zs.getD j 0)) := (hB.cell (p := ⟨b, off + j, none⟩) hb).trans (HC.out j (by rw [HZ.out]; exact hlt))
                have hci' : wr.cell? ⟨b', off' + j, none⟩ = some (.int .i64 (ys.getD j 0)) := (hB.cell (p := ⟨b', off' + j, none⟩) hb').trans (HC'.out j (by rw [HY.out]; exact hlt))
                have hi1 : (j : Int) < (n : Int) := by omega
                have hi0 : (0 : Int) ≤ (j : Int) := by omega
                by_cases he : zs.getD j 0 = ys.getD j 0
                · have HS := Lib.hid (take_eq_step (by rw [HZ.out]; exact hlt) (by rw [HY.out]; exact hlt) HT.out he)
                  have he' : (zs.getD j 0 != ys.getD j 0) = false := by rw [he]; simp
                  generalize zs.getD j 0 = p at *
                  generalize ys.getD j 0 = q at *
                  clear he
                  go_wp2_with fail
                  go_quiet (fail)
                  go_wp2
                  go_roundw
                  case rel => exact ⟨j + 1, by omega, by go_num, HS.out, bl_step hBB (bl_drewN _ _)⟩
                  case measure => simp [intOf]; omega
                · have HN := Lib.hid (ne_of_getD he)
                  have he' : (zs.getD j 0 != ys.getD j 0) = true := by rw [bne_iff_ne]; exact he
                  generalize zs.getD j 0 = p at *
                  generalize ys.getD j 0 = q at *
                  clear he
                  go_wp2_with fail
                  go_quiet (fail)
                  go_wp2
                  go_ret
                  exact ⟨ret_bool HN.out.symm, bl_step hB (bl_drewN _ _)⟩
              · have he : (zs == ys) = true := by
                  obtain rfl : j = n := by omega
                  have h := HT.out
                  rw [List.take_of_length_le (by rw [HZ.out]; exact Nat.le_refl _), List.take_of_length_le (by rw [HY.out]; exact Nat.le_refl _)] at h
                  rw [h]; simp
                have HE := Lib.hid he; clear he
                go_wp2_with fail
                go_ret
                exact ⟨ret_bool HE.out.symm, hB⟩
    · have he : (zs == ys) = false := by
        rw [beq_eq_false_iff_ne]
        intro h
        exact hnm (by rw [← HZ.out, ← HY.out, h])
      rw [he]; clear he X0 Y0
      have hne : ¬ ((n : Nat) : Int) = (m : Int) := by omega
      go_enter Try.func67, Try.ntmps67
      go_wp2
      go_ret
      exact ⟨rfl, hW0⟩
  · have hr : (neg == neg' && zs == ys) = false := by
      rw [beq_eq_false_iff_ne.2 hs]; rfl
    rw [hr]; clear hr X0 Y0
    rcases (show (neg = true ∧ neg' = false) ∨ (neg = false ∧ neg' = true) by cases neg <;> cases neg' <;> simp_all) with ⟨rfl, rfl⟩ | ⟨rfl, rfl⟩
    all_goals
      clear hs
      go_enter Try.func67, Try.ntmps67
      go_wp2
      go_ret
      exact ⟨rfl, hW0⟩
set_option maxHeartbeats 2000000 in
theorem sameWhole_any (neg neg' : Bool) (a a' : Option Addr) (n m cap cap' : Nat) (zs ys : List Int) (w : World) (hz : zs.length = n) (hy : ys.length = m) (hn : n ≤ 1048576) (hm : m ≤ 1048576) (ha : RowAt .i64 w a zs) (ha' : RowAt .i64 w a' ys) :
    Calls Try.prog 69 #[.agg #[.bool neg, .slice a n cap], .agg #[.bool neg', .slice a' m cap']] w fun e w' => e = .returned (.bool (neg == neg' && zs == ys)) ∧ Below w.heap.size w w' := by
  have hW0 : Below w.heap.size w ((w.alloc (.cells #[.bool neg, .slice a n cap] 41)).alloc (.cells #[.bool neg', .slice a' m cap'] 41)) := bl_al (bl_alloc _ _) _
  have HS := Lib.hid (sameInts_any a a' n m cap cap' zs ys _ hz hy hn hm (ha.below hW0) (ha'.below hW0))
  clear ha ha' hz hy
  by_cases hs : neg = neg'
  · subst hs
    have hr : (neg == neg && zs == ys) = (zs == ys) := by simp
    rw [hr]; clear hr
    have hnn : (neg == neg) = true := by simp
    go_enter Try.func69, Try.ntmps69
    go_wp2_with fail
    refine HS.out.mono ?_
    rintro e w1 ⟨rfl, hb1⟩
    go_wp2_with fail
    go_ret
    exact ⟨rfl, bl_step hW0 hb1⟩
  · have hr : (neg == neg' && zs == ys) = false := by rw [beq_eq_false_iff_ne.2 hs]; rfl
    rw [hr]; clear hr HS
    rcases (show (neg = true ∧ neg' = false) ∨ (neg = false ∧ neg' = true) by cases neg <;> cases neg' <;> simp_all) with ⟨rfl, rfl⟩ | ⟨rfl, rfl⟩
    all_goals
      clear hs
      go_enter Try.func69, Try.ntmps69
      go_wp2_with fail
      go_ret
      exact ⟨rfl, hW0⟩
end Go.Proofs.Ytmgdfefffgjddaa
