/-
  PROVED: contracts of the comparing of tables.
  CONDITIONS: none.
-/
import Derived.Test.YtmgdfefffgjddaaRom3
namespace Go.Proofs.Ytmgdfefffgjddaa
open Go.ChangeShapes Go.WideShapes Go.ChangeAt Go.RowKit
set_option linter.unusedVariables false
def eqW (p q : Bool × List Int) : Bool := p.1 == q.1 && p.2 == q.2
theorem eqW_iff (p q : Bool × List Int) : eqW p q = true ↔ p = q := by
  obtain ⟨a, b⟩ := p
  obtain ⟨c, d⟩ := q
  simp [eqW]
theorem five_box {w : World} {b : Nat} {c0 c1 c2 c3 c4 : Value} (h : BoxAt w b #[c0, c1, c2, c3, c4]) : w.cell? ⟨b, 0, none⟩ = some c0 ∧ w.cell? ⟨b, 1, none⟩ = some c1 ∧ w.cell? ⟨b, 2, none⟩ = some c2 ∧ w.cell? ⟨b, 3, none⟩ = some c3 ∧ w.cell? ⟨b, 4, none⟩ = some c4 := ⟨h.cell 0, h.cell 1, h.cell 2, h.cell 3, h.cell 4⟩
theorem wholes_end {pl ql : List (Bool × List Int)} {n : Nat} (h1 : pl.length = n) (h2 : ql.length = n) (h : pl.take n = ql.take n) : pl = ql := by
  rwa [List.take_of_length_le (Nat.le_of_eq h1), List.take_of_length_le (Nat.le_of_eq h2)] at h
set_option maxHeartbeats 2000000 in
theorem equalFunc_any (a a' : Option Addr) (n m cap cap' : Nat) (pl ql : List (Bool × List Int)) (w : World) (hz : pl.length = n) (hy : ql.length = m) (hn : n ≤ 1048576) (hm : m ≤ 1048576) (hp : ∀ p ∈ pl, p.2.length ≤ 1048576) (hq : ∀ p ∈ ql, p.2.length ≤ 1048576) (ha : WholesAt w a pl) (ha' : WholesAt w a' ql) :
    Calls Try.prog 70 #[.slice a n cap, .slice a' m cap', (.func (.func 69) #[] #[])] w fun e w' => e = .returned (.bool (decide (pl = ql))) ∧ Below w.heap.size w w' := by
  have HZ := Lib.hid hz; clear hz
  have HY := Lib.hid hy; clear hy
  have HP := Lib.hid hp; clear hp
  have HQ := Lib.hid hq; clear hq
  by_cases hnm : n = m
  · subst hnm
    by_cases h0 : n = 0
    · subst h0
      have he : decide (pl = ql) = true := by rw [List.length_eq_zero_iff.1 HZ.out, List.length_eq_zero_iff.1 HY.out]; rfl
      rw [he]; clear he
      go_enter Try.func70, Try.ntmps70
      go_wp2
      go_loop [17] (fun i => i = .int .i64 0) (fun _ => 0)
      case atStart => rfl
      case round =>
        obtain rfl := hrel
        go_wp2
        go_ret
        exact ⟨rfl, Below.refl _ _⟩
    · rcases ha with h | ⟨b, off, rfl, hb, hc⟩
      · exfalso; rw [h] at HZ; exact h0 HZ.out.symm
      · rcases ha' with h | ⟨b', off', rfl, hb', hc'⟩
        · exfalso; rw [h] at HY; exact h0 HY.out.symm
        · have HC := Lib.hid hc; clear hc
          have HC' := Lib.hid hc'; clear hc'
          go_enter Try.func70, Try.ntmps70
          go_wp2
          go_loopw [17] (fun i wr => ∃ j : Nat, j ≤ n ∧ i = .int .i64 j ∧ Hid (pl.take j = ql.take j) ∧ Below w.heap.size w wr) (fun i _ => n - (intOf i).toNat)
          case atStart => exact ⟨0, by omega, rfl, Lib.hid rfl, Below.refl _ _⟩
          case round =>
            obtain ⟨j, hj, rfl, HT, hB⟩ := hrel
            by_cases hlt : j < n
            · have hlz : j < pl.length := by rw [HZ.out]; exact hlt
              have hly : j < ql.length := by rw [HY.out]; exact hlt
              obtain ⟨x, c, p0, p1, hr⟩ := HC.out j hlz
              obtain ⟨x', c', p0', p1', hr'⟩ := HC'.out j hly
              have hx0 : (0 : Int) ≤ (j : Int) := by omega
              have hx1 : (j : Int) < (n : Int) := by omega
              have hbr : b < wr.heap.size := Nat.lt_of_lt_of_le hb hB.size
              have hbr' : b' < wr.heap.size := Nat.lt_of_lt_of_le hb' hB.size
              have q0 : wr.cell? ⟨b, off + j * 2, none⟩ = some (.bool pl[j].1) := (hB.cell (p := ⟨b, off + j * 2, none⟩) hb).trans p0
              have q1 : wr.cell? ⟨b, off + j * 2 + 1, none⟩ = some (.slice x pl[j].2.length c) := (hB.cell (p := ⟨b, off + j * 2 + 1, none⟩) hb).trans p1
              have q0' : ∀ o, (wr.alloc o).cell? ⟨b', off' + j * 2, none⟩ = some (.bool ql[j].1) := fun o => ((bl_alloc wr o).cell (p := ⟨b', off' + j * 2, none⟩) hbr').trans ((hB.cell (p := ⟨b', off' + j * 2, none⟩) hb').trans p0')
              have q1' : ∀ o, (wr.alloc o).cell? ⟨b', off' + j * 2 + 1, none⟩ = some (.slice x' ql[j].2.length c') := fun o => ((bl_alloc wr o).cell (p := ⟨b', off' + j * 2 + 1, none⟩) hbr').trans ((hB.cell (p := ⟨b', off' + j * 2 + 1, none⟩) hb').trans p1')
              have r0' := (hB.cell (p := ⟨b', off' + j * 2, none⟩) hb').trans p0'
              have r1' := (hB.cell (p := ⟨b', off' + j * 2 + 1, none⟩) hb').trans p1'
              have HSW := Lib.hid (fun (W : World) (hW : Below wr.heap.size wr W) => sameWhole_any pl[j].1 ql[j].1 x x' pl[j].2.length ql[j].2.length c c' pl[j].2 ql[j].2 W rfl rfl (HP.out _ (List.getElem_mem hlz)) (HQ.out _ (List.getElem_mem hly)) ((hr.below hB).below hW) ((hr'.below hB).below hW))
              have HEQ := Lib.hid (fun h : pl[j] = ql[j] => take_next hlz hly HT.out h)
              have HNE : Hid (¬ pl[j] = ql[j] → ¬ pl = ql) := by intro h e; subst e; exact h rfl
              have HWW := Lib.hid (eqW_iff pl[j] ql[j])
              have HWD : Hid (eqW pl[j] ql[j] = (pl[j].1 == ql[j].1 && pl[j].2 == ql[j].2)) := rfl
              rw [← HWD.out] at HSW
              clear p0 p1 p0' p1' hr hr' HWD
              generalize pl[j] = p at *
              generalize ql[j] = q at *
              cases hpq : eqW p q
              · rw [hpq] at HSW
                have HNN : Hid (decide (pl = ql) = false) := decide_eq_false (HNE.out (fun e => by rw [(HWW.out).2 e] at hpq; cases hpq))
                clear hpq q0' q1'
                go_wp2_with fail
                refine (HSW.out _ (bl_al (bl_alloc _ _) _)).mono ?_
                rintro e w2 ⟨rfl, hb2⟩
                go_wp2_with fail
                go_ret
                exact ⟨ret_bool HNN.out.symm, bl_step hB (bl_step (bl_al (bl_alloc _ _) _) hb2)⟩
              · rw [hpq] at HSW
                have HTN := Lib.hid (HEQ.out ((HWW.out).1 hpq))
                clear hpq q0' q1'
                go_wp2_with fail
                refine (HSW.out _ (bl_al (bl_alloc _ _) _)).mono ?_
                rintro e w2 ⟨rfl, hb2⟩
                go_wp2_with fail
                go_roundw
                case rel => exact ⟨j + 1, by omega, by go_num, HTN, bl_step hB (bl_step (bl_al (bl_alloc _ _) _) hb2)⟩
                case measure => simp [intOf]; omega
            · obtain rfl : j = n := by omega
              have HE : Hid (decide (pl = ql) = true) := decide_eq_true (wholes_end HZ.out HY.out HT.out)
              go_wp2_with fail
              go_ret
              exact ⟨ret_bool HE.out.symm, hB⟩
  · have he : decide (pl = ql) = false := decide_eq_false (fun h => hnm (by rw [← HZ.out, ← HY.out, h]))
    rw [he]; clear he
    have hne : ¬ ((n : Nat) : Int) = (m : Int) := by omega
    go_enter Try.func70, Try.ntmps70
    go_wp2
    go_ret
    exact ⟨rfl, Below.refl _ _⟩
def romB (P N P' N' : Int) (g g' : Bool) (pl ql : List (Bool × List Int)) (zs ys : List Int) : Bool := decide (P = P') && decide (N = N') && decide (pl = ql) && (g == g' && zs == ys)
theorem romB_no1 {P N P' N' : Int} {g g' : Bool} {pl ql : List (Bool × List Int)} {zs ys : List Int} (h : ¬ P = P') : romB P N P' N' g g' pl ql zs ys = false := by unfold romB; rw [decide_eq_false h]; rfl
theorem romB_no2 {P N P' N' : Int} {g g' : Bool} {pl ql : List (Bool × List Int)} {zs ys : List Int} (h : ¬ N = N') : romB P N P' N' g g' pl ql zs ys = false := by unfold romB; rw [decide_eq_false h]; cases decide (P = P') <;> rfl
theorem romB_no3 {P N P' N' : Int} {g g' : Bool} {pl ql : List (Bool × List Int)} {zs ys : List Int} (h : ¬ pl = ql) : romB P N P' N' g g' pl ql zs ys = false := by unfold romB; rw [decide_eq_false h]; cases decide (P = P') <;> cases decide (N = N') <;> rfl
theorem romB_no4 {P N P' N' : Int} {g g' : Bool} {pl ql : List (Bool × List Int)} {zs ys : List Int} (h : (g == g' && zs == ys) = false) : romB P N P' N' g g' pl ql zs ys = false := by unfold romB; rw [h]; simp
theorem romB_yes {P N P' N' : Int} {g g' : Bool} {pl ql : List (Bool × List Int)} {zs ys : List Int} (h1 : P = P') (h2 : N = N') (h4 : (g == g' && zs == ys) = true) : romB P N P' N' g g' pl ql zs ys = decide (pl = ql) := by unfold romB; rw [decide_eq_true h1, decide_eq_true h2, h4]; simp
set_option maxHeartbeats 4000000 in
theorem iRomSame_any (P N P' N' : Int) (a a' ga ga' : Option Addr) (n m c c' gn gm gc gc' : Nat) (g g' : Bool) (pl ql : List (Bool × List Int)) (zs ys : List Int) (w : World) (hz : pl.length = n) (hy : ql.length = m) (hn : n ≤ 1048576) (hm : m ≤ 1048576) (hp : ∀ p ∈ pl, p.2.length ≤ 1048576) (hq : ∀ p ∈ ql, p.2.length ≤ 1048576) (ha : WholesAt w a pl) (ha' : WholesAt w a' ql) (hgz : zs.length = gn) (hgy : ys.length = gm) (hgn : gn ≤ 1048576) (hgm : gm ≤ 1048576) (hga : RowAt .i64 w ga zs) (hga' : RowAt .i64 w ga' ys) :
    Calls Try.prog 54 #[.agg #[.int .i64 P, .int .i64 N, .slice a n c, .bool g, .slice ga gn gc], .agg #[.int .i64 P', .int .i64 N', .slice a' m c', .bool g', .slice ga' gm gc']] w fun e w' => e = .returned (.bool (romB P N P' N' g g' pl ql zs ys)) ∧ Below w.heap.size w w' := by
  have hW0 : Below w.heap.size w ((w.alloc (.cells #[.int .i64 P, .int .i64 N, .slice a n c, .bool g, .slice ga gn gc] 75)).alloc (.cells #[.int .i64 P', .int .i64 N', .slice a' m c', .bool g', .slice ga' gm gc'] 75)) := bl_al (bl_alloc _ _) _
  obtain ⟨X0, Y0⟩ := two_boxes w #[.int .i64 P, .int .i64 N, .slice a n c, .bool g, .slice ga gn gc] #[.int .i64 P', .int .i64 N', .slice a' m c', .bool g', .slice ga' gm gc'] 75
  by_cases h1 : P = P'
  · by_cases h2 : N = N'
    · have HSW := Lib.hid (sameWhole_any g g' ga ga' gn gm gc gc' zs ys _ hgz hgy hgn hgm (hga.below hW0) (hga'.below hW0))
      have HEF := Lib.hid (fun (W : World) (hW : Below w.heap.size w W) => equalFunc_any a a' n m c c' pl ql W hz hy hn hm hp hq (ha.below hW) (ha'.below hW))
      clear hz hy hp hq ha ha' hgz hgy hga hga'
      cases h4 : (g == g' && zs == ys)
      · have HNN := Lib.hid (romB_no4 (P := P) (N := N) (P' := P') (N' := N') (pl := pl) (ql := ql) h4)
        rw [h4] at HSW
        rw [HNN.out]
        clear h4 X0 Y0 HEF
        subst h1 h2
        go_enter Try.func54, Try.ntmps54
        go_wp2_with fail
        refine HSW.out.mono ?_
        rintro e w1 ⟨rfl, hb1⟩
        go_wp2_with fail
        go_ret
        exact ⟨rfl, bl_step hW0 hb1⟩
      · have HYY := Lib.hid (romB_yes (pl := pl) (ql := ql) h1 h2 h4)
        rw [h4] at HSW
        rw [HYY.out]
        clear h4 HYY
        subst h1 h2
        go_enter Try.func54, Try.ntmps54
        go_wp2_with fail
        refine HSW.out.mono ?_
        rintro e w1 ⟨rfl, hb1⟩
        obtain ⟨x0, x1, x2, x3, x4⟩ := five_box (X0.below hb1)
        obtain ⟨y0, y1, y2, y3, y4⟩ := five_box (Y0.below hb1)
        clear X0 Y0
        go_wp2_with fail
        refine (HEF.out _ (bl_step hW0 hb1)).mono ?_
        rintro e w2 ⟨rfl, hb2⟩
        go_wp2_with fail
        go_ret
        exact ⟨rfl, bl_step hW0 (bl_step hb1 hb2)⟩
    · rw [romB_no2 h2]
      subst h1
      go_enter Try.func54, Try.ntmps54
      go_wp2_with fail
      go_ret
      exact ⟨rfl, hW0⟩
  · rw [romB_no1 h1]
    go_enter Try.func54, Try.ntmps54
    go_wp2_with fail
    go_ret
    exact ⟨rfl, hW0⟩
set_option maxHeartbeats 4000000 in
theorem sRomSame_any (P N P' N' : Int) (a a' ga ga' : Option Addr) (n m c c' gn gm gc gc' : Nat) (g g' : Bool) (pl ql : List (Bool × List Int)) (zs ys : List Int) (w : World) (hz : pl.length = n) (hy : ql.length = m) (hn : n ≤ 1048576) (hm : m ≤ 1048576) (hp : ∀ p ∈ pl, p.2.length ≤ 1048576) (hq : ∀ p ∈ ql, p.2.length ≤ 1048576) (ha : WholesAt w a pl) (ha' : WholesAt w a' ql) (hgz : zs.length = gn) (hgy : ys.length = gm) (hgn : gn ≤ 1048576) (hgm : gm ≤ 1048576) (hga : RowAt .i64 w ga zs) (hga' : RowAt .i64 w ga' ys) :
    Calls Try.prog 52 #[.agg #[.int .i64 P, .int .i64 N, .slice a n c, .bool g, .slice ga gn gc], .agg #[.int .i64 P', .int .i64 N', .slice a' m c', .bool g', .slice ga' gm gc']] w fun e w' => e = .returned (.bool (romB P N P' N' g g' pl ql zs ys)) ∧ Below w.heap.size w w' := by
  have hW0 : Below w.heap.size w ((w.alloc (.cells #[.int .i64 P, .int .i64 N, .slice a n c, .bool g, .slice ga gn gc] 75)).alloc (.cells #[.int .i64 P', .int .i64 N', .slice a' m c', .bool g', .slice ga' gm gc'] 75)) := bl_al (bl_alloc _ _) _
  obtain ⟨X0, Y0⟩ := two_boxes w #[.int .i64 P, .int .i64 N, .slice a n c, .bool g, .slice ga gn gc] #[.int .i64 P', .int .i64 N', .slice a' m c', .bool g', .slice ga' gm gc'] 75
  by_cases h1 : P = P'
  · by_cases h2 : N = N'
    · by_cases hnm : n = m
      · subst hnm
        have HSW := Lib.hid (l26Same_any g g' ga ga' gn gm gc gc' zs ys _ hgz hgy hgn hgm (hga.below hW0) (hga'.below hW0))
        clear hgz hgy hga hga'
        cases h4 : (g == g' && zs == ys)
        · have HNN := Lib.hid (romB_no4 (P := P) (N := N) (P' := P') (N' := N') (pl := pl) (ql := ql) h4)
          rw [h4] at HSW
          rw [HNN.out]
          clear h4 X0 Y0
          subst h1 h2
          go_enter Try.func52, Try.ntmps52
          go_wp2_with fail
          refine HSW.out.mono ?_
          rintro e w1 ⟨rfl, hb1⟩
          go_wp2_with fail
          go_ret
          exact ⟨rfl, bl_step hW0 hb1⟩
        · have HYY := Lib.hid (romB_yes (pl := pl) (ql := ql) h1 h2 h4)
          rw [h4] at HSW
          rw [HYY.out]
          clear h4 HYY
          subst h1 h2
          have HZ := Lib.hid hz; clear hz
          have HY := Lib.hid hy; clear hy
          have HP := Lib.hid hp; clear hp
          have HQ := Lib.hid hq; clear hq
          by_cases h0 : n = 0
          · subst h0
            have he : decide (pl = ql) = true := by rw [List.length_eq_zero_iff.1 HZ.out, List.length_eq_zero_iff.1 HY.out]; rfl
            rw [he]; clear he
            go_enter Try.func52, Try.ntmps52
            go_wp2_with fail
            refine HSW.out.mono ?_
            rintro e w1 ⟨rfl, hb1⟩
            obtain ⟨x0, x1, x2, x3, x4⟩ := five_box (X0.below hb1)
            obtain ⟨y0, y1, y2, y3, y4⟩ := five_box (Y0.below hb1)
            clear X0 Y0
            go_wp2_with fail
            go_loop [5] (fun i => i = .int .i64 0) (fun _ => 0)
            case atStart => rfl
            case round =>
              obtain rfl := hrel
              go_wp2_with fail
              go_ret
              exact ⟨rfl, bl_step hW0 hb1⟩
          · rcases ha with h | ⟨b, off, rfl, hb, hc⟩
            · exfalso; rw [h] at HZ; exact h0 HZ.out.symm
            · rcases ha' with h | ⟨b', off', rfl, hb', hc'⟩
              · exfalso; rw [h] at HY; exact h0 HY.out.symm
              · have HC := Lib.hid hc; clear hc
                have HC' := Lib.hid hc'; clear hc'
                go_enter Try.func52, Try.ntmps52
                go_wp2_with fail
                refine HSW.out.mono ?_
                rintro e w1 ⟨rfl, hb1⟩
                have HX1 := Lib.hid (X0.below hb1)
                have HY1 := Lib.hid (Y0.below hb1)
                have T1 := bl_step hW0 hb1
                obtain ⟨x0, x1, x2, x3, x4⟩ := five_box HX1.out
                obtain ⟨y0, y1, y2, y3, y4⟩ := five_box HY1.out
                clear X0 Y0 hW0 hb1
                go_wp2_with fail
                clear x0 x1 x2 x3 x4 y0 y1 y2 y3 y4
                go_loopw [5] (fun i wr => ∃ j : Nat, j ≤ n ∧ i = .int .i64 j ∧ Hid (pl.take j = ql.take j) ∧ Below w1.heap.size w1 wr) (fun i _ => n - (intOf i).toNat)
                case atStart => exact ⟨0, by omega, rfl, Lib.hid rfl, Below.refl _ _⟩
                case round =>
                  obtain ⟨j, hj, rfl, HT, hB1⟩ := hrel
                  have hB := bl_step T1 hB1
                  have x2 := (five_box (HX1.out.below hB1)).2.2.1
                  have y2 := (five_box (HY1.out.below hB1)).2.2.1
                  by_cases hlt : j < n
                  · have hlz : j < pl.length := by rw [HZ.out]; exact hlt
                    have hly : j < ql.length := by rw [HY.out]; exact hlt
                    obtain ⟨x, k, p0, p1, hr⟩ := HC.out j hlz
                    obtain ⟨x', k', p0', p1', hr'⟩ := HC'.out j hly
                    have hx0 : (0 : Int) ≤ (j : Int) := by omega
                    have hx1 : (j : Int) < (n : Int) := by omega
                    have KK : ∀ W : World, Below wr.heap.size wr W → W.cell? ⟨w.heap.size, 2, none⟩ = some (.slice (some ⟨b, off, none⟩) n c) ∧ W.cell? ⟨w.heap.size + 1, 2, none⟩ = some (.slice (some ⟨b', off', none⟩) n c') ∧ W.cell? ⟨b, off + j * 2, none⟩ = some (.bool pl[j].1) ∧ W.cell? ⟨b, off + j * 2 + 1, none⟩ = some (.slice x pl[j].2.length k) ∧ W.cell? ⟨b', off' + j * 2, none⟩ = some (.bool ql[j].1) ∧ W.cell? ⟨b', off' + j * 2 + 1, none⟩ = some (.slice x' ql[j].2.length k') := fun W hW =>
                      ⟨(five_box ((HX1.out.below hB1).below hW)).2.2.1, (five_box ((HY1.out.below hB1).below hW)).2.2.1,
                       ((bl_step hB hW).cell (p := ⟨b, off + j * 2, none⟩) hb).trans p0, ((bl_step hB hW).cell (p := ⟨b, off + j * 2 + 1, none⟩) hb).trans p1, ((bl_step hB hW).cell (p := ⟨b', off' + j * 2, none⟩) hb').trans p0', ((bl_step hB hW).cell (p := ⟨b', off' + j * 2 + 1, none⟩) hb').trans p1'⟩
                    have HK := Lib.hid KK
                    have HSM := Lib.hid (l26Same_any pl[j].1 ql[j].1 x x' pl[j].2.length ql[j].2.length k k' pl[j].2 ql[j].2 wr.drew rfl rfl (HP.out _ (List.getElem_mem hlz)) (HQ.out _ (List.getElem_mem hly)) ((hr.below hB).below (bl_drew _)) ((hr'.below hB).below (bl_drew _)))
                    have HEQ := Lib.hid (fun h : pl[j] = ql[j] => take_next hlz hly HT.out h)
                    have HNE : Hid (¬ pl[j] = ql[j] → ¬ pl = ql) := by intro h e; subst e; exact h rfl
                    have HWW := Lib.hid (eqW_iff pl[j] ql[j])
                    have HWD : Hid (eqW pl[j] ql[j] = (pl[j].1 == ql[j].1 && pl[j].2 == ql[j].2)) := rfl
                    rw [← HWD.out] at HSM
                    clear p0 p1 p0' p1' hr hr' HWD KK x2 y2
                    generalize pl[j] = p at *
                    generalize ql[j] = q at *
                    have k0 := HK.out wr.drew (bl_drew wr)
                    cases hpq : eqW p q
                    · rw [hpq] at HSM
                      have HNN : Hid (decide (pl = ql) = false) := decide_eq_false (HNE.out (fun e => by rw [(HWW.out).2 e] at hpq; cases hpq))
                      clear hpq
                      have x2 := (five_box (HX1.out.below hB1)).2.2.1
                      go_wp2_with fail
                      go_region_held3 (fun w' => w'.cell? ⟨w.heap.size, 2, none⟩ = some (.slice (some ⟨b, off, none⟩) n c) ∧ w'.cell? ⟨w.heap.size + 1, 2, none⟩ = some (.slice (some ⟨b', off', none⟩) n c') ∧ w'.cell? ⟨b, off + j * 2, none⟩ = some (.bool p.1) ∧ w'.cell? ⟨b, off + j * 2 + 1, none⟩ = some (.slice x p.2.length k) ∧ w'.cell? ⟨b', off' + j * 2, none⟩ = some (.bool q.1) ∧ w'.cell? ⟨b', off' + j * 2 + 1, none⟩ = some (.slice x' q.2.length k'))
                        (first | with_reducible exact k1 | with_reducible exact k0)
                        (first | (go_at_call 67; refine HSM.out.mono ?_; rintro e w2 ⟨rfl, hb2⟩; have hbF := bl_step (bl_drew wr) hb2; have k1 := HK.out w2 hbF))
                      go_wp2
                      go_ret
                      exact ⟨ret_bool HNN.out.symm, bl_step hB hbF⟩
                    · rw [hpq] at HSM
                      have HTN := Lib.hid (HEQ.out ((HWW.out).1 hpq))
                      clear hpq
                      have x2 := (five_box (HX1.out.below hB1)).2.2.1
                      go_wp2_with fail
                      go_region_held3 (fun w' => w'.cell? ⟨w.heap.size, 2, none⟩ = some (.slice (some ⟨b, off, none⟩) n c) ∧ w'.cell? ⟨w.heap.size + 1, 2, none⟩ = some (.slice (some ⟨b', off', none⟩) n c') ∧ w'.cell? ⟨b, off + j * 2, none⟩ = some (.bool p.1) ∧ w'.cell? ⟨b, off + j * 2 + 1, none⟩ = some (.slice x p.2.length k) ∧ w'.cell? ⟨b', off' + j * 2, none⟩ = some (.bool q.1) ∧ w'.cell? ⟨b', off' + j * 2 + 1, none⟩ = some (.slice x' q.2.length k'))
                        (first | with_reducible exact k1 | with_reducible exact k0)
                        (first | (go_at_call 67; refine HSM.out.mono ?_; rintro e w2 ⟨rfl, hb2⟩; have hbF := bl_step (bl_drew wr) hb2; have k1 := HK.out w2 hbF))
                      go_wp2
                      go_roundw
                      case rel => exact ⟨j + 1, by omega, by go_num, HTN, bl_step hB1 hbF⟩
                      case measure => simp [intOf]; omega
                  · obtain rfl : j = n := by omega
                    have HE : Hid (decide (pl = ql) = true) := decide_eq_true (wholes_end HZ.out HY.out HT.out)
                    go_wp2_with fail
                    go_ret
                    exact ⟨ret_bool HE.out.symm, hB⟩
      · rw [romB_no3 (fun h => hnm (by rw [← hz, ← hy, h]))]
        have hne : ¬ ((n : Nat) : Int) = (m : Int) := by omega
        subst h1 h2
        clear X0 Y0 hz hy
        go_enter Try.func52, Try.ntmps52
        go_wp2_with fail
        go_ret
        exact ⟨rfl, hW0⟩
    · rw [romB_no2 h2]
      subst h1
      go_enter Try.func52, Try.ntmps52
      go_wp2_with fail
      go_ret
      exact ⟨rfl, hW0⟩
  · rw [romB_no1 h1]
    go_enter Try.func52, Try.ntmps52
    go_wp2_with fail
    go_ret
    exact ⟨rfl, hW0⟩
end Go.Proofs.Ytmgdfefffgjddaa
