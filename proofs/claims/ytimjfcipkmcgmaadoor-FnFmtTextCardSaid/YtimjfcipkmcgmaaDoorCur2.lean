/-
  PROVED: contracts of the draws of a byte, of a number below a bound, of a choice.
  CONDITIONS: none.
-/
import Derived.Test.YtimjfcipkmcgmaaDoorCur
namespace Go.Proofs.YtimjfcipkmcgmaaDoor
open Go.ChangeShapes Go.WideShapes Go.ChangeAt Go.RowKit
set_option linter.unusedVariables false
def hNext (h : Int) : Int := wrap64 (wrap64 (h * 6364136223846793005) + 1442695040888963407)
theorem hNext_bd (h : Int) : -9223372036854775808 ≤ hNext h ∧ hNext h ≤ 9223372036854775807 := by
  unfold hNext
  generalize wrap64 (h * 6364136223846793005) + 1442695040888963407 = x
  unfold wrap64
  omega
def by0 (H : Int) : Int := bits BinOp.and IntKind.i64 (bits BinOp.xor IntKind.i64 (H / 8589934592) (H / 35184372088832)) 255
def byV (S : Src) (i : Nat) (h : Int) : Int := if i < S.n then bits BinOp.and IntKind.i64 (by0 (hNext h) + S.l.getD i 0) 255 else by0 (hNext h)
def byI (S : Src) (i : Nat) : Nat := if i < S.n then i + 1 else i
theorem byV_bd (S : Src) (i : Nat) (h : Int) : 0 ≤ byV S i h ∧ byV S i h ≤ 255 := by
  unfold byV
  split
  · exact and255 _
  · exact and255 _
set_option maxHeartbeats 1000000 in
theorem l1Byte_any (w : World) (g : Nat) (S : Src) (i : Nat) (h : Int) (hw : CurAt w g S i h) :
    Calls Tryd.prog 50 #[.pointer (some ⟨g, 0, none⟩)] w fun e w' => e = .returned (.int .i64 (byV S i h)) ∧ CurAt w' g S (byI S i) (hNext h) ∧ w.grownBy w' (some g) := by
  have HNE := Lib.hid (fun b off hn ha => hw.ne (b := b) (off := off) hn ha)
  obtain ⟨hg, hr, hi, hh0, hh1⟩ := hw
  have HR := Lib.hid hr
  have HG := Lib.hid hg
  have c0 := cell_of_heap hg 0
  have c1 := cell_of_heap hg 1
  have c2 := cell_of_heap hg 2
  have fz := free_of_heap hg
  have HB := Lib.hid (hNext_bd h)
  have HV : Hid (byV S i h = if i < S.n then bits BinOp.and IntKind.i64 (by0 (hNext h) + S.l.getD i 0) 255 else by0 (hNext h)) := rfl
  have HI : Hid (byI S i = if i < S.n then i + 1 else i) := rfl
  obtain ⟨a, n, c, l, hl, hn, hb⟩ := S
  have hn' : n ≤ 1048576 := hn
  have hi' : i ≤ n := hi
  by_cases hlt : i < n
  · have HV2 : Hid (byV ⟨a, n, c, l, hl, hn, hb⟩ i h = bits BinOp.and IntKind.i64 (by0 (hNext h) + l.getD i 0) 255) := by show _ = _; rw [HV.out, if_pos hlt]
    have HI2 : Hid (byI ⟨a, n, c, l, hl, hn, hb⟩ i = i + 1) := by show _ = _; rw [HI.out, if_pos hlt]
    have hil : i < l.length := by omega
    rcases hr with h0 | ⟨b, off, rfl, hbl, hcell⟩
    · exfalso; simp only at h0; rw [h0] at hil; simp at hil
    · have hbg : b ≠ g := HNE.out b off (by show 0 < l.length; omega) rfl
      have hgb : g ≠ b := fun e => hbg e.symm
      have hci : w.cell? ⟨b, off + i, none⟩ = some (.int .u8 (l.getD i 0)) := hcell i hil
      obtain ⟨hz0, hz1⟩ := hb (l.getD i 0) (getD_mem hil)
      have hx0 : (0 : Int) ≤ (i : Int) := by omega
      have hx1 : (i : Int) < (n : Int) := by omega
      generalize hzz : l.getD i 0 = z at *
      have HZZ := Lib.hid hzz
      clear hcell hg hi hil HNE HV HI hzz
      go_enter Tryd.func50, Tryd.ntmps50
      go_wp2_with fail
      go_quiet (fail)
      generalize hH : wrap64 (wrap64 (h * 6364136223846793005) + 1442695040888963407) = H
      generalize hX : bits BinOp.and IntKind.i64 (bits BinOp.xor IntKind.i64 (H / 8589934592) (H / 35184372088832)) 255 = x0
      have hx := and255 (bits BinOp.xor IntKind.i64 (H / 8589934592) (H / 35184372088832))
      rw [hX] at hx
      obtain ⟨hq0, hq1⟩ := hx
      have HH : Hid (hNext h = H) := hH
      have HX : Hid (by0 H = x0) := hX
      clear hH hX
      have hw1 : IntKind.i64.wrap (x0 + z) = x0 + z := IntWalk.i64_in _ ⟨by omega, by omega⟩
      have hci2 : ∀ V : Value, (w.setCell ⟨g, 2, none⟩ V).cell? ⟨b, off + i, none⟩ = some (.int .u8 z) := fun V => (World.cell?_setCell_other _ _ _ _ (fun e => hgb (by injection e))).trans hci
      go_wp2_with fail
      go_quiet (fail)
      go_wp2_with fail
      go_quiet (fail)
      clear hw1
      go_wp2
      go_ret
      refine ⟨ret_int (by rw [HV2.out, HH.out, HX.out]), ?_, ?_⟩
      · rw [HI2.out, HH.out]
        have hgn : g < w.heap.size := lt_of_heap HG.out
        refine ⟨?_, ?_, by show i + 1 ≤ n; omega, by have := HB.out; rw [HH.out] at this; omega, by have := HB.out; rw [HH.out] at this; omega⟩
        · have h1 := setCell_block (setCell_block HG.out (i := 2) (.int .i64 H)) (i := 1) (.int .i64 ((i : Int) + 1))
          refine Eq.trans ?_ (h1.trans ?_)
          · rfl
          · congr 1
        · exact RowAt.only HR.out (g := g) (by exact only_setCell (only_drewN (only_setCell (only_refl w _) 2 _) _) 1 _) (fun b' off' e _ => by
            simp only [Option.some.injEq, Addr.mk.injEq, and_true] at e
            rw [← e.1]; exact hbg)
      · exact only_setCell (only_drewN (only_setCell (only_refl w _) 2 _) _) 1 _
  · have HV2 : Hid (byV ⟨a, n, c, l, hl, hn, hb⟩ i h = by0 (hNext h)) := by show _ = _; rw [HV.out, if_neg hlt]
    have HI2 : Hid (byI ⟨a, n, c, l, hl, hn, hb⟩ i = i) := by show _ = _; rw [HI.out, if_neg hlt]
    clear hg hi hr HV HI
    go_enter Tryd.func50, Tryd.ntmps50
    go_wp2_with fail
    go_quiet (fail)
    generalize hH : wrap64 (wrap64 (h * 6364136223846793005) + 1442695040888963407) = H
    generalize hX : bits BinOp.and IntKind.i64 (bits BinOp.xor IntKind.i64 (H / 8589934592) (H / 35184372088832)) 255 = x0
    have HH : Hid (hNext h = H) := hH
    have HX : Hid (by0 H = x0) := hX
    clear hH hX
    go_wp2_with fail
    go_quiet (fail)
    go_wp2
    go_ret
    refine ⟨ret_int (by rw [HV2.out, HH.out, HX.out]), ?_, ?_⟩
    · rw [HI2.out, HH.out]
      refine ⟨?_, ?_, hi', by have := HB.out; rw [HH.out] at this; omega, by have := HB.out; rw [HH.out] at this; omega⟩
      · have h1 := setCell_block HG.out (i := 2) (.int .i64 H)
        refine Eq.trans ?_ (h1.trans ?_)
        · rfl
        · congr 1
      · exact RowAt.only HR.out (g := g) (by exact only_drewN (only_drewN (only_setCell (only_refl w _) 2 _) _) _) (fun b' off' e h0 => HNE.out b' off' h0 e)
    · exact only_drewN (only_drewN (only_setCell (only_refl w _) 2 _) _) _
def DrawInt (P : Int → Prop) (w : World) (g : Nat) (S : Src) : Ending → World → Prop := fun e w' => ∃ v i h, e = .returned (.int .i64 v) ∧ P v ∧ CurAt w' g S i h ∧ w.grownBy w' (some g)
def DrawBool (w : World) (g : Nat) (S : Src) : Ending → World → Prop := fun e w' => ∃ v i h, e = .returned (.bool v) ∧ CurAt w' g S i h ∧ w.grownBy w' (some g)
def inBelow (n v : Int) : Prop := 0 ≤ v ∧ (v < n ∨ v = 0)
set_option maxHeartbeats 1000000 in
theorem l1Below_small (w : World) (g : Nat) (S : Src) (i : Nat) (h n : Int) (hw : CurAt w g S i h) (hn0 : 0 < n) (hn1 : n ≤ 256) :
    Calls Tryd.prog 46 #[.pointer (some ⟨g, 0, none⟩), .int .i64 n] w fun e w' => e = .returned (.int .i64 (byV S i h % n)) ∧ CurAt w' g S (byI S i) (hNext h) ∧ w.grownBy w' (some g) := by
  have HC := Lib.hid (l1Byte_any w g S i h hw)
  obtain ⟨h0, h1⟩ := byV_bd S i h
  clear hw
  generalize byV S i h = v at *
  have hn2 : (n == 0) = false := by rw [beq_eq_false_iff_ne]; omega
  have hn3 : ¬ n = 0 := by omega
  go_enter Tryd.func46, Tryd.ntmps46
  go_wp2_with fail
  refine HC.out.mono ?_
  rintro e w1 ⟨rfl, hc, ho⟩
  have HCU := Lib.hid hc; clear hc
  go_wp2
  go_ret
  exact ⟨rfl, HCU.out, ho⟩
set_option maxHeartbeats 1000000 in
theorem l1Below_any (w : World) (g : Nat) (S : Src) (i : Nat) (h n : Int) (hw : CurAt w g S i h) :
    Calls Tryd.prog 46 #[.pointer (some ⟨g, 0, none⟩), .int .i64 n] w (DrawInt (inBelow n) w g S) := by
  by_cases hn0 : 0 < n
  · by_cases hn1 : n ≤ 256
    · exact (l1Below_small w g S i h n hw hn0 hn1).mono fun e w' ⟨he, hc, ho⟩ => ⟨_, _, _, he, ⟨Int.emod_nonneg _ (by omega), .inl (Int.emod_lt_of_pos _ hn0)⟩, hc, ho⟩
    · have HC := Lib.hid (l1Byte_any w g S i h hw)
      obtain ⟨x0, x1⟩ := byV_bd S i h
      clear hw
      generalize byV S i h = x at *
      generalize byI S i = i1 at *
      generalize hNext h = h1 at *
      have hn2 : (n == 0) = false := by rw [beq_eq_false_iff_ne]; omega
      have hn3 : ¬ n = 0 := by omega
      go_enter Tryd.func46, Tryd.ntmps46
      go_wp2_with fail
      refine HC.out.mono ?_
      rintro e w1 ⟨rfl, hc, ho1⟩
      have HC2 := Lib.hid (l1Byte_any w1 g S i1 h1 hc)
      obtain ⟨y0, y1⟩ := byV_bd S i1 h1
      clear hc
      generalize byV S i1 h1 = y at *
      generalize byI S i1 = i2 at *
      generalize hNext h1 = h2 at *
      go_wp2_with fail
      refine HC2.out.mono ?_
      rintro e w2 ⟨rfl, hc, ho2⟩
      have HC3 := Lib.hid (l1Byte_any w2 g S i2 h2 hc)
      obtain ⟨z0, z1⟩ := byV_bd S i2 h2
      clear hc
      generalize byV S i2 h2 = z at *
      generalize byI S i2 = i3 at *
      generalize hNext h2 = h3 at *
      go_wp2_with fail
      refine HC3.out.mono ?_
      rintro e w3 ⟨rfl, hc, ho3⟩
      have HC4 := Lib.hid (l1Byte_any w3 g S i3 h3 hc)
      obtain ⟨u0, u1⟩ := byV_bd S i3 h3
      clear hc
      generalize byV S i3 h3 = u at *
      go_wp2_with fail
      refine HC4.out.mono ?_
      rintro e w4 ⟨rfl, hc, ho4⟩
      have HCU := Lib.hid hc; clear hc
      go_wp2
      go_ret
      exact ⟨_, _, _, rfl, ⟨Int.emod_nonneg _ (by omega), .inl (Int.emod_lt_of_pos _ hn0)⟩, HCU.out, only_step (only_step (only_step ho1 ho2) ho3) ho4⟩
  · have HW := Lib.hid hw; clear hw
    go_enter Tryd.func46, Tryd.ntmps46
    go_wp2
    go_ret
    exact ⟨0, i, h, rfl, ⟨by omega, .inr rfl⟩, HW.out, only_refl _ _⟩
set_option maxHeartbeats 1000000 in
theorem l1Once_any (w : World) (g : Nat) (S : Src) (i : Nat) (h n : Int) (hw : CurAt w g S i h) :
    Calls Tryd.prog 36 #[.pointer (some ⟨g, 0, none⟩), .int .i64 n] w (DrawBool w g S) := by
  have HC := Lib.hid (l1Below_any w g S i h n hw); clear hw
  go_enter Tryd.func36, Tryd.ntmps36
  go_wp2_with fail
  refine HC.out.mono ?_
  rintro e w1 ⟨v, i', h', rfl, _, hc, ho⟩
  have HCU := Lib.hid hc; clear hc
  go_wp2
  go_ret
  exact ⟨_, _, _, rfl, HCU.out, ho⟩
set_option maxHeartbeats 1000000 in
theorem l1PickInt_any (w : World) (g : Nat) (S : Src) (i : Nat) (h : Int) (b m : Nat) (xs : List Int) (hw : CurAt w g S i h) (hx : xs.length = m) (hm : 0 < m) (hm2 : m ≤ 1000) (ha : RowAt .i64 w (some ⟨b, 0, none⟩) xs) (hbg : b ≠ g) :
    Calls Tryd.prog 42 #[.pointer (some ⟨g, 0, none⟩), .slice (some ⟨b, 0, none⟩) m m] w (DrawInt (fun v => v ∈ xs) w g S) := by
  have HC := Lib.hid (l1Below_any w g S i h (m : Int) hw); clear hw
  have HA := Lib.hid ha; clear ha
  have HX := Lib.hid hx; clear hx
  go_enter Tryd.func42, Tryd.ntmps42
  go_wp2_with fail
  refine HC.out.mono ?_
  rintro e w1 ⟨v, i', h', rfl, ⟨hv0, hv1⟩, hc, ho⟩
  have HCU := Lib.hid hc; clear hc
  obtain ⟨k, rfl⟩ := Int.eq_ofNat_of_zero_le hv0
  have hkm : k < m := by omega
  have hcell : w1.cell? ⟨b, k, none⟩ = some (.int .i64 (xs.getD k 0)) := by
    rcases HA.out with h0 | ⟨b', off', hab, hlt, hcc⟩
    · rw [h0] at HX; have := HX.out; simp at this; omega
    · simp only [Option.some.injEq, Addr.mk.injEq, and_true] at hab
      obtain ⟨rfl, rfl⟩ := hab
      have h1 := hcc k (by rw [HX.out]; exact hkm)
      rw [Nat.zero_add] at h1
      rw [← h1]
      exact World.cell?_of_block (a := ⟨b, k, none⟩) (ho.block b hlt (fun e => hbg (by injection e)))
  have HM := Lib.hid (getD_mem (zs := xs) (k := k) (by rw [HX.out]; exact hkm))
  generalize xs.getD k 0 = r at *
  clear hv1
  go_wp2
  go_ret
  exact ⟨_, _, _, rfl, HM.out, HCU.out, ho⟩
theorem pick_lit (W : World) (g : Nat) (S : Src) (i : Nat) (h : Int) (xs : List Int) (A : Array Value) (m : Nat) (T : TypeId) (hw : CurAt W g S i h) (hA : A = rowArr .i64 xs) (hx : xs.length = m) (hm : 0 < m) (hm2 : m ≤ 1000) :
    Calls Tryd.prog 42 #[.pointer (some ⟨g, 0, none⟩), .slice (some ⟨W.heap.size, 0, none⟩) m m] (W.alloc (.cells A T)) fun e w' => ∃ v i h, e = .returned (.int .i64 v) ∧ v ∈ xs ∧ CurAt w' g S i h ∧ W.grownBy w' (some g) := by
  subst hA
  refine (l1PickInt_any _ g S i h W.heap.size m xs (hw.below (bl_alloc _ _)) hx hm hm2 (rowAt_new .i64 xs W T) (by have := hw.lt; omega)).mono ?_
  rintro e w' ⟨v, i', h', he, hv, hc, ho⟩
  exact ⟨v, i', h', he, hv, hc, only_step (only_of_below (bl_alloc _ _) _) ho⟩
end Go.Proofs.YtimjfcipkmcgmaaDoor
