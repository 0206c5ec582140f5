/-
  PROVED: the walk of the law on the sameness of tables.
  CONDITIONS: none.
-/
import Derived.Test.YtmgdfefffgjddaaRom5
namespace Go.Proofs.Ytmgdfefffgjddaa
open Go.ChangeShapes Go.WideShapes Go.ChangeAt Go.RowKit
set_option linter.unusedVariables false
def listW (l : List WholeW) : List (Bool × List Int) := l.map fun x => (x.neg, x.zs.take x.len)
theorem IsWholes.at {w : World} {a : Option Addr} {len cap : Nat} {zl : List WholeW} (h : IsWholes w a len cap zl) : WholesAt w a (listW (zl.take len)) ∧ (listW (zl.take len)).length = len ∧ len ≤ 9223372036854775807 ∧ ∀ p ∈ listW (zl.take len), p.2.length ≤ 9223372036854775807 := by
  rcases h with ⟨rfl, rfl, rfl, rfl⟩ | ⟨x, rfl, hl, hm, hz, hc⟩
  · exact ⟨.inl rfl, rfl, by omega, by simp [listW]⟩
  · have hlen : (listW (zl.take len)).length = len := by simp [listW]; omega
    refine ⟨?_, hlen, by unfold maxLen at hm; omega, ?_⟩
    · by_cases h0 : len = 0
      · left; subst h0; rfl
      · right
        obtain ⟨b, off, spot⟩ := x
        have hspot : spot = none := by simpa [Addr.add] using World.cell?_spot (hc 0 (by omega)).1
        subst hspot
        have hb := World.block_lt_of_cell? w _ (hc 0 (by omega)).1
        refine ⟨b, off, rfl, by simpa [Addr.add] using hb, fun i hi => ?_⟩
        rw [hlen] at hi
        obtain ⟨h1, h2, h3⟩ := hc i (by omega)
        obtain ⟨r1, r2, _⟩ := h3.rowAt
        have e : (listW (zl.take len))[i]'(by rw [hlen]; exact hi) = (zl[i].neg, zl[i].zs.take zl[i].len) := by simp [listW]
        refine ⟨zl[i].a, zl[i].cap, ?_, ?_, ?_⟩
        · rw [e, ← Go.WideShapes.add_plain]; exact h1
        · rw [e]
          show w.cell? ⟨b, off + i * 2 + 1, none⟩ = some (.slice zl[i].a (zl[i].zs.take zl[i].len).length zl[i].cap)
          rw [r2, Nat.add_assoc, ← Go.WideShapes.add_plain]; exact h2
        · rw [e]; exact r1
    · intro p hp
      obtain ⟨y, hy, rfl⟩ := List.mem_map.1 hp
      obtain ⟨i, hi, rfl⟩ := List.mem_iff_getElem.1 (List.mem_of_mem_take hy)
      obtain ⟨_, _, h3⟩ := hc i hi
      have := h3.len_le
      have e := h3.rowAt.2.1
      show (zl[i].zs.take zl[i].len).length ≤ _
      rw [e]; exact this
set_option maxRecDepth 100000 in
set_option maxHeartbeats 8000000 in
theorem walkFnExactRomSame (a0 : Int) (a1 : Int) (a2 : Option Addr) (len2 cap2 : Nat) (z2 : List WholeW) (a3 : Bool) (a4 : Option Addr) (len4 cap4 : Nat) (z4 : List Int) (a5 : Int) (a6 : Int) (a7 : Option Addr) (len7 cap7 : Nat) (z7 : List WholeW) (a8 : Bool) (a9 : Option Addr) (len9 cap9 : Nat) (z9 : List Int) (w : World) (w0 : (Lit.int .i64 a0).wf = true) (w1 : (Lit.int .i64 a1).wf = true) (w2 : IsWholes w a2 len2 cap2 z2) (w4 : IsRow .i64 w a4 len4 cap4 z4) (w5 : (Lit.int .i64 a5).wf = true) (w6 : (Lit.int .i64 a6).wf = true) (w7 : IsWholes w a7 len7 cap7 z7) (w9 : IsRow .i64 w a9 len9 cap9 z9) :
    Calls Try.prog 12 #[.agg #[.int .i64 a0, .int .i64 a1, .slice a2 len2 cap2, .bool a3, .slice a4 len4 cap4], .agg #[.int .i64 a5, .int .i64 a6, .slice a7 len7 cap7, .bool a8, .slice a9 len9 cap9]] w fun e w' => e = .returned (.bool true) ∧ Below w.heap.size w w' := by
  obtain ⟨wa, hz, hml, hpl⟩ := w2.at
  obtain ⟨wb, hy, hml', hpl'⟩ := w7.at
  obtain ⟨ga, hgz, _⟩ := w4.rowAt
  obtain ⟨gb, hgy, _⟩ := w9.rowAt
  have hgl := w4.len_le
  have hgl' := w9.len_le
  clear w0 w1 w2 w4 w5 w6 w7 w9
  generalize listW (z2.take len2) = pl at *
  generalize listW (z7.take len7) = ql at *
  generalize z4.take len4 = zs at *
  generalize z9.take len9 = ys at *
  by_cases h1 : szR 1048576 pl len4 < 0
  · have T0 : Below w.heap.size w ((w.alloc (.cells #[.int .i64 a0, .int .i64 a1, .slice a2 len2 cap2, .bool a3, .slice a4 len4 cap4] 70)).alloc (.cells #[.int .i64 a5, .int .i64 a6, .slice a7 len7 cap7, .bool a8, .slice a9 len9 cap9] 70)) := bl_al (bl_alloc _ _) _
    obtain ⟨X1, X2⟩ := two_boxes w #[.int .i64 a0, .int .i64 a1, .slice a2 len2 cap2, .bool a3, .slice a4 len4 cap4] #[.int .i64 a5, .int .i64 a6, .slice a7 len7 cap7, .bool a8, .slice a9 len9 cap9] 70
    have HS1 := Lib.hid (szRom_any a0 a1 a2 a4 len2 cap2 len4 cap4 a3 pl 1048576 _ hz hml hpl hgl (by omega) (by omega) (wa.below T0))
    generalize hl : szR 1048576 pl len4 = l1 at *
    have HL : Hid (l1 = l1) := rfl
    clear hl hz hml hpl hgl wa wb hy hml' hpl' hgl' ga gb hgz hgy
    go_enter Try.func12, Try.ntmps12
    go_wp2_with fail
    refine HS1.out.mono ?_
    rintro e w1 ⟨rfl, hb⟩
    have T1 := bl_step T0 hb
    replace X1 := X1.below hb
    replace X2 := X2.below hb
    obtain ⟨c0, c1, c2, c3, c4⟩ := five_box X2
    clear hb
    go_wp2_with fail
    go_ret
    exact ⟨rfl, T1⟩
  · obtain ⟨f1, f2, f3, f4⟩ := szR_fits h1
    have hn2 : len2 ≤ 1048576 := by omega
    have hn4 : len4 ≤ 1048576 := by omega
    have hp2 : ∀ p ∈ pl, p.2.length ≤ 1048576 := fun p hp => by have := f2 p hp; omega
    have T0 : Below w.heap.size w ((w.alloc (.cells #[.int .i64 a0, .int .i64 a1, .slice a2 len2 cap2, .bool a3, .slice a4 len4 cap4] 70)).alloc (.cells #[.int .i64 a5, .int .i64 a6, .slice a7 len7 cap7, .bool a8, .slice a9 len9 cap9] 70)) := bl_al (bl_alloc _ _) _
    obtain ⟨X1, X2⟩ := two_boxes w #[.int .i64 a0, .int .i64 a1, .slice a2 len2 cap2, .bool a3, .slice a4 len4 cap4] #[.int .i64 a5, .int .i64 a6, .slice a7 len7 cap7, .bool a8, .slice a9 len9 cap9] 70
    have HS1 := Lib.hid (szRom_any a0 a1 a2 a4 len2 cap2 len4 cap4 a3 pl 1048576 _ hz hml hpl hgl (by omega) (by omega) (wa.below T0))
    generalize hl : szR 1048576 pl len4 = l1 at *
    have hl0 : 0 ≤ l1 := by omega
    clear f1 f2 f3 hl h1 hml hpl hgl
    by_cases h2 : szR l1 ql len9 < 0
    · have HS2 := Lib.hid (fun (W : World) (hW : Below w.heap.size w W) => szRom_any a5 a6 a7 a9 len7 cap7 len9 cap9 a8 ql l1 W hy hml' hpl' hgl' hl0 f4 (wb.below hW))
      generalize hl2 : szR l1 ql len9 = l2 at *
      clear hl2 hy hml' hpl' hgl' wa wb ga gb hz hgz hgy hp2 hn2 hn4
      go_enter Try.func12, Try.ntmps12
      go_wp2_with fail
      refine HS1.out.mono ?_
      rintro e w1 ⟨rfl, hb⟩
      have T1 := bl_step T0 hb
      replace X1 := X1.below hb
      replace X2 := X2.below hb
      obtain ⟨c0, c1, c2, c3, c4⟩ := five_box X2
      clear hb
      go_wp2_with fail
      refine (HS2.out _ T1).mono ?_
      rintro e w2 ⟨rfl, hb⟩
      have T2 := bl_step T1 hb
      clear hb
      go_wp2_with fail
      go_ret
      exact ⟨rfl, T2⟩
    · obtain ⟨f1, f2, f3, f5⟩ := szR_fits h2
      have hn7 : len7 ≤ 1048576 := by omega
      have hn9 : len9 ≤ 1048576 := by omega
      have hp7 : ∀ p ∈ ql, p.2.length ≤ 1048576 := fun p hp => by have := f2 p hp; omega
      have HS2 := Lib.hid (fun (W : World) (hW : Below w.heap.size w W) => szRom_any a5 a6 a7 a9 len7 cap7 len9 cap9 a8 ql l1 W hy hml' hpl' hgl' hl0 f4 (wb.below hW))
      have HTA := Lib.hid (fun (W : World) (hW : Below w.heap.size w W) => toRom_any a0 a1 a2 a4 len2 cap2 len4 cap4 a3 pl zs W hz hn2 hp2 (wa.below hW) hgz hn4 (ga.below hW))
      have HTB := Lib.hid (fun (W : World) (hW : Below w.heap.size w W) => toRom_any a5 a6 a7 a9 len7 cap7 len9 cap9 a8 ql ys W hy hn7 hp7 (wb.below hW) hgy hn9 (gb.below hW))
      have HSR := Lib.hid (fun (W : World) (u v ug vg : Option Addr) (_ : Unit) (r1 : WholesAt W u pl) (r2 : WholesAt W v ql) (r3 : RowAt .i64 W ug zs) (r4 : RowAt .i64 W vg ys) => sRomSame_any a0 a1 a5 a6 u v ug vg len2 len7 len2 len7 len4 len9 len4 len9 a3 a8 pl ql zs ys W hz hy hn2 hn7 hp2 hp7 r1 r2 hgz hgy hn4 hn9 r3 r4)
      have HIR := Lib.hid (fun (W : World) (u v ug vg : Option Addr) (r1 : WholesAt W u pl) (r2 : WholesAt W v ql) (r3 : RowAt .i64 W ug zs) (r4 : RowAt .i64 W vg ys) => iRomSame_any a0 a1 a5 a6 u v ug vg len2 len7 len2 len7 len4 len9 len4 len9 a3 a8 pl ql zs ys W hz hy hn2 hn7 hp2 hp7 r1 r2 hgz hgy hn4 hn9 r3 r4)
      have HEA := Lib.hid (fun (W : World) (u v ug vg : Option Addr) (_ : Unit) (r1 : WholesAt W u pl) (r2 : WholesAt W v pl) (r3 : RowAt .i64 W ug zs) (r4 : RowAt .i64 W vg zs) => eqRom_refl a0 a1 u v ug vg len2 len2 len2 len4 len4 len4 a3 pl zs W hz hn2 hp2 r1 r2 hgz hn4 r3 r4)
      have HEB := Lib.hid (fun (W : World) (u v ug vg : Option Addr) (_ : Unit) (r1 : WholesAt W u ql) (r2 : WholesAt W v ql) (r3 : RowAt .i64 W ug ys) (r4 : RowAt .i64 W vg ys) => eqRom_refl a5 a6 u v ug vg len7 len7 len7 len9 len9 len9 a8 ql ys W hy hn7 hp7 r1 r2 hgy hn9 r3 r4)
      generalize hl2 : szR l1 ql len9 = l2 at *
      generalize romB a0 a1 a5 a6 a3 a8 pl ql zs ys = bb at *
      have hbb : (bb != bb) = false := by cases bb <;> rfl
      clear hl2 hy hml' hpl' hgl' wa wb ga gb hz hgz hgy hp2 hn2 hn4 hn7 hn9 hp7 f1 f2 f3
      go_enter Try.func12, Try.ntmps12
      go_wp2_with fail
      refine HS1.out.mono ?_
      rintro e w1 ⟨rfl, hb⟩
      have T1 := bl_step T0 hb
      replace X1 := X1.below hb
      replace X2 := X2.below hb
      obtain ⟨c0, c1, c2, c3, c4⟩ := five_box X2
      clear hb
      go_wp2_with fail
      refine (HS2.out _ T1).mono ?_
      rintro e w3 ⟨rfl, hb⟩
      have T3 := bl_step T1 hb
      replace X1 := X1.below hb
      replace X2 := X2.below hb
      clear hb c0 c1 c2 c3 c4
      have HX1 := Lib.hid X1
      have HX2 := Lib.hid X2
      have K3 : Hid (∀ W : World, Below w3.heap.size w3 W → (W.cell? ⟨w.heap.size, 0, none⟩ = some (.int .i64 a0) ∧ W.cell? ⟨w.heap.size, 1, none⟩ = some (.int .i64 a1) ∧ W.cell? ⟨w.heap.size, 2, none⟩ = some (.slice a2 len2 cap2) ∧ W.cell? ⟨w.heap.size, 3, none⟩ = some (.bool a3) ∧ W.cell? ⟨w.heap.size, 4, none⟩ = some (.slice a4 len4 cap4)) ∧ (W.cell? ⟨w.heap.size + 1, 0, none⟩ = some (.int .i64 a5) ∧ W.cell? ⟨w.heap.size + 1, 1, none⟩ = some (.int .i64 a6) ∧ W.cell? ⟨w.heap.size + 1, 2, none⟩ = some (.slice a7 len7 cap7) ∧ W.cell? ⟨w.heap.size + 1, 3, none⟩ = some (.bool a8) ∧ W.cell? ⟨w.heap.size + 1, 4, none⟩ = some (.slice a9 len9 cap9))) := fun W hW => ⟨five_box (HX1.out.below hW), five_box (HX2.out.below hW)⟩
      have B1 := bl_drew w3
      have k0 := K3.out _ B1
      clear X1 X2
      go_wp2_with fail
      go_region_held3 (fun w' => (w'.cell? ⟨w.heap.size, 0, none⟩ = some (.int .i64 a0) ∧ w'.cell? ⟨w.heap.size, 1, none⟩ = some (.int .i64 a1) ∧ w'.cell? ⟨w.heap.size, 2, none⟩ = some (.slice a2 len2 cap2) ∧ w'.cell? ⟨w.heap.size, 3, none⟩ = some (.bool a3) ∧ w'.cell? ⟨w.heap.size, 4, none⟩ = some (.slice a4 len4 cap4)) ∧ (w'.cell? ⟨w.heap.size + 1, 0, none⟩ = some (.int .i64 a5) ∧ w'.cell? ⟨w.heap.size + 1, 1, none⟩ = some (.int .i64 a6) ∧ w'.cell? ⟨w.heap.size + 1, 2, none⟩ = some (.slice a7 len7 cap7) ∧ w'.cell? ⟨w.heap.size + 1, 3, none⟩ = some (.bool a8) ∧ w'.cell? ⟨w.heap.size + 1, 4, none⟩ = some (.slice a9 len9 cap9)))
        (first | with_reducible exact k3 | with_reducible exact k2 | with_reducible exact k1 | with_reducible exact k0)
        (first
        | (go_at_call 52; have q := B3; refine (HSR.out _ _ _ _ _ () ra2 rb2 ra2' rb2').mono ?_; rintro e u3 ⟨rfl, hb3⟩; have B4 := bl_step B3 hb3; have k3 := K3.out u3 B4)
        | (go_at_call 53; have q := B2; refine (HTB.out _ (bl_step T3 B2)).mono ?_; rintro e u2 ⟨t2, t2g, rfl, rb2, rb2', hb2⟩; have B3 := bl_step B2 hb2; have k2 := K3.out u2 B3; have ra2 := ra1.below hb2; have ra2' := ra1'.below hb2)
        | (go_at_call 53; refine (HTA.out _ (bl_step T3 B1)).mono ?_; rintro e u1 ⟨t1, t1g, rfl, ra1, ra1', hb1⟩; have B2 := bl_step B1 hb1; have k1 := K3.out u1 B2))
      have T4 := bl_step T3 B4
      have HX3 := Lib.hid (HX1.out.below B4)
      have HX4 := Lib.hid (HX2.out.below B4)
      obtain ⟨c0, c1, c2, c3, c4⟩ := five_box HX3.out
      clear k0 k1 k2 k3 K3 ra1 ra1' ra2 ra2' rb2 rb2' hb1 hb2 hb3 B1 B2 B3
      go_wp2_with fail
      refine (HTA.out _ T4).mono ?_
      rintro e w5 ⟨xa, xg, rfl, wx, gx, hb⟩
      have T5 := bl_al (bl_step T4 hb) (.cells #[.int .i64 a0, .int .i64 a1, .slice xa len2 len2, .bool a3, .slice xg len4 len4] 75)
      have hbx := bl_step hb (bl_alloc w5 (.cells #[.int .i64 a0, .int .i64 a1, .slice xa len2 len2, .bool a3, .slice xg len4 len4] 75))
      have HX5 := Lib.hid (HX3.out.below hbx)
      have HX6 := Lib.hid (HX4.out.below hbx)
      have XX5 := BoxAt.new w5 #[.int .i64 a0, .int .i64 a1, .slice xa len2 len2, .bool a3, .slice xg len4 len4] 75
      obtain ⟨Xb, hXb⟩ : ∃ Xb, Xb = w5.heap.size := ⟨_, rfl⟩
      rw [← hXb] at XX5
      replace wx := wx.below (bl_alloc w5 (.cells #[.int .i64 a0, .int .i64 a1, .slice xa len2 len2, .bool a3, .slice xg len4 len4] 75))
      replace gx := gx.below (bl_alloc w5 (.cells #[.int .i64 a0, .int .i64 a1, .slice xa len2 len2, .bool a3, .slice xg len4 len4] 75))
      obtain ⟨d0, d1, d2, d3, d4⟩ := five_box (HX4.out.below hb)
      have hdl := (HX4.out.below hb).lt
      clear c0 c1 c2 c3 c4 hb hbx
      go_wp2_with fail
      refine (HTB.out _ T5).mono ?_
      rintro e w6 ⟨ya, yg, rfl, wy, gy, hb⟩
      rw [← hXb]
      clear hXb
      have T6 := bl_al (bl_step T5 hb) (.cells #[.int .i64 a5, .int .i64 a6, .slice ya len7 len7, .bool a8, .slice yg len9 len9] 75)
      have hby := bl_step hb (bl_alloc w6 (.cells #[.int .i64 a5, .int .i64 a6, .slice ya len7 len7, .bool a8, .slice yg len9 len9] 75))
      have HX7 := Lib.hid (HX5.out.below hby)
      have HX8 := Lib.hid (HX6.out.below hby)
      have HXX := Lib.hid (XX5.below hby)
      have YY5 := BoxAt.new w6 #[.int .i64 a5, .int .i64 a6, .slice ya len7 len7, .bool a8, .slice yg len9 len9] 75
      obtain ⟨Yb, hYb⟩ : ∃ Yb, Yb = w6.heap.size := ⟨_, rfl⟩
      rw [← hYb] at YY5
      replace wx := wx.below hby
      replace gx := gx.below hby
      replace wy := wy.below (bl_alloc w6 (.cells #[.int .i64 a5, .int .i64 a6, .slice ya len7 len7, .bool a8, .slice yg len9 len9] 75))
      replace gy := gy.below (bl_alloc w6 (.cells #[.int .i64 a5, .int .i64 a6, .slice ya len7 len7, .bool a8, .slice yg len9 len9] 75))
      obtain ⟨e0, e1, e2, e3, e4⟩ := five_box (XX5.below hb)
      have hel := (XX5.below hb).lt
      clear d0 d1 d2 d3 d4 hdl hb hby
      go_wp2_with fail
      refine (HIR.out _ _ _ _ _ wx wy gx gy).mono ?_
      rintro e w7 ⟨rfl, hb⟩
      rw [← hYb]
      clear hYb
      have T7 := bl_step T6 hb
      have HX9 := Lib.hid (HX7.out.below hb)
      have HXa := Lib.hid (HX8.out.below hb)
      have HXXb := Lib.hid (HXX.out.below hb)
      have HYYb := Lib.hid (YY5.below hb)
      replace wx := wx.below hb
      replace gx := gx.below hb
      replace wy := wy.below hb
      replace gy := gy.below hb
      clear e0 e1 e2 e3 e4 hel hb XX5 YY5
      have K7 : Hid (∀ W : World, Below w7.heap.size w7 W → (W.cell? ⟨Xb, 0, none⟩ = some (.int .i64 a0) ∧ W.cell? ⟨Xb, 1, none⟩ = some (.int .i64 a1) ∧ W.cell? ⟨Xb, 2, none⟩ = some (.slice xa len2 len2) ∧ W.cell? ⟨Xb, 3, none⟩ = some (.bool a3) ∧ W.cell? ⟨Xb, 4, none⟩ = some (.slice xg len4 len4)) ∧ (W.cell? ⟨w.heap.size, 0, none⟩ = some (.int .i64 a0) ∧ W.cell? ⟨w.heap.size, 1, none⟩ = some (.int .i64 a1) ∧ W.cell? ⟨w.heap.size, 2, none⟩ = some (.slice a2 len2 cap2) ∧ W.cell? ⟨w.heap.size, 3, none⟩ = some (.bool a3) ∧ W.cell? ⟨w.heap.size, 4, none⟩ = some (.slice a4 len4 cap4))) := fun W hW => ⟨five_box (HXXb.out.below hW), five_box (HX9.out.below hW)⟩
      have C1 := bl_drew w7
      have m0 := K7.out _ C1
      go_wp2_with fail
      go_region_held3 (fun w' => (w'.cell? ⟨Xb, 0, none⟩ = some (.int .i64 a0) ∧ w'.cell? ⟨Xb, 1, none⟩ = some (.int .i64 a1) ∧ w'.cell? ⟨Xb, 2, none⟩ = some (.slice xa len2 len2) ∧ w'.cell? ⟨Xb, 3, none⟩ = some (.bool a3) ∧ w'.cell? ⟨Xb, 4, none⟩ = some (.slice xg len4 len4)) ∧ (w'.cell? ⟨w.heap.size, 0, none⟩ = some (.int .i64 a0) ∧ w'.cell? ⟨w.heap.size, 1, none⟩ = some (.int .i64 a1) ∧ w'.cell? ⟨w.heap.size, 2, none⟩ = some (.slice a2 len2 cap2) ∧ w'.cell? ⟨w.heap.size, 3, none⟩ = some (.bool a3) ∧ w'.cell? ⟨w.heap.size, 4, none⟩ = some (.slice a4 len4 cap4)))
        (first | with_reducible exact m2 | with_reducible exact m1 | with_reducible exact m0)
        (first
        | (go_at_call 55; have q := C2; refine (HEA.out _ _ _ _ _ () (wx.below C2) rc1 (gx.below C2) rc1').mono ?_; rintro e v2 ⟨rfl, hd2⟩; have C3 := bl_step C2 hd2; have m2 := K7.out v2 C3)
        | (go_at_call 53; refine (HTA.out _ (bl_step T7 C1)).mono ?_; rintro e v1 ⟨s1, s1g, rfl, rc1, rc1', hd1⟩; have C2 := bl_step C1 hd1; have m1 := K7.out v1 C2))
      have T8 := bl_step T7 C3
      replace wy := wy.below C3
      replace gy := gy.below C3
      have HYYc := Lib.hid (HYYb.out.below C3)
      have HXc := Lib.hid (HXa.out.below C3)
      clear m0 m1 m2 K7 rc1 rc1' hd1 hd2 C1 C2
      have K8 : Hid (∀ W : World, Below v2.heap.size v2 W → (W.cell? ⟨Yb, 0, none⟩ = some (.int .i64 a5) ∧ W.cell? ⟨Yb, 1, none⟩ = some (.int .i64 a6) ∧ W.cell? ⟨Yb, 2, none⟩ = some (.slice ya len7 len7) ∧ W.cell? ⟨Yb, 3, none⟩ = some (.bool a8) ∧ W.cell? ⟨Yb, 4, none⟩ = some (.slice yg len9 len9)) ∧ (W.cell? ⟨w.heap.size + 1, 0, none⟩ = some (.int .i64 a5) ∧ W.cell? ⟨w.heap.size + 1, 1, none⟩ = some (.int .i64 a6) ∧ W.cell? ⟨w.heap.size + 1, 2, none⟩ = some (.slice a7 len7 cap7) ∧ W.cell? ⟨w.heap.size + 1, 3, none⟩ = some (.bool a8) ∧ W.cell? ⟨w.heap.size + 1, 4, none⟩ = some (.slice a9 len9 cap9))) := fun W hW => ⟨five_box (HYYc.out.below hW), five_box (HXc.out.below hW)⟩
      have D1 := bl_drew v2
      have n0 := K8.out _ D1
      go_wp2_with fail
      go_region_held3 (fun w' => (w'.cell? ⟨Yb, 0, none⟩ = some (.int .i64 a5) ∧ w'.cell? ⟨Yb, 1, none⟩ = some (.int .i64 a6) ∧ w'.cell? ⟨Yb, 2, none⟩ = some (.slice ya len7 len7) ∧ w'.cell? ⟨Yb, 3, none⟩ = some (.bool a8) ∧ w'.cell? ⟨Yb, 4, none⟩ = some (.slice yg len9 len9)) ∧ (w'.cell? ⟨w.heap.size + 1, 0, none⟩ = some (.int .i64 a5) ∧ w'.cell? ⟨w.heap.size + 1, 1, none⟩ = some (.int .i64 a6) ∧ w'.cell? ⟨w.heap.size + 1, 2, none⟩ = some (.slice a7 len7 cap7) ∧ w'.cell? ⟨w.heap.size + 1, 3, none⟩ = some (.bool a8) ∧ w'.cell? ⟨w.heap.size + 1, 4, none⟩ = some (.slice a9 len9 cap9)))
        (first | with_reducible exact n2 | with_reducible exact n1 | with_reducible exact n0)
        (first
        | (go_at_call 55; have q := D2; refine (HEB.out _ _ _ _ _ () (wy.below D2) rd1 (gy.below D2) rd1').mono ?_; rintro e z2 ⟨rfl, hf2⟩; have D3 := bl_step D2 hf2; have n2 := K8.out z2 D3)
        | (go_at_call 53; refine (HTB.out _ (bl_step T8 D1)).mono ?_; rintro e z1 ⟨p1, p1g, rfl, rd1, rd1', hf1⟩; have D2 := bl_step D1 hf1; have n1 := K8.out z1 D2))
      go_wp2
      go_ret
      exact ⟨rfl, bl_step T8 D3⟩
end Go.Proofs.Ytmgdfefffgjddaa
