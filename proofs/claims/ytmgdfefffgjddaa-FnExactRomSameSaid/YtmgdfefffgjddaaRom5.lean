/-
  PROVED: contracts of the size, the copying and the comparing of tables.
  CONDITIONS: none.
-/
import Derived.Test.YtmgdfefffgjddaaRom4
namespace Go.Proofs.Ytmgdfefffgjddaa
open Go.ChangeShapes Go.WideShapes Go.ChangeAt Go.RowKit
set_option linter.unusedVariables false
def szR (left : Int) (pl : List (Bool × List Int)) (gn : Nat) : Int := if szWS left pl < 0 then -1 else szB (szWS left pl) gn
theorem szR_fits {left : Int} {pl : List (Bool × List Int)} {gn : Nat} (h : ¬ szR left pl gn < 0) : (pl.length : Int) ≤ left ∧ (∀ p ∈ pl, (p.2.length : Int) ≤ left) ∧ (gn : Int) ≤ left ∧ szR left pl gn ≤ left := by
  unfold szR at h ⊢
  split at h
  · omega
  · rename_i h1
    obtain ⟨h2, h3, h4⟩ := szWS_fits h1
    obtain ⟨h5, h6⟩ := szB_fits h
    rw [if_neg h1]
    exact ⟨h2, h4, by omega, by omega⟩
theorem szR_no {left : Int} {pl : List (Bool × List Int)} {gn : Nat} (h : szWS left pl < 0) : szR left pl gn = -1 := if_pos h
theorem szR_yes {left : Int} {pl : List (Bool × List Int)} {gn : Nat} (h : ¬ szWS left pl < 0) : szR left pl gn = szB (szWS left pl) gn := if_neg h
theorem szL_m1 : ∀ {pl : List (Bool × List Int)} {left : Int}, szL left pl < 0 → 0 ≤ left → szL left pl = -1
  | [], left, h, h0 => by exfalso; unfold szL at h; omega
  | p :: r, left, h, h0 => by
    by_cases h1 : szB left p.2.length < 0
    · exact szL_neg h1
    · rw [szL_pos h1] at h ⊢
      exact szL_m1 h (by omega)
theorem szWS_ge (left : Int) (pl : List (Bool × List Int)) : ¬ szWS left pl < 0 ∨ szWS left pl = -1 := by
  by_cases h : szWS left pl < 0
  · right
    unfold szWS at h ⊢
    by_cases h1 : left - pl.length < 0
    · rw [if_pos h1]
    · rw [if_neg h1] at h ⊢
      exact szL_m1 h (by omega)
  · exact .inl h
set_option maxHeartbeats 1000000 in
theorem szRom_any (P N : Int) (a ga : Option Addr) (n c gn gc : Nat) (g : Bool) (pl : List (Bool × List Int)) (left : Int) (w : World) (hz : pl.length = n) (hn : n ≤ 9223372036854775807) (hp : ∀ p ∈ pl, p.2.length ≤ 9223372036854775807) (hg : gn ≤ 9223372036854775807) (hl : 0 ≤ left) (hl2 : left ≤ 1048576) (ha : WholesAt w a pl) :
    Calls Try.prog 51 #[.agg #[.int .i64 P, .int .i64 N, .slice a n c, .bool g, .slice ga gn gc], .int .i64 left] w fun e w' => e = .returned (.int .i64 (szR left pl gn)) ∧ Below w.heap.size w w' := by
  have hb0 := bl_alloc w (.cells #[.int .i64 P, .int .i64 N, .slice a n c, .bool g, .slice ga gn gc] 70)
  have X0 := BoxAt.new w #[.int .i64 P, .int .i64 N, .slice a n c, .bool g, .slice ga gn gc] 70
  have HSZ := Lib.hid (szWholeS_any a n c pl left _ hz hn hp hl hl2 (ha.below hb0))
  clear ha hp
  by_cases h : szWS left pl < 0
  · have HR := Lib.hid (szR_no (gn := gn) h)
    have hm : szWS left pl = -1 := (szWS_ge left pl).resolve_left (fun h2 => h2 h)
    rw [hm] at HSZ
    rw [HR.out]
    clear h hm
    go_enter Try.func51, Try.ntmps51
    go_wp2_with fail
    refine HSZ.out.mono ?_
    rintro e w1 ⟨rfl, hb1⟩
    go_wp2_with fail
    go_ret
    exact ⟨rfl, bl_step hb0 hb1⟩
  · have HR := Lib.hid (szR_yes (gn := gn) h)
    obtain ⟨_, hf2, _⟩ := szWS_fits h
    rw [HR.out]
    clear HR
    generalize szWS left pl = l1 at *
    have hg1 := szB_ge l1 gn
    go_enter Try.func51, Try.ntmps51
    go_wp2_with fail
    refine HSZ.out.mono ?_
    rintro e w1 ⟨rfl, hb1⟩
    obtain ⟨x0, x1, x2, x3, x4⟩ := five_box (X0.below hb1)
    go_wp2_with fail
    refine (szWhole_any g ga gn gc l1 _ hg (by omega) (by omega)).mono ?_
    rintro e w2 ⟨rfl, hb2⟩
    by_cases h2 : szB l1 gn < 0
    · have hm : szB l1 gn = -1 := by omega
      generalize hq : szB l1 gn = l2 at *
      have HQ := Lib.hid hq
      clear hq
      subst hm
      go_wp2_with fail
      go_ret
      exact ⟨ret_int HQ.out.symm, bl_step hb0 (bl_step hb1 hb2)⟩
    · generalize hq : szB l1 gn = l2 at *
      have HQ := Lib.hid hq
      clear hq
      go_wp2_with fail
      go_ret
      exact ⟨ret_int HQ.out.symm, bl_step hb0 (bl_step hb1 hb2)⟩
theorem rowAt_out {K : IntKind} {w w' : World} {a : Option Addr} {zs : List Int} {lo hi : Nat} (h : RowAt K w a zs) (ho : Out lo hi w w') (hl : w.heap.size ≤ lo) : RowAt K w' a zs := by
  rcases h with h | ⟨b, off, ha, hlt, hc⟩
  · exact .inl h
  · exact .inr ⟨b, off, ha, Nat.lt_of_lt_of_le hlt ho.size, fun i hi => (World.cell?_of_block (w := w) (w' := w') (a := ⟨b, off + i, none⟩) (ho.block b hlt (.inl (by omega)))).trans (hc i hi)⟩
def RomRet (P N : Int) (g : Bool) (n gn : Nat) (pl : List (Bool × List Int)) (zs : List Int) (w : World) : Ending → World → Prop := fun e w' =>
  ∃ a' ga', e = .returned (.agg #[.int .i64 P, .int .i64 N, .slice a' n n, .bool g, .slice ga' gn gn]) ∧ WholesAt w' a' pl ∧ RowAt .i64 w' ga' zs ∧ Below w.heap.size w w'
theorem set5h {w : World} {r : Nat} {t : TypeId} {u0 u1 u2 u3 u4 : Value} (h : w.heap[r]? = some (.cells #[u0, u1, u2, u3, u4] t (0, 0))) (x y z p q : Value) :
    (((((w.setCell ⟨r, 0, none⟩ x).setCell ⟨r, 1, none⟩ y).setCell ⟨r, 2, none⟩ z).setCell ⟨r, 3, none⟩ p).setCell ⟨r, 4, none⟩ q).heap[r]? = some (.cells #[x, y, z, p, q] t (0, 0)) :=
  setCell_block (setCell_block (setCell_block (setCell_block (setCell_block h (i := 0) x) (i := 1) y) (i := 2) z) (i := 3) p) (i := 4) q
theorem out5h {w : World} {r : Nat} (x y z p q : Value) : Out r (r + 1) w (((((w.setCell ⟨r, 0, none⟩ x).setCell ⟨r, 1, none⟩ y).setCell ⟨r, 2, none⟩ z).setCell ⟨r, 3, none⟩ p).setCell ⟨r, 4, none⟩ q) :=
  (((((Out.refl r (r + 1) w).setCell (Nat.le_refl _) (Nat.lt_succ_self _) 0 x).setCell (Nat.le_refl _) (Nat.lt_succ_self _) 1 y).setCell (Nat.le_refl _) (Nat.lt_succ_self _) 2 z).setCell (Nat.le_refl _) (Nat.lt_succ_self _) 3 p).setCell (Nat.le_refl _) (Nat.lt_succ_self _) 4 q
theorem Out.wide {lo hi lo' hi' : Nat} {w w' : World} (h : Out lo hi w w') (h1 : lo' ≤ lo) (h2 : hi ≤ hi') : Out lo' hi' w w' := ⟨h.os, h.tape, h.output, h.size, fun b hb hd => h.block b hb (by omega)⟩
theorem Out.next {lo hi : Nat} {w w1 w2 : World} (h : Out lo hi w w1) (k : Out lo hi w1 w2) : Out lo hi w w2 :=
  ⟨k.os.trans h.os, k.tape.trans h.tape, k.output.trans h.output, Nat.le_trans h.size k.size, fun b h1 h2 => (k.block b (Nat.lt_of_lt_of_le h1 h.size) h2).trans (h.block b h1 h2)⟩
theorem Out.bel {lo hi : Nat} {w w1 : World} (h : Below w.heap.size w w1) : Out lo hi w w1 := ⟨h.os, h.tape, h.output, h.size, fun b hb _ => h.block b hb⟩
set_option maxHeartbeats 4000000 in
theorem toRom_any (P N : Int) (a ga : Option Addr) (n c gn gc : Nat) (g : Bool) (pl : List (Bool × List Int)) (zs : List Int) (w : World) (hz : pl.length = n) (hn : n ≤ 1048576) (hp : ∀ p ∈ pl, p.2.length ≤ 1048576) (ha : WholesAt w a pl) (hgz : zs.length = gn) (hgn : gn ≤ 1048576) (hga : RowAt .i64 w ga zs) :
    Calls Try.prog 53 #[.agg #[.int .i64 P, .int .i64 N, .slice a n c, .bool g, .slice ga gn gc]] w (RomRet P N g n gn pl zs w) := by
  have hW0 : Below w.heap.size w (((w.alloc (.cells #[.int .i64 P, .int .i64 N, .slice a n c, .bool g, .slice ga gn gc] 70)).alloc (.cells #[.int .i64 0, .int .i64 0, .slice none 0 0, .bool false, .slice none 0 0] 75)).alloc (.cells #[.int .i64 P, .int .i64 N, .slice none 0 0, .bool false, .slice none 0 0] 75)) := bl_al (bl_al (bl_alloc _ _) _) _
  have e1 : (w.alloc (.cells #[.int .i64 P, .int .i64 N, .slice a n c, .bool g, .slice ga gn gc] 70)).heap.size = w.heap.size + 1 := by simp
  have e2 : ((w.alloc (.cells #[.int .i64 P, .int .i64 N, .slice a n c, .bool g, .slice ga gn gc] 70)).alloc (.cells #[.int .i64 0, .int .i64 0, .slice none 0 0, .bool false, .slice none 0 0] 75)).heap.size = w.heap.size + 1 + 1 := by simp
  have e3 : ((((w.alloc (.cells #[.int .i64 P, .int .i64 N, .slice a n c, .bool g, .slice ga gn gc] 70)).alloc (.cells #[.int .i64 0, .int .i64 0, .slice none 0 0, .bool false, .slice none 0 0] 75)).alloc (.cells #[.int .i64 P, .int .i64 N, .slice none 0 0, .bool false, .slice none 0 0] 75))).heap.size = w.heap.size + 1 + 1 + 1 := by simp
  have hA0 : ((((w.alloc (.cells #[.int .i64 P, .int .i64 N, .slice a n c, .bool g, .slice ga gn gc] 70)).alloc (.cells #[.int .i64 0, .int .i64 0, .slice none 0 0, .bool false, .slice none 0 0] 75)).alloc (.cells #[.int .i64 P, .int .i64 N, .slice none 0 0, .bool false, .slice none 0 0] 75))).heap[w.heap.size]? = some (.cells #[.int .i64 P, .int .i64 N, .slice a n c, .bool g, .slice ga gn gc] 70 (0, 0)) := ((bl_al (bl_alloc (w.alloc (.cells #[.int .i64 P, .int .i64 N, .slice a n c, .bool g, .slice ga gn gc] 70)) (.cells #[.int .i64 0, .int .i64 0, .slice none 0 0, .bool false, .slice none 0 0] 75)) _).block w.heap.size (by omega)).trans (heap_alloc_new w _)
  have hR0 : ((((w.alloc (.cells #[.int .i64 P, .int .i64 N, .slice a n c, .bool g, .slice ga gn gc] 70)).alloc (.cells #[.int .i64 0, .int .i64 0, .slice none 0 0, .bool false, .slice none 0 0] 75)).alloc (.cells #[.int .i64 P, .int .i64 N, .slice none 0 0, .bool false, .slice none 0 0] 75))).heap[w.heap.size + 1]? = some (.cells #[.int .i64 0, .int .i64 0, .slice none 0 0, .bool false, .slice none 0 0] 75 (0, 0)) := ((bl_alloc ((w.alloc (.cells #[.int .i64 P, .int .i64 N, .slice a n c, .bool g, .slice ga gn gc] 70)).alloc (.cells #[.int .i64 0, .int .i64 0, .slice none 0 0, .bool false, .slice none 0 0] 75)) _).block (w.heap.size + 1) (by omega)).trans (by rw [← e1]; exact heap_alloc_new _ _)
  have hO0 : ((((w.alloc (.cells #[.int .i64 P, .int .i64 N, .slice a n c, .bool g, .slice ga gn gc] 70)).alloc (.cells #[.int .i64 0, .int .i64 0, .slice none 0 0, .bool false, .slice none 0 0] 75)).alloc (.cells #[.int .i64 P, .int .i64 N, .slice none 0 0, .bool false, .slice none 0 0] 75))).heap[w.heap.size + 1 + 1]? = some (.cells #[.int .i64 P, .int .i64 N, .slice none 0 0, .bool false, .slice none 0 0] 75 (0, 0)) := by rw [← e2]; exact heap_alloc_new _ _
  have HA0 := Lib.hid hA0
  have HR0 := Lib.hid hR0
  have HO0 := Lib.hid hO0
  have HTS := Lib.hid (toWholeS_any a n c pl _ hz hn hp (ha.below hW0))
  have HGA := Lib.hid (fun (W : World) (o : Out (w.heap.size + 1) (w.heap.size + 1 + 1 + 1) w W) => show RowAt .i64 W ga zs from rowAt_out hga o (Nat.le_succ _))
  rw [e3] at HTS
  have E3 := Lib.hid e3
  clear ha hp hz hA0 hR0 hO0 e1 e2 e3 hga
  go_enter Try.func53, Try.ntmps53
  go_wp2_with fail
  refine HTS.out.mono ?_
  rintro e w1 ⟨rfl, hws, hb1⟩
  rw [← E3.out] at hb1
  have HWS := Lib.hid hws; clear hws
  have HSZ1 : Hid (w.heap.size + 1 + 1 + 1 ≤ w1.heap.size) := by show _ ≤ _; rw [← E3.out]; exact hb1.size
  have lA : w.heap.size < ((((w.alloc (.cells #[.int .i64 P, .int .i64 N, .slice a n c, .bool g, .slice ga gn gc] 70)).alloc (.cells #[.int .i64 0, .int .i64 0, .slice none 0 0, .bool false, .slice none 0 0] 75)).alloc (.cells #[.int .i64 P, .int .i64 N, .slice none 0 0, .bool false, .slice none 0 0] 75))).heap.size := lt_of_heap HA0.out
  have hA1 := (hb1.block w.heap.size (lt_of_heap HA0.out)).trans HA0.out
  have hR1 := (hb1.block (w.heap.size + 1) (lt_of_heap HR0.out)).trans HR0.out
  have hO1 := (hb1.block (w.heap.size + 1 + 1) (lt_of_heap HO0.out)).trans HO0.out
  have HB1 := Lib.hid (bl_step hW0 hb1)
  clear hb1 lA
  -- the world behind the first store
  have hA2 : (w1.setCell ⟨w.heap.size + 1 + 1, 2, none⟩ (.slice (some ⟨w.heap.size + 1 + 1 + 1, 0, none⟩) n n)).heap[w.heap.size]? = _ := (Below.heap_setCell w1 _ _ w.heap.size (by simp; omega)).trans hA1
  have hR2 : (w1.setCell ⟨w.heap.size + 1 + 1, 2, none⟩ (.slice (some ⟨w.heap.size + 1 + 1 + 1, 0, none⟩) n n)).heap[w.heap.size + 1]? = _ := (Below.heap_setCell w1 _ _ (w.heap.size + 1) (by simp)).trans hR1
  have hO2 := setCell_block hO1 (i := 2) (.slice (some ⟨w.heap.size + 1 + 1 + 1, 0, none⟩) n n)
  have HO12 : Hid (Out (w.heap.size + 1) (w.heap.size + 1 + 1 + 1) w1 (w1.setCell ⟨w.heap.size + 1 + 1, 2, none⟩ (.slice (some ⟨w.heap.size + 1 + 1 + 1, 0, none⟩) n n))) := (Out.refl _ _ _).setCell (by omega) (by omega) _ _
  have HTW := Lib.hid (toWhole_any g ga gn gc zs _ hgz hgn (HGA.out _ ((Out.bel HB1.out).next HO12.out)))
  obtain ⟨s0, s1, s2, s3, s4⟩ := five_box (w := w1) ⟨lt_of_heap hO1, fun i => cell_of_heap hO1 i⟩
  have sf := free_of_heap hO1
  obtain ⟨x0, x1, x2, x3, x4⟩ := five_box (w := w1.setCell ⟨w.heap.size + 1 + 1, 2, none⟩ (.slice (some ⟨w.heap.size + 1 + 1 + 1, 0, none⟩) n n)) ⟨lt_of_heap hA2, fun i => cell_of_heap hA2 i⟩
  have HA2 := Lib.hid hA2
  have HR2 := Lib.hid hR2
  have HO2 := Lib.hid hO2
  clear hA1 hR1 hO1 hA2 hR2 hO2
  go_wp2_with fail
  refine HTW.out.mono ?_
  rintro e w2 ⟨B, hB, rfl, hrow, hb2⟩
  have HROW := Lib.hid hrow; clear hrow
  have hR3 := (hb2.block (w.heap.size + 1) (lt_of_heap HR2.out)).trans HR2.out
  have hO3 := (hb2.block (w.heap.size + 1 + 1) (lt_of_heap HO2.out)).trans HO2.out
  have HSZ2 : Hid (w.heap.size + 1 + 1 + 1 ≤ B) := by
    have h1 := HO12.out.size
    have h2 := HSZ1.out
    show _ ≤ _; omega
  have HO23 : Hid (Out (w.heap.size + 1) (w.heap.size + 1 + 1 + 1) w1 w2) := HO12.out.next (Out.bel hb2)
  have hO4 := setCell_block (setCell_block hO3 (i := 3) (.bool g)) (i := 4) (.slice (some ⟨B, 0, none⟩) gn gn)
  have hR4 : ((w2.setCell ⟨w.heap.size + 1 + 1, 3, none⟩ (.bool g)).setCell ⟨w.heap.size + 1 + 1, 4, none⟩ (.slice (some ⟨B, 0, none⟩) gn gn)).heap[w.heap.size + 1]? = _ := (Below.heap_setCell _ _ _ (w.heap.size + 1) (by simp)).trans ((Below.heap_setCell w2 _ _ (w.heap.size + 1) (by simp)).trans hR3)
  have HO34 : Hid (Out (w.heap.size + 1) (w.heap.size + 1 + 1 + 1) w2 ((w2.setCell ⟨w.heap.size + 1 + 1, 3, none⟩ (.bool g)).setCell ⟨w.heap.size + 1 + 1, 4, none⟩ (.slice (some ⟨B, 0, none⟩) gn gn))) := ((Out.refl _ _ _).setCell (by omega) (by omega) _ _).setCell (by omega) (by omega) _ _
  obtain ⟨t0, t1, t2, t3, t4⟩ := five_box (w := w2) ⟨lt_of_heap hO3, fun i => cell_of_heap hO3 i⟩
  have tf := free_of_heap hO3
  obtain ⟨y0, y1, y2, y3, y4⟩ := five_box (w := (w2.setCell ⟨w.heap.size + 1 + 1, 3, none⟩ (.bool g)).setCell ⟨w.heap.size + 1 + 1, 4, none⟩ (.slice (some ⟨B, 0, none⟩) gn gn)) ⟨lt_of_heap hO4, fun i => cell_of_heap hO4 i⟩
  obtain ⟨r0, r1, r2, r3, r4⟩ := five_box (w := (w2.setCell ⟨w.heap.size + 1 + 1, 3, none⟩ (.bool g)).setCell ⟨w.heap.size + 1 + 1, 4, none⟩ (.slice (some ⟨B, 0, none⟩) gn gn)) ⟨lt_of_heap hR4, fun i => cell_of_heap hR4 i⟩
  have rf := free_of_heap hR4
  have h5 := set5h hR4 (.int .i64 P) (.int .i64 N) (.slice (some ⟨w.heap.size + 1 + 1 + 1, 0, none⟩) n n) (.bool g) (.slice (some ⟨B, 0, none⟩) gn gn)
  have g0 := cell_of_heap h5 0
  have g1 := cell_of_heap h5 1
  have g2 := cell_of_heap h5 2
  have g3 := cell_of_heap h5 3
  have g4 := cell_of_heap h5 4
  have HO45 : Hid (Out (w.heap.size + 1) (w.heap.size + 1 + 1 + 1) w2 _) := HO34.out.next ((out5h (r := w.heap.size + 1) (.int .i64 P) (.int .i64 N) (.slice (some ⟨w.heap.size + 1 + 1 + 1, 0, none⟩) n n) (.bool g) (.slice (some ⟨B, 0, none⟩) gn gn)).wide (Nat.le_refl _) (by omega))
  clear hO3 hR3 hO4 hR4 h5 hb2
  go_wp2_with fail
  try simp only [Exit.inBlock, Exit.then]
  refine bodyPost_ret (v := .agg #[.int .i64 P, .int .i64 N, .slice (some ⟨w.heap.size + 1 + 1 + 1, 0, none⟩) n n, .bool g, .slice (some ⟨B, 0, none⟩) gn gn]) (by simp [results, Try.results53, go_sem, g0, g1, g2, g3, g4]) rfl ?_
  exact ⟨_, _, rfl, HWS.out _ _ _ (HO23.out.next HO45.out) (Nat.le_refl _), RowAt.out HROW.out HO45.out (.inr HSZ2.out), below_out HB1.out (HO23.out.next HO45.out) (Nat.le_succ _)⟩
set_option maxHeartbeats 2000000 in
theorem eqRom_refl (P N : Int) (a a' ga ga' : Option Addr) (n c c' gn gc gc' : Nat) (g : Bool) (pl : List (Bool × List Int)) (zs : List Int) (w : World) (hz : pl.length = n) (hn : n ≤ 1048576) (hp : ∀ p ∈ pl, p.2.length ≤ 1048576) (ha : WholesAt w a pl) (ha' : WholesAt w a' pl) (hgz : zs.length = gn) (hgn : gn ≤ 1048576) (hga : RowAt .i64 w ga zs) (hga' : RowAt .i64 w ga' zs) :
    Calls Try.prog 55 #[.agg #[.int .i64 P, .int .i64 N, .slice a n c, .bool g, .slice ga gn gc], .agg #[.int .i64 P, .int .i64 N, .slice a' n c', .bool g, .slice ga' gn gc']] w fun e w' => e = .returned (.bool true) ∧ Below w.heap.size w w' := by
  have hW0 : Below w.heap.size w ((w.alloc (.cells #[.int .i64 P, .int .i64 N, .slice a n c, .bool g, .slice ga gn gc] 75)).alloc (.cells #[.int .i64 P, .int .i64 N, .slice a' n c', .bool g, .slice ga' gn gc'] 75)) := bl_al (bl_alloc _ _) _
  obtain ⟨X0, Y0⟩ := two_boxes w #[.int .i64 P, .int .i64 N, .slice a n c, .bool g, .slice ga gn gc] #[.int .i64 P, .int .i64 N, .slice a' n c', .bool g, .slice ga' gn gc'] 75
  have HES := Lib.hid (eqWholeS_refl a a' n c c' pl _ hz hn hp (ha.below hW0) (ha'.below hW0))
  have HEW := Lib.hid (fun (W : World) (hW : Below w.heap.size w W) => eqWhole_eq g ga ga' gn gc gc' zs W hgz hgn (hga.below hW) (hga'.below hW))
  clear ha ha' hga hga' hp hz hgz
  go_enter Try.func55, Try.ntmps55
  go_wp2_with fail
  refine HES.out.mono ?_
  rintro e w1 ⟨rfl, hb1⟩
  obtain ⟨x0, x1, x2, x3, x4⟩ := five_box (X0.below hb1)
  obtain ⟨y0, y1, y2, y3, y4⟩ := five_box (Y0.below hb1)
  clear X0 Y0
  go_wp2_with fail
  refine (HEW.out _ (bl_step hW0 hb1)).mono ?_
  rintro e w2 ⟨rfl, hb2⟩
  go_wp2_with fail
  go_ret
  exact ⟨rfl, bl_step hW0 (bl_step hb1 hb2)⟩
end Go.Proofs.Ytmgdfefffgjddaa
