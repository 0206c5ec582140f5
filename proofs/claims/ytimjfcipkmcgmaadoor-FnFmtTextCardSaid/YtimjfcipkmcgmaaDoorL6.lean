/-
  PROVED: contracts of the draws of a format.
  CONDITIONS: none.
-/
import Derived.Test.YtimjfcipkmcgmaaDoorCur3
import Derived.Deep.RegionHeld3
namespace Go.Proofs.YtimjfcipkmcgmaaDoor
open Go.ChangeShapes Go.WideShapes Go.ChangeAt Go.RowKit
set_option linter.unusedVariables false
/-- a cursor in block g and boxes of three cells, whatever else has been laid since w0 -/
structure Inv (w0 w : World) (g : Nat) (S : Src) (H : List (Nat × Array Value)) : Prop where
  cur : ∃ i h, CurAt w g S i h
  own : w0.grownBy w (some g)
  src : ∀ b off, S.a = some ⟨b, off, none⟩ → 0 < S.l.length → b < w0.heap.size
  box : ∀ p ∈ H, w.heap[p.1]? = some (.cells p.2 23 (0, 0)) ∧ p.1 ≠ g
theorem Inv.below {w0 w w' : World} {g : Nat} {S : Src} {H : List (Nat × Array Value)} (h : Inv w0 w g S H) (hb : Below w.heap.size w w') : Inv w0 w' g S H :=
  ⟨let ⟨i, x, hc⟩ := h.cur; ⟨i, x, hc.below hb⟩, only_step h.own (only_of_below hb _), h.src, fun p hp => ⟨(hb.block p.1 (lt_of_heap (h.box p hp).1)).trans (h.box p hp).1, (h.box p hp).2⟩⟩
theorem Inv.grown {w0 w w' : World} {g : Nat} {S : Src} {H : List (Nat × Array Value)} {i : Nat} {x : Int} (h : Inv w0 w g S H) (hc : CurAt w' g S i x) (ho : w.grownBy w' (some g)) : Inv w0 w' g S H :=
  ⟨⟨i, x, hc⟩, only_step h.own ho, h.src, fun p hp => ⟨(ho.block p.1 (lt_of_heap (h.box p hp).1) (fun e => (h.box p hp).2 (by injection e))).trans (h.box p hp).1, (h.box p hp).2⟩⟩
theorem Inv.add {w0 w : World} {g : Nat} {S : Src} {H : List (Nat × Array Value)} (h : Inv w0 w g S H) (cs : Array Value) : Inv w0 (w.alloc (.cells cs 23)) g S ((w.heap.size, cs) :: H) := by
  have h1 := h.below (bl_alloc w (.cells cs 23))
  refine ⟨h1.cur, h1.own, h1.src, fun p hp => ?_⟩
  rcases List.mem_cons.1 hp with rfl | hp
  · obtain ⟨i, x, hc⟩ := h.cur
    have := hc.lt
    exact ⟨heap_alloc_new w _, by omega⟩
  · exact h1.box p hp
theorem Inv.three {w0 w : World} {g : Nat} {S : Src} {H : List (Nat × Array Value)} {b : Nat} {c0 c1 c2 : Value} (h : Inv w0 w g S H) (hm : (b, #[c0, c1, c2]) ∈ H) :
    w.cell? ⟨b, 0, none⟩ = some c0 ∧ w.cell? ⟨b, 1, none⟩ = some c1 ∧ w.cell? ⟨b, 2, none⟩ = some c2 :=
  ⟨cell_of_heap (h.box _ hm).1 0, cell_of_heap (h.box _ hm).1 1, cell_of_heap (h.box _ hm).1 2⟩
theorem Inv.free {w0 w : World} {g : Nat} {S : Src} {H : List (Nat × Array Value)} {b : Nat} {cs : Array Value} (h : Inv w0 w g S H) (hm : (b, cs) ∈ H) : ∀ i, w.frozen? ⟨b, i, none⟩ = false := free_of_heap (h.box _ hm).1
theorem Inv.drew {w0 w : World} {g : Nat} {S : Src} {H : List (Nat × Array Value)} (h : Inv w0 w g S H) : Inv w0 w.drew g S H := h.below (bl_drew w)
theorem inv_below {w0 w : World} {g : Nat} {S : Src} {H : List (Nat × Array Value)} (h : Inv w0 w g S H) (n : Int) (hn : 0 < n) :
    Calls Tryd.prog 46 #[.pointer (some ⟨g, 0, none⟩), .int .i64 n] w fun e w' => ∃ v, e = .returned (.int .i64 v) ∧ (0 ≤ v ∧ v < n) ∧ Inv w0 w' g S H := by
  obtain ⟨i, x, hc⟩ := h.cur
  exact (l1Below_pos w g S i x n hc hn).mono fun e w' ⟨v, i', h', he, hv, hc', ho⟩ => ⟨v, he, hv, h.grown hc' ho⟩
theorem inv_below_any {w0 w : World} {g : Nat} {S : Src} {H : List (Nat × Array Value)} (h : Inv w0 w g S H) (n : Int) :
    Calls Tryd.prog 46 #[.pointer (some ⟨g, 0, none⟩), .int .i64 n] w fun e w' => ∃ v, e = .returned (.int .i64 v) ∧ Inv w0 w' g S H := by
  obtain ⟨i, x, hc⟩ := h.cur
  exact (l1Below_any w g S i x n hc).mono fun e w' ⟨v, i', h', he, hv, hc', ho⟩ => ⟨v, he, h.grown hc' ho⟩
theorem inv_once {w0 w : World} {g : Nat} {S : Src} {H : List (Nat × Array Value)} (h : Inv w0 w g S H) (n : Int) :
    Calls Tryd.prog 36 #[.pointer (some ⟨g, 0, none⟩), .int .i64 n] w fun e w' => ∃ v, e = .returned (.bool v) ∧ Inv w0 w' g S H := by
  obtain ⟨i, x, hc⟩ := h.cur
  exact (l1Once_any w g S i x n hc).mono fun e w' ⟨v, i', h', he, hc', ho⟩ => ⟨v, he, h.grown hc' ho⟩
theorem inv_pick {w0 w : World} {g : Nat} {S : Src} {H : List (Nat × Array Value)} (h : Inv w0 w g S H) (A : Array Value) (m : Nat) (T : TypeId) (hA : ∀ x ∈ A.toList, ∃ v, x = Value.int .i64 v) (hx : A.size = m) (hm : 0 < m) (hm2 : m ≤ 1000) :
    Calls Tryd.prog 42 #[.pointer (some ⟨g, 0, none⟩), .slice (some ⟨w.heap.size, 0, none⟩) m m] (w.alloc (.cells A T)) fun e w' => ∃ v, e = .returned (.int .i64 v) ∧ Inv w0 w' g S H := by
  obtain ⟨i, x, hc⟩ := h.cur
  exact (pick_any w g S i x A m T hc hA hx hm hm2).mono fun e w' ⟨v, i', h', he, hv, hc', ho⟩ => ⟨v, he, h.grown hc' ho⟩
theorem Inv.set {w0 w : World} {g : Nat} {S : Src} {H : List (Nat × Array Value)} {b : Nat} {cs : Array Value} (h : Inv w0 w g S H) (hm : (b, cs) ∈ H) (hb : w0.heap.size ≤ b) (i : Nat) (v : Value) (H' : List (Nat × Array Value)) (hH : ∀ p ∈ H', (p ∈ H ∧ p.1 ≠ b) ∨ p = (b, cs.setIfInBounds i v)) : Inv w0 (w.setCell ⟨b, i, none⟩ v) g S H' := by
  have hbg := (h.box _ hm).2
  have hbl := lt_of_heap (h.box _ hm).1
  obtain ⟨k, x, hc⟩ := h.cur
  have hne : ∀ q, q ≠ b → (w.setCell ⟨b, i, none⟩ v).heap[q]? = w.heap[q]? := fun q hq => Below.heap_setCell w _ _ q hq
  refine ⟨⟨k, x, ?_, ?_, hc.2.2⟩, ?_, h.src, fun p hp => ?_⟩
  · rw [hne g (fun e => hbg e.symm)]; exact hc.1
  · refine RowAt.only (g := b) hc.2.1 (by exact only_setCell (only_refl w _) i v) ?_
    intro b' off' ha hl e
    have := h.src b' off' ha hl
    omega
  · exact ⟨h.own.os, h.own.tape, h.own.output, by simpa [World.setCell] using h.own.size, fun q hq hqg => (hne q (by omega)).trans (h.own.block q hq hqg)⟩
  · rcases hH p hp with ⟨hp1, hp2⟩ | rfl
    · exact ⟨(hne p.1 hp2).trans (h.box p hp1).1, (h.box p hp1).2⟩
    · exact ⟨setCell_block (h.box _ hm).1 v, hbg⟩
theorem Inv.start {w : World} {g : Nat} {S : Src} {i : Nat} {x : Int} (hc : CurAt w g S i x) : Inv w w g S [] := by
  refine ⟨⟨i, x, hc⟩, only_refl _ _, fun b off ha hl => ?_, fun p hp => by cases hp⟩
  rcases hc.2.1 with h0 | ⟨b2, off2, hab, hlt, _⟩
  · rw [h0] at hl; simp at hl
  · rw [ha] at hab
    simp only [Option.some.injEq, Addr.mk.injEq, and_true] at hab
    obtain ⟨rfl, rfl⟩ := hab
    exact hlt
theorem Inv.out3 {w0 w : World} {g : Nat} {S : Src} {H : List (Nat × Array Value)} {b : Nat} {cs : Array Value} (h : Inv w0 w g S H) (hm : (b, cs) ∈ H) (hb : w0.heap.size ≤ b) (x y z : Value) :
    Inv w0 (((w.setCell ⟨b, 0, none⟩ x).setCell ⟨b, 1, none⟩ y).setCell ⟨b, 2, none⟩ z) g S [] :=
  ((h.set hm hb 0 x [(b, cs.setIfInBounds 0 x)] (by intro p hp; exact .inr (List.mem_singleton.1 hp))).set (.head _) hb 1 y [(b, (cs.setIfInBounds 0 x).setIfInBounds 1 y)] (by intro p hp; exact .inr (List.mem_singleton.1 hp))).set (.head _) hb 2 z [] (by intro p hp; cases hp)
theorem set3h {w : World} {r : Nat} {t : TypeId} {u0 u1 u2 : Value} (h : w.heap[r]? = some (.cells #[u0, u1, u2] t (0, 0))) (x y z : Value) :
    (((w.setCell ⟨r, 0, none⟩ x).setCell ⟨r, 1, none⟩ y).setCell ⟨r, 2, none⟩ z).cell? ⟨r, 0, none⟩ = some x ∧
    (((w.setCell ⟨r, 0, none⟩ x).setCell ⟨r, 1, none⟩ y).setCell ⟨r, 2, none⟩ z).cell? ⟨r, 1, none⟩ = some y ∧
    (((w.setCell ⟨r, 0, none⟩ x).setCell ⟨r, 1, none⟩ y).setCell ⟨r, 2, none⟩ z).cell? ⟨r, 2, none⟩ = some z := by
  have h3 := setCell_block (setCell_block (setCell_block h (i := 0) x) (i := 1) y) (i := 2) z
  exact ⟨cell_of_heap h3 0, cell_of_heap h3 1, cell_of_heap h3 2⟩
def FmtDraw (w : World) (g : Nat) (S : Src) : Ending → World → Prop := fun e w' => ∃ (s : Bool) (n l : Int), e = .returned (.agg #[.bool s, .int .i64 n, .int .i64 l]) ∧ (∃ i h, CurAt w' g S i h) ∧ w.grownBy w' (some g)
set_option maxHeartbeats 4000000 in
theorem l6Right_any (w : World) (g : Nat) (S : Src) (i : Nat) (h : Int) (hw : CurAt w g S i h) :
    Calls Tryd.prog 45 #[.pointer (some ⟨g, 0, none⟩)] w (FmtDraw w g S) := by
  have I0 := (Inv.start hw).add #[.bool false, .int .i64 0, .int .i64 0]
  clear hw
  go_enter Tryd.func45, Tryd.ntmps45
  go_wp2_with fail
  refine (inv_once I0 4).mono ?_
  rintro e w1 ⟨o, rfl, I1⟩
  go_wp2_with fail
  refine (inv_below I1 59 (by omega)).mono ?_
  rintro e w2 ⟨v, rfl, ⟨v0, v1⟩, I2⟩
  go_wp2_with fail
  refine (inv_pick I2 _ 9 _ ?_ ?_ (by omega) (by omega)).mono ?_
  · exact List.forall_mem_cons.2 ⟨⟨_, rfl⟩, List.forall_mem_cons.2 ⟨⟨_, rfl⟩, List.forall_mem_cons.2 ⟨⟨_, rfl⟩, List.forall_mem_cons.2 ⟨⟨_, rfl⟩, List.forall_mem_cons.2 ⟨⟨_, rfl⟩, List.forall_mem_cons.2 ⟨⟨_, rfl⟩, List.forall_mem_cons.2 ⟨⟨_, rfl⟩, List.forall_mem_cons.2 ⟨⟨_, rfl⟩, List.forall_mem_cons.2 ⟨⟨_, rfl⟩, List.forall_mem_nil _⟩⟩⟩⟩⟩⟩⟩⟩⟩
  · rfl
  rintro e w3 ⟨n, rfl, I3⟩
  have I4 := (I3.add #[.bool (!o), .int .i64 n, .int .i64 0]).drew
  have hR3 : w.heap.size ≤ w3.heap.size := Nat.le_of_lt (lt_of_heap (I3.box _ (.head _)).1)
  have hne3 : w.heap.size ≠ w3.heap.size := Nat.ne_of_lt (lt_of_heap (I3.box _ (.head _)).1)
  have k0 := (I4.three (.head _)).2.1
  go_wp2_with fail
  go_region_held3 (fun w' => w'.cell? ⟨w3.heap.size, 1, none⟩ = some (.int .i64 n))
    (first | with_reducible exact kS _ | with_reducible exact k6 | with_reducible exact kA _ | with_reducible exact k5 | with_reducible exact k0)
    (first
    | (go_at_call 42; have q0 := I5; refine (inv_pick I5 _ 6 _ ?_ ?_ (by omega) (by omega)).mono ?_; (exact List.forall_mem_cons.2 ⟨⟨_, rfl⟩, List.forall_mem_cons.2 ⟨⟨_, rfl⟩, List.forall_mem_cons.2 ⟨⟨_, rfl⟩, List.forall_mem_cons.2 ⟨⟨_, rfl⟩, List.forall_mem_cons.2 ⟨⟨_, rfl⟩, List.forall_mem_cons.2 ⟨⟨_, rfl⟩, List.forall_mem_nil _⟩⟩⟩⟩⟩⟩); (rfl); rintro e w6 ⟨l, rfl, I6⟩; obtain ⟨c60, k6, c62⟩ := I6.three (.head _); have f6 := I6.free (.head _); have kS := fun v => ((I6.set (.head _) hR3 2 v [(w3.heap.size, #[.bool (!o), .int .i64 n, v])] (by intro p hp; exact .inr (List.mem_singleton.1 hp))).three (.head _)).2.1)
    | (go_at_call 46; refine (inv_below_any I4 _).mono ?_; rintro e w5 ⟨x, rfl, I5⟩; have k5 := (I5.three (.head _)).2.1; have kA := fun A => ((I5.below (bl_alloc w5 A)).three (.head _)).2.1))
  have I7 := I6.set (.head _) hR3 2 (.int .i64 l) [(w3.heap.size, #[.bool (!o), .int .i64 n, .int .i64 l]), (w.heap.size, #[.bool false, .int .i64 0, .int .i64 0])] (by
    intro p hp
    rcases List.mem_cons.1 hp with rfl | hp
    · exact .inr rfl
    · obtain rfl := List.mem_singleton.1 hp
      exact .inl ⟨.tail _ (.head _), hne3⟩)
  obtain ⟨d0, d1, d2⟩ := I7.three (.head _)
  obtain ⟨r0, r1, r2⟩ := I7.three (.tail _ (.head _))
  have rf := I7.free (.tail _ (.head _))
  have I8 := I7.out3 (.tail _ (.head _)) (Nat.le_refl _) (.bool (!o)) (.int .i64 n) (.int .i64 l)
  obtain ⟨g0, g1, g2⟩ := set3h (I7.box _ (.tail _ (.head _))).1 (.bool (!o)) (.int .i64 n) (.int .i64 l)
  go_wp2_with fail
  try simp only [Exit.inBlock, Exit.then]
  refine bodyPost_ret (v := .agg #[.bool (!o), .int .i64 n, .int .i64 l]) (by simp [results, Tryd.results45, go_sem, g0, g1, g2]) rfl ?_
  exact ⟨_, _, _, rfl, I8.cur, I8.own⟩
end Go.Proofs.YtimjfcipkmcgmaaDoor
