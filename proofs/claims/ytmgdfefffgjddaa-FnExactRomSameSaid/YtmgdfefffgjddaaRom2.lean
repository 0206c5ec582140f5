/-
  PROVED: contracts of the copying of slices of whole numbers.
  CONDITIONS: none.
-/
import Derived.Test.YtmgdfefffgjddaaRom
import Derived.Laws.MakeOwn
namespace Go.Proofs.Ytmgdfefffgjddaa
open Go.ChangeShapes Go.WideShapes Go.ChangeAt Go.RowKit
set_option linter.unusedVariables false
theorem infoWhole : (Try.prog.info? 41).map (fun i => (i.zero, i.size, i.bytes)) = some (some (.agg #[.bool false, .slice none 0 0]), 2, 32) := by kernel_rfl
theorem RowAt.out {K : IntKind} {w w' : World} {b : Nat} {zs : List Int} {lo hi : Nat} (h : RowAt K w (some ⟨b, 0, none⟩) zs) (ho : Out lo hi w w') (hd : b < lo ∨ hi ≤ b) : RowAt K w' (some ⟨b, 0, none⟩) zs := by
  rcases h with h | ⟨b', off, hab, hlt, hc⟩
  · exact .inl h
  · simp only [Option.some.injEq, Addr.mk.injEq, and_true] at hab
    obtain ⟨rfl, rfl⟩ := hab
    exact .inr ⟨b, 0, rfl, Nat.lt_of_lt_of_le hlt ho.size, fun i hi => (World.cell?_of_block (w := w) (w' := w') (a := ⟨b, 0 + i, none⟩) (ho.block b hlt hd)).trans (hc i hi)⟩
/-- the first j of the whole numbers are laid in the cells cs of block B -/
def PartW (w : World) (B : Nat) (cs : Array Value) (pl : List (Bool × List Int)) (j : Nat) : Prop :=
  ∀ i (h : i < pl.length), i < j → ∃ b c, cs[i * 2]? = some (.bool pl[i].1) ∧ cs[i * 2 + 1]? = some (.slice (some ⟨b, 0, none⟩) pl[i].2.length c) ∧ RowAt .i64 w (some ⟨b, 0, none⟩) pl[i].2 ∧ B < b
theorem PartW.step {w w' : World} {B : Nat} {cs : Array Value} {pl : List (Bool × List Int)} {j b c : Nat} (h : PartW w B cs pl j) (hj : j < pl.length) (hsz : cs.size = pl.length * 2) (ho : Out B (B + 1) w w') (hr : RowAt .i64 w' (some ⟨b, 0, none⟩) pl[j].2) (hb : B < b) :
    PartW w' B ((cs.setIfInBounds (j * 2) (.bool pl[j].1)).setIfInBounds (j * 2 + 1) (.slice (some ⟨b, 0, none⟩) pl[j].2.length c)) pl (j + 1) := by
  intro i hi hij
  rw [Array.getElem?_setIfInBounds, Array.getElem?_setIfInBounds, Array.getElem?_setIfInBounds, Array.getElem?_setIfInBounds]
  by_cases he : i = j
  · subst he
    refine ⟨b, c, ?_, ?_, hr, hb⟩
    · rw [if_neg (by omega), if_pos rfl, if_pos (by omega)]
    · rw [if_pos rfl, if_pos (by simp; omega)]
  · obtain ⟨b', c', h1, h2, h3, h4⟩ := h i hi (by omega)
    refine ⟨b', c', ?_, ?_, h3.out ho (by omega), h4⟩
    · rw [if_neg (by omega), if_neg (by omega)]; exact h1
    · rw [if_neg (by omega), if_neg (by omega)]; exact h2
set_option maxHeartbeats 2000000 in
theorem toWholeS_any (a : Option Addr) (n cap : Nat) (pl : List (Bool × List Int)) (w : World) (hz : pl.length = n) (hn : n ≤ 1048576) (hp : ∀ p ∈ pl, p.2.length ≤ 1048576) (ha : WholesAt w a pl) :
    Calls Try.prog 68 #[.slice a n cap] w fun e w' => e = .returned (.slice (some ⟨w.heap.size, 0, none⟩) n n) ∧ (∀ lo hi w'', Out lo hi w' w'' → hi ≤ w.heap.size → WholesAt w'' (some ⟨w.heap.size, 0, none⟩) pl) ∧ Below w.heap.size w w' := by
  obtain ⟨i0, hi, hz0, hz1, hz2⟩ := info_parts infoWhole
  have hmk : ∀ W : World, (Instr.makeSlice 73 (.int .i64 n) (.int .i64 n)).run Try.prog W = .ok (.slice (some ⟨W.heap.size, 0, none⟩) n n) (W.alloc (.cells (madeCells #[.bool false, .slice none 0 0] (n * 2)) 41)) := fun W => by
    have h := run_make (P := Try.prog) W 73 41 i0 (.agg #[.bool false, .slice none 0 0]) Try.underlying73 hi hz0 .i64 .i64 (n : Int) (n : Int) (by omega) (by omega) (by rw [hz2]; omega) (by omega)
    rw [hz1] at h
    simpa [Value.cells] using h
  have hcs := size_madeCells #[.bool false, .slice none 0 0] (n * 2)
  generalize madeCells #[.bool false, .slice none 0 0] (n * 2) = A0 at *
  clear hi hz0 hz1 hz2
  have HZ := Lib.hid hz; clear hz
  have HP := Lib.hid hp; clear hp
  have HCS := Lib.hid hcs; clear hcs
  by_cases h0 : n = 0
  · subst h0
    have hmk0 : ∀ W : World, (Instr.makeSlice 73 (.int .i64 0) (.int .i64 0)).run Try.prog W = .ok (.slice (some ⟨W.heap.size, 0, none⟩) 0 0) (W.alloc (.cells A0 41)) := fun W => hmk W
    clear hmk
    go_enter Try.func68, Try.ntmps68
    go_wp2
    go_loopw [4] (fun i wr => i = .int .i64 0 ∧ wr = w.alloc (.cells A0 41)) (fun _ _ => 0)
    case atStart => exact ⟨rfl, rfl⟩
    case round =>
      obtain ⟨rfl, rfl⟩ := hrel
      go_wp2
      go_ret
      exact ⟨rfl, fun _ _ _ _ _ => .inl (List.length_eq_zero_iff.1 HZ.out), bl_alloc _ _⟩
  · rcases ha with h1 | ⟨b, off, rfl, hb, hc⟩
    · exfalso; rw [h1] at HZ; exact h0 HZ.out.symm
    · have HC := Lib.hid hc; clear hc
      go_enter Try.func68, Try.ntmps68
      go_wp2
      go_loopw [4] (fun i wr => ∃ (j : Nat) (cs : Array Value), j ≤ n ∧ i = .int .i64 j ∧ Below w.heap.size w wr ∧ wr.heap[w.heap.size]? = some (.cells cs 41 (0, 0)) ∧ cs.size = n * 2 ∧ Hid (PartW wr w.heap.size cs pl j)) (fun i _ => n - (intOf i).toNat)
      case atStart => exact ⟨0, A0, by omega, rfl, bl_alloc _ _, heap_alloc_new w _, HCS.out, Lib.hid (fun i hi h => by omega)⟩
      case round =>
        obtain ⟨j, cs, hj, rfl, hB, hh, hcs, HPW⟩ := hrel
        have HH := Lib.hid hh
        by_cases hlt : j < n
        · have hlz : j < pl.length := by rw [HZ.out]; exact hlt
          obtain ⟨x, c, hc0, hc1, hr⟩ := HC.out j hlz
          have hq0 : wr.cell? ⟨b, off + j * 2, none⟩ = some (.bool pl[j].1) := (hB.cell (p := ⟨b, off + j * 2, none⟩) hb).trans hc0
          have hq1 : wr.cell? ⟨b, off + j * 2 + 1, none⟩ = some (.slice x pl[j].2.length c) := (hB.cell (p := ⟨b, off + j * 2 + 1, none⟩) hb).trans hc1
          have HTW := Lib.hid (toWhole_any pl[j].1 x pl[j].2.length c pl[j].2 wr rfl (HP.out _ (List.getElem_mem hlz)) (hr.below hB))
          clear hc0 hc1 hr hh
          have HST := Lib.hid (fun (w' : World) (b' c' : Nat) (h : PartW w' w.heap.size cs pl j) (w'' : World) (ho : Out w.heap.size (w.heap.size + 1) w' w'') (hr : RowAt .i64 w'' (some ⟨b', 0, none⟩) pl[j].2) (hb : w.heap.size < b') => h.step (c := c') hlz (by rw [HZ.out]; exact hcs) ho hr hb)
          generalize pl[j] = p at *
          go_wp2_with fail
          refine HTW.out.mono ?_
          rintro e w2 ⟨b', hb', rfl, hr', hb2⟩
          have hBlt := lt_of_heap HH.out
          have hh2 := (hb2.block w.heap.size hBlt).trans HH.out
          have HH2 := Lib.hid hh2
          obtain ⟨u0, hu0⟩ : ∃ u, cs[j * 2]? = some u := ⟨cs[j * 2]'(by omega), Array.getElem?_eq_getElem (by omega)⟩
          obtain ⟨u1, hu1⟩ : ∃ u, cs[j * 2 + 1]? = some u := ⟨cs[j * 2 + 1]'(by omega), Array.getElem?_eq_getElem (by omega)⟩
          have hd0 : w2.cell? ⟨w.heap.size, j * 2, none⟩ = some u0 := (cell_of_heap hh2 (j * 2)).trans hu0
          have hd1 : w2.cell? ⟨w.heap.size, j * 2 + 1, none⟩ = some u1 := (cell_of_heap hh2 (j * 2 + 1)).trans hu1
          have hfz := free_of_heap hh2
          have HR := Lib.hid hr'
          clear hr' hh2 hu0 hu1 HTW
          go_wp2_with fail
          have HO : Hid (Out w.heap.size (w.heap.size + 1) w2 ((w2.setCell ⟨w.heap.size, j * 2, none⟩ (.bool p.1)).setCell ⟨w.heap.size, j * 2 + 1, none⟩ (.slice (some ⟨b', 0, none⟩) p.2.length p.2.length))) := ((Out.refl _ _ w2).setCell (Nat.le_refl _) (by omega) _ _).setCell (Nat.le_refl _) (by omega) _ _
          have HPW2 : Hid (PartW w2 w.heap.size cs pl j) := fun i hi h => by
            obtain ⟨x1, x2, h1, h2, h3, h4⟩ := HPW.out i hi h
            exact ⟨x1, x2, h1, h2, h3.below hb2, h4⟩
          have HRO : Hid (RowAt .i64 ((w2.setCell ⟨w.heap.size, j * 2, none⟩ (.bool p.1)).setCell ⟨w.heap.size, j * 2 + 1, none⟩ (.slice (some ⟨b', 0, none⟩) p.2.length p.2.length)) (some ⟨b', 0, none⟩) p.2) := RowAt.out HR.out HO.out (by omega)
          have HPN := Lib.hid (HST.out w2 b' p.2.length HPW2.out _ HO.out HRO.out (by omega))
          go_roundw
          case rel => exact ⟨j + 1, _, by omega, by go_num, below_out (bl_step hB hb2) HO.out (Nat.le_refl _), setCell_block (setCell_block HH2.out _) _, by simpa using hcs, HPN⟩
          case measure => simp [intOf]; omega
        · obtain rfl : j = n := by omega
          have HFIN : Hid (∀ lo hi w'', Out lo hi wr w'' → hi ≤ w.heap.size → WholesAt w'' (some ⟨w.heap.size, 0, none⟩) pl) := by
            intro lo hi w'' ho hhi
            have hblk := (ho.block w.heap.size (lt_of_heap HH.out) (.inr hhi)).trans HH.out
            refine .inr ⟨w.heap.size, 0, rfl, lt_of_heap hblk, fun i hi => ?_⟩
            obtain ⟨b', c', h1, h2, h3, h4⟩ := HPW.out i hi (by rw [← HZ.out]; exact hi)
            refine ⟨some ⟨b', 0, none⟩, c', ?_, ?_, h3.out ho (.inr (by omega))⟩
            · rw [Nat.zero_add]; exact (cell_of_heap hblk _).trans h1
            · rw [Nat.zero_add]; exact (cell_of_heap hblk _).trans h2
          go_wp2_with fail
          go_ret
          exact ⟨rfl, HFIN.out, hB⟩
end Go.Proofs.Ytmgdfefffgjddaa
