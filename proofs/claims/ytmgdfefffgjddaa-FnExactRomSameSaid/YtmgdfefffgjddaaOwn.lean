/-
  PROVED: what a call owns: rows of numbers in memory of its own; contracts of the functions that mark such rows, look whether they hold the marks, and clone them.
  CONDITIONS: none.
-/
import Derived.Test.YtmgdfefffgjddaaRows2
import Derived.OwnWalk
import Derived.Deep.RegionLaw
namespace Go.Proofs.Ytmgdfefffgjddaa
open Go.ChangeShapes Go.WideShapes Go.ChangeAt Go.RowKit
set_option linter.unusedVariables false
theorem setCell_block {w : World} {g i : Nat} {cs : Array Value} {t : TypeId} {fr : Nat × Nat} (h : w.heap[g]? = some (.cells cs t fr)) (v : Value) : (w.setCell ⟨g, i, none⟩ v).heap[g]? = some (.cells (cs.setIfInBounds i v) t fr) := by
  rw [setCell_eq_setRow w g i cs t fr v h]
  exact setRow_heap w g _ _ t _ h
theorem lt_of_heap {w : World} {g : Nat} {o : Obj} (h : w.heap[g]? = some o) : g < w.heap.size := (Array.getElem?_eq_some_iff.1 h).1
/-- a row of numbers in a block of the call's own, between lo and hi; or none -/
def OwnA (K : IntKind) (w : World) (lo hi : Nat) (a : Option Addr) (zs : List Int) : Prop :=
  (a = none ∧ zs = []) ∨ ∃ B cs E, a = some ⟨B, 0, none⟩ ∧ lo ≤ B ∧ B < hi ∧ w.heap[B]? = some (.cells cs E (0, 0)) ∧ zs.length ≤ cs.size ∧ ∀ i, i < zs.length → cs[i]? = some (.int K (zs.getD i 0))
/-- outside the blocks from lo to hi nothing has turned -/
structure Out (lo hi : Nat) (w w' : World) : Prop where
  os : w'.os = w.os
  tape : w'.tape = w.tape
  output : w'.output = w.output
  size : w.heap.size ≤ w'.heap.size
  block : ∀ b, b < w.heap.size → (b < lo ∨ hi ≤ b) → w'.heap[b]? = w.heap[b]?
theorem Out.refl (lo hi : Nat) (w : World) : Out lo hi w w := ⟨rfl, rfl, rfl, Nat.le_refl _, fun _ _ _ => rfl⟩
theorem Out.after {lo hi : Nat} {w w1 w2 : World} (hb : Below w.heap.size w w1) (h : Out lo hi w1 w2) : Out lo hi w w2 :=
  ⟨h.os.trans hb.os, h.tape.trans hb.tape, h.output.trans hb.output, Nat.le_trans hb.size h.size, fun b h1 h2 => (h.block b (Nat.lt_of_lt_of_le h1 hb.size) h2).trans (hb.block b h1)⟩
theorem Out.setCell {lo hi : Nat} {w w' : World} (h : Out lo hi w w') {B : Nat} (hB : lo ≤ B) (hB2 : B < hi) (i : Nat) (v : Value) : Out lo hi w (w'.setCell ⟨B, i, none⟩ v) :=
  ⟨h.os, h.tape, h.output, Nat.le_trans h.size (by simp [World.setCell]), fun b h1 hb => (Below.heap_setCell w' _ _ b (by show b ≠ B; omega)).trans (h.block b h1 hb)⟩
theorem below_out {lo hi : Nat} {w0 w w' : World} (h : Below w0.heap.size w0 w) (ho : Out lo hi w w') (hl : w0.heap.size ≤ lo) : Below w0.heap.size w0 w' :=
  ⟨ho.os.trans h.os, ho.tape.trans h.tape, ho.output.trans h.output, Nat.le_trans h.size ho.size, fun b hb => (ho.block b (Nat.lt_of_lt_of_le hb h.size) (by omega)).trans (h.block b hb)⟩
theorem OwnA.row {K : IntKind} {w : World} {lo hi : Nat} {a : Option Addr} {zs : List Int} (h : OwnA K w lo hi a zs) : RowAt K w a zs := by
  rcases h with ⟨_, h⟩ | ⟨B, cs, E, ha, _, _, hh, _, hc⟩
  · exact .inl h
  · refine .inr ⟨B, 0, ha, lt_of_heap hh, fun i hi => ?_⟩
    rw [Nat.zero_add, ← hc i hi]
    simp [World.cell?, hh]
theorem OwnA.below {K : IntKind} {w w' : World} {lo hi : Nat} {a : Option Addr} {zs : List Int} (h : OwnA K w lo hi a zs) (hb : Below w.heap.size w w') : OwnA K w' lo hi a zs := by
  rcases h with h | ⟨B, cs, E, ha, h1, h2, hh, h3, hc⟩
  · exact .inl h
  · exact .inr ⟨B, cs, E, ha, h1, h2, (hb.block B (lt_of_heap hh)).trans hh, h3, hc⟩
theorem OwnA.out {K : IntKind} {w w' : World} {lo hi lo' hi' : Nat} {a : Option Addr} {zs : List Int} (h : OwnA K w lo hi a zs) (ho : Out lo' hi' w w') (hd : hi ≤ lo' ∨ hi' ≤ lo) : OwnA K w' lo hi a zs := by
  rcases h with h | ⟨B, cs, E, ha, h1, h2, hh, h3, hc⟩
  · exact .inl h
  · exact .inr ⟨B, cs, E, ha, h1, h2, (ho.block B (lt_of_heap hh) (by omega)).trans hh, h3, hc⟩
theorem OwnA.wide {K : IntKind} {w : World} {lo hi lo' hi' : Nat} {a : Option Addr} {zs : List Int} (h : OwnA K w lo hi a zs) (h1 : lo' ≤ lo) (h2 : hi ≤ hi') : OwnA K w lo' hi' a zs := by
  rcases h with h | ⟨B, cs, E, ha, b1, b2, r⟩
  · exact .inl h
  · exact .inr ⟨B, cs, E, ha, by omega, by omega, r⟩
/-- of what the call has boxed -/
structure BoxAt (w : World) (b : Nat) (cs : Array Value) : Prop where
  lt : b < w.heap.size
  cell : ∀ i, w.cell? ⟨b, i, none⟩ = cs[i]?
theorem BoxAt.new (w : World) (cs : Array Value) (t : TypeId) : BoxAt (w.alloc (.cells cs t)) w.heap.size cs := ⟨by simp, fun i => World.cell?_alloc_mark w cs t (0, 0) i⟩
theorem BoxAt.new_at (w : World) (cs : Array Value) (t : TypeId) {n : Nat} (h : n = w.heap.size) : BoxAt (w.alloc (.cells cs t)) n cs := by subst h; exact BoxAt.new w cs t
theorem BoxAt.below {w w' : World} {b : Nat} {cs : Array Value} (h : BoxAt w b cs) (hb : Below w.heap.size w w') : BoxAt w' b cs := ⟨Nat.lt_of_lt_of_le h.lt hb.size, fun i => (hb.cell (p := ⟨b, i, none⟩) h.lt).trans (h.cell i)⟩
theorem BoxAt.out {w w' : World} {b lo hi : Nat} {cs : Array Value} (h : BoxAt w b cs) (ho : Out lo hi w w') (hd : b < lo ∨ hi ≤ b) : BoxAt w' b cs :=
  ⟨Nat.lt_of_lt_of_le h.lt ho.size, fun i => (World.cell?_of_block (w := w) (w' := w') (a := ⟨b, i, none⟩) (ho.block b h.lt hd)).trans (h.cell i)⟩
theorem own_alloc (K : IntKind) (zs : List Int) (w : World) (E : TypeId) : OwnA K (w.alloc (.cells (rowArr K zs) E)) w.heap.size (w.alloc (.cells (rowArr K zs) E)).heap.size (some ⟨w.heap.size, 0, none⟩) zs := by
  refine .inr ⟨w.heap.size, rowArr K zs, E, rfl, Nat.le_refl _, by simp, ?_, by simp [rowArr], fun i hi => rowArr_get K zs i hi⟩
  show (w.heap.push _)[w.heap.size]? = _
  simp
theorem own_of_row {K : IntKind} {zs : List Int} {w : World} {lo hi : Nat} {E : TypeId} {v : Value} {n : Nat} (h : w.ownsRow lo E 1 v n (zs.map (Value.int K))) (hz : zs.length = n) (hhi : w.heap.size ≤ hi) : ∃ a c, v = .slice a n c ∧ OwnA K w lo hi a zs := by
  obtain ⟨hl, h⟩ := h
  rcases h with ⟨rfl, rfl⟩ | ⟨g, cap, cur, rfl, hg, hh, hn, hc, hcs, ht⟩
  · exact ⟨none, 0, rfl, .inl ⟨rfl, List.eq_nil_of_length_eq_zero hz⟩⟩
  · refine ⟨_, cap, rfl, .inr ⟨g, cur, E, rfl, hg, by have := lt_of_heap hh; omega, hh, by rw [hcs]; omega, fun i hi => ?_⟩⟩
    have h1 : (cur.toList.take (n * 1))[i]? = (zs.map (Value.int K))[i]? := by rw [ht]
    rw [List.getElem?_take, if_pos (by omega)] at h1
    rw [← Array.getElem?_toList, h1]
    simp [List.getElem?_eq_getElem hi, List.getD_eq_getElem?_getD]
def mkI64 (x : Int) : Int := x
def mkU8 (x : Int) : Int := IntKind.u8.wrap x
def marks (f : Int → Int) (k : Int) (n : Nat) : List Int := (List.range n).map fun i : Nat => f (k + (i : Int))
theorem marks_len (f : Int → Int) (k : Int) (n : Nat) : (marks f k n).length = n := by simp [marks]
theorem marks_get (f : Int → Int) (k : Int) (n i : Nat) (h : i < n) : (marks f k n).getD i 0 = f (k + i) := by
  simp [marks, List.getD_eq_getElem?_getD, h]
/-- of the first j cells the marks, of the others what was there -/
def HalfMarked (K : IntKind) (f : Int → Int) (k : Int) (cs : Array Value) (zs : List Int) (j n : Nat) : Prop :=
  n ≤ cs.size ∧ ∀ i, i < n → cs[i]? = some (.int K (if i < j then f (k + i) else zs.getD i 0))
theorem HalfMarked.step {K : IntKind} {f : Int → Int} {k : Int} {cs : Array Value} {zs : List Int} {j n : Nat} (h : HalfMarked K f k cs zs j n) (hj : j < n) : HalfMarked K f k (cs.setIfInBounds j (.int K (f (k + j)))) zs (j + 1) n := by
  obtain ⟨h1, h2⟩ := h
  refine ⟨by simpa using h1, fun i hi => ?_⟩
  rw [Array.getElem?_setIfInBounds]
  by_cases hij : j = i
  · subst hij
    rw [if_pos rfl, if_pos (by omega), if_pos (by omega)]
  · rw [if_neg hij, h2 i hi]
    by_cases hlt : i < j
    · rw [if_pos hlt, if_pos (by omega)]
    · rw [if_neg hlt, if_neg (by omega)]
theorem HalfMarked.get {K : IntKind} {f : Int → Int} {k : Int} {cs : Array Value} {zs : List Int} {j n : Nat} (h : HalfMarked K f k cs zs j n) (hj : j < n) : ∃ x, cs[j]? = some (.int K x) := ⟨_, h.2 j hj⟩
theorem cell_of_heap {w : World} {g : Nat} {cs : Array Value} {t : TypeId} {fr : Nat × Nat} (h : w.heap[g]? = some (.cells cs t fr)) (i : Nat) : w.cell? ⟨g, i, none⟩ = cs[i]? := by simp [World.cell?, h]
theorem free_of_heap {w : World} {g : Nat} {cs : Array Value} {t : TypeId} (h : w.heap[g]? = some (.cells cs t (0, 0))) (i : Nat) : w.frozen? ⟨g, i, none⟩ = false := by simp [World.frozen?, h]
set_option maxHeartbeats 400000 in
theorem markByteS_any (a : Option Addr) (n cap : Nat) (k : Int) (zs : List Int) (lo hi : Nat) (w : World) (hz : zs.length = n) (hn : n ≤ 4194304) (hk : 0 ≤ k) (hk2 : k ≤ 1099511627776) (ha : OwnA .u8 w lo hi a zs) :
    Calls Try.prog 25 #[.slice a n cap, .int .i64 k] w fun e w' => e = .returned (.int .i64 (k + n)) ∧ OwnA .u8 w' lo hi a (marks mkU8 k n) ∧ Out lo hi w w' := by
  have HZ := Lib.hid hz; clear hz
  by_cases h0 : n = 0
  · subst h0
    go_enter Try.func25, Try.ntmps25
    go_wp2
    go_loop [1, 5] (fun q i => q = .int .i64 k ∧ i = .int .i64 0) (fun _ _ => 0)
    case atStart => exact ⟨rfl, rfl⟩
    case round =>
      obtain ⟨rfl, rfl⟩ := hrel
      go_wp2
      go_ret
      refine ⟨ret_int (by simp), ?_, Out.refl _ _ _⟩
      have hz0 := List.length_eq_zero_iff.1 HZ.out
      subst hz0
      exact ha
  · rcases ha with ⟨_, h⟩ | ⟨B, cs, E, rfl, hB1, hB2, hh, hcs, hcc⟩
    · exfalso; rw [h] at HZ; exact h0 HZ.out.symm
    · have HH : Hid (HalfMarked .u8 mkU8 k cs zs 0 n) := ⟨by rw [← HZ.out]; exact hcs, fun i hi => by rw [if_neg (by omega)]; exact hcc i (by rw [HZ.out]; exact hi)⟩
      clear hcs hcc
      go_enter Try.func25, Try.ntmps25
      go_wp2
      go_loopw [1, 5] (fun q i wr => ∃ (j : Nat) (cs' : Array Value), j ≤ n ∧ q = .int .i64 (k + j) ∧ i = .int .i64 j ∧ HalfMarked .u8 mkU8 k cs' zs j n ∧ wr.heap[B]? = some (.cells cs' E (0, 0)) ∧ Out lo hi w wr) (fun _ i _ => n - (intOf i).toNat)
      case atStart => exact ⟨0, cs, by omega, by simp, rfl, HH.out, hh, Out.refl _ _ _⟩
      case round =>
        obtain ⟨j, cs', hj, rfl, rfl, hM, hhr, hO⟩ := hrel
        have HM := Lib.hid hM; clear hM
        have HHR := Lib.hid hhr; clear hhr hh
        by_cases hlt : j < n
        · obtain ⟨x, hx⟩ := HM.out.get hlt
          have hcell : wr.cell? ⟨B, j, none⟩ = some (.int .u8 x) := (cell_of_heap HHR.out j).trans hx
          have hfree : wr.frozen? ⟨B, j, none⟩ = false := free_of_heap HHR.out j
          clear hx
          go_wp2
          go_roundw
          case rel => exact ⟨j + 1, cs'.setIfInBounds j (.int .u8 (mkU8 (k + j))), by omega, by first | go_num | (congr 1; omega), by go_num, HM.out.step hlt, setCell_block HHR.out _, hO.setCell hB1 hB2 _ _⟩
          case measure => simp [intOf]; omega
        · obtain rfl : j = n := by omega
          go_wp2
          go_ret
          refine ⟨rfl, .inr ⟨B, cs', E, rfl, hB1, hB2, HHR.out, by rw [marks_len]; exact HM.out.1, fun i hi => ?_⟩, hO⟩
          rw [marks_len] at hi
          rw [marks_get _ _ _ _ hi, HM.out.2 i hi, if_pos hi]
set_option maxHeartbeats 400000 in
theorem heldByteS_any (a : Option Addr) (n cap : Nat) (k : Int) (w : World) (hn : n ≤ 4194304) (hk : 0 ≤ k) (hk2 : k ≤ 1099511627776) (ha : RowAt .u8 w a (marks mkU8 k n)) :
    Calls Try.prog 26 #[.slice a n cap, .int .i64 k] w fun e w' => e = .returned (.int .i64 (k + n)) ∧ w = w' := by
  by_cases h0 : n = 0
  · subst h0
    go_enter Try.func26, Try.ntmps26
    go_wp2
    go_loop [1, 5] (fun q i => q = .int .i64 k ∧ i = .int .i64 0) (fun _ _ => 0)
    case atStart => exact ⟨rfl, rfl⟩
    case round =>
      obtain ⟨rfl, rfl⟩ := hrel
      go_wp2
      go_ret
      exact ⟨ret_int (by simp), rfl⟩
  · rcases ha with h | ⟨b, off, rfl, hb, hc⟩
    · exfalso; have := marks_len mkU8 k n; rw [h] at this; exact h0 this.symm
    · have HC : Hid (∀ i, i < n → w.cell? ⟨b, off + i, none⟩ = some (.int .u8 (mkU8 (k + i)))) := fun i hi => by rw [hc i (by rw [marks_len]; exact hi), marks_get _ _ _ _ hi]
      clear hc
      go_enter Try.func26, Try.ntmps26
      go_wp2
      go_loop [1, 5] (fun q i => ∃ j : Nat, j ≤ n ∧ q = .int .i64 (k + j) ∧ i = .int .i64 j) (fun _ i => n - (intOf i).toNat)
      case atStart => exact ⟨0, by omega, by simp, rfl⟩
      case round =>
        obtain ⟨j, hj, rfl, rfl⟩ := hrel
        by_cases hlt : j < n
        · have hck := HC.out j hlt
          unfold mkU8 at hck
          go_wp2
          go_round
          case rel => exact ⟨j + 1, by omega, by first | go_num | (congr 1; omega), by go_num⟩
          case measure => simp [intOf]; omega
        · obtain rfl : j = n := by omega
          go_wp2
          go_ret
          exact ⟨rfl, rfl⟩
set_option maxHeartbeats 400000 in
theorem markIntS_any (a : Option Addr) (n cap : Nat) (k : Int) (zs : List Int) (lo hi : Nat) (w : World) (hz : zs.length = n) (hn : n ≤ 4194304) (hk : 0 ≤ k) (hk2 : k ≤ 1099511627776) (ha : OwnA .i64 w lo hi a zs) :
    Calls Try.prog 63 #[.slice a n cap, .int .i64 k] w fun e w' => e = .returned (.int .i64 (k + n)) ∧ OwnA .i64 w' lo hi a (marks mkI64 k n) ∧ Out lo hi w w' := by
  have HZ := Lib.hid hz; clear hz
  by_cases h0 : n = 0
  · subst h0
    go_enter Try.func63, Try.ntmps63
    go_wp2
    go_loop [1, 5] (fun q i => q = .int .i64 k ∧ i = .int .i64 0) (fun _ _ => 0)
    case atStart => exact ⟨rfl, rfl⟩
    case round =>
      obtain ⟨rfl, rfl⟩ := hrel
      go_wp2
      go_ret
      refine ⟨ret_int (by simp), ?_, Out.refl _ _ _⟩
      have hz0 := List.length_eq_zero_iff.1 HZ.out
      subst hz0
      exact ha
  · rcases ha with ⟨_, h⟩ | ⟨B, cs, E, rfl, hB1, hB2, hh, hcs, hcc⟩
    · exfalso; rw [h] at HZ; exact h0 HZ.out.symm
    · have HH : Hid (HalfMarked .i64 mkI64 k cs zs 0 n) := ⟨by rw [← HZ.out]; exact hcs, fun i hi => by rw [if_neg (by omega)]; exact hcc i (by rw [HZ.out]; exact hi)⟩
      clear hcs hcc
      go_enter Try.func63, Try.ntmps63
      go_wp2
      go_loopw [1, 5] (fun q i wr => ∃ (j : Nat) (cs' : Array Value), j ≤ n ∧ q = .int .i64 (k + j) ∧ i = .int .i64 j ∧ HalfMarked .i64 mkI64 k cs' zs j n ∧ wr.heap[B]? = some (.cells cs' E (0, 0)) ∧ Out lo hi w wr) (fun _ i _ => n - (intOf i).toNat)
      case atStart => exact ⟨0, cs, by omega, by simp, rfl, HH.out, hh, Out.refl _ _ _⟩
      case round =>
        obtain ⟨j, cs', hj, rfl, rfl, hM, hhr, hO⟩ := hrel
        have HM := Lib.hid hM; clear hM
        have HHR := Lib.hid hhr; clear hhr hh
        by_cases hlt : j < n
        · obtain ⟨x, hx⟩ := HM.out.get hlt
          have hcell : wr.cell? ⟨B, j, none⟩ = some (.int .i64 x) := (cell_of_heap HHR.out j).trans hx
          have hfree : wr.frozen? ⟨B, j, none⟩ = false := free_of_heap HHR.out j
          clear hx
          go_wp2
          go_roundw
          case rel => exact ⟨j + 1, cs'.setIfInBounds j (.int .i64 (mkI64 (k + j))), by omega, by first | go_num | (congr 1; omega), by go_num, HM.out.step hlt, setCell_block HHR.out _, hO.setCell hB1 hB2 _ _⟩
          case measure => simp [intOf]; omega
        · obtain rfl : j = n := by omega
          go_wp2
          go_ret
          refine ⟨rfl, .inr ⟨B, cs', E, rfl, hB1, hB2, HHR.out, by rw [marks_len]; exact HM.out.1, fun i hi => ?_⟩, hO⟩
          rw [marks_len] at hi
          rw [marks_get _ _ _ _ hi, HM.out.2 i hi, if_pos hi]
set_option maxHeartbeats 400000 in
theorem heldIntS_any (a : Option Addr) (n cap : Nat) (k : Int) (w : World) (hn : n ≤ 4194304) (hk : 0 ≤ k) (hk2 : k ≤ 1099511627776) (ha : RowAt .i64 w a (marks mkI64 k n)) :
    Calls Try.prog 64 #[.slice a n cap, .int .i64 k] w fun e w' => e = .returned (.int .i64 (k + n)) ∧ w = w' := by
  by_cases h0 : n = 0
  · subst h0
    go_enter Try.func64, Try.ntmps64
    go_wp2
    go_loop [1, 5] (fun q i => q = .int .i64 k ∧ i = .int .i64 0) (fun _ _ => 0)
    case atStart => exact ⟨rfl, rfl⟩
    case round =>
      obtain ⟨rfl, rfl⟩ := hrel
      go_wp2
      go_ret
      exact ⟨ret_int (by simp), rfl⟩
  · rcases ha with h | ⟨b, off, rfl, hb, hc⟩
    · exfalso; have := marks_len mkI64 k n; rw [h] at this; exact h0 this.symm
    · have HC : Hid (∀ i, i < n → w.cell? ⟨b, off + i, none⟩ = some (.int .i64 (mkI64 (k + i)))) := fun i hi => by rw [hc i (by rw [marks_len]; exact hi), marks_get _ _ _ _ hi]
      clear hc
      go_enter Try.func64, Try.ntmps64
      go_wp2
      go_loop [1, 5] (fun q i => ∃ j : Nat, j ≤ n ∧ q = .int .i64 (k + j) ∧ i = .int .i64 j) (fun _ i => n - (intOf i).toNat)
      case atStart => exact ⟨0, by omega, by simp, rfl⟩
      case round =>
        obtain ⟨j, hj, rfl, rfl⟩ := hrel
        by_cases hlt : j < n
        · have hck := HC.out j hlt
          unfold mkI64 at hck
          go_wp2
          go_round
          case rel => exact ⟨j + 1, by omega, by first | go_num | (congr 1; omega), by go_num⟩
          case measure => simp [intOf]; omega
        · obtain rfl : j = n := by omega
          go_wp2
          go_ret
          exact ⟨rfl, rfl⟩
set_option maxHeartbeats 400000 in
theorem clone_any (b off n c : Nat) (zs : List Int) (w : World) (hz : zs.length = n) (hn : n ≤ 1048576) (ha : RowAt .i64 w (some ⟨b, off, none⟩) zs) :
    Calls Try.prog 62 #[.slice (some ⟨b, off, none⟩) n c] w fun e w' => ∃ a' c', e = .returned (.slice a' n c') ∧ OwnA .i64 w' w.heap.size w'.heap.size a' zs ∧ Below w.heap.size w w' := by
  obtain ⟨i0, hi, hz0, hz1, hz2⟩ := info_parts infoInt
  have q22 : ∀ (w : World) (a : Option Addr) (n c n' c' : Nat), (binOp .eql 27 (.slice a n c) (.slice none n' c')).run Try.prog w = .ok (.bool a.isNone) w := fun w a n c n' c' => Lib.run_eql_slice_nil w _ _ a n c n' c' Try.underlying27
  have HA := Lib.hid ha; clear ha
  have HZ := Lib.hid hz; clear hz
  go_enter Try.func62, Try.ntmps62
  go_wp2_with (at_builtin; refine wpList_append_own _ rfl _ _ 27 rfl w.heap.size 3 i0 (.int .i64 0) 1 8 Try.underlying27 hi hz0 hz1 hz2 rfl (by decide) _ _ _ rfl (World.ownsRow_made w #[] 0 (Nat.le_refl _) (Nat.zero_le _) rfl) ⟨b, off, none⟩ n c (zs.map (Value.int .i64)) rfl ?qc1 ?qc2 ?qc3 ?qc4 ?qc5 ?qc6 ?_)
  case qc1 => simp [HZ.out]
  case qc2 =>
    intro j u hj
    have hjn : j < zs.length := by
      have := (List.getElem?_eq_some_iff.1 hj).1
      simpa using this
    rw [Addr.add_lit]
    rcases HA.out with h | ⟨b', off', hab, hlt, hc⟩
    · rw [h] at hjn; exact absurd hjn (by simp)
    · simp only [Option.some.injEq, Addr.mk.injEq, and_true] at hab
      obtain ⟨rfl, rfl⟩ := hab
      refine Lib.cell?_alloc_some _ ?_
      rw [hc j hjn]
      have e : (zs.map (Value.int .i64))[j]? = some (Value.int .i64 (zs.getD j 0)) := by simp [List.getD, List.getElem?_eq_getElem hjn]
      rw [e] at hj
      exact hj
  case qc3 => intro u hu; obtain ⟨x, _, rfl⟩ := List.mem_map.1 hu; rfl
  case qc4 => unfold maxLen; omega
  case qc5 => omega
  case qc6 => simp
  intro v' w1 hown hgrow hnil
  go_wp2
  go_ret
  have hown2 : w1.ownsRow w.heap.size 3 1 v' n (zs.map (Value.int .i64)) := by simpa using hown
  obtain ⟨a', c', rfl, hoa⟩ := own_of_row hown2 HZ.out (Nat.le_refl _)
  exact ⟨a', c', rfl, hoa, ((Below.refl _ w).alloc (Nat.le_refl _) _).grown hgrow (by simp) (by intro k hk; simp [Value.ownBlock] at hk; omega)⟩
end Go.Proofs.Ytmgdfefffgjddaa
