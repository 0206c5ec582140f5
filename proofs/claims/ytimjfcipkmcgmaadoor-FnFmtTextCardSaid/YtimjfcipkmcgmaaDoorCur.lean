/-
  PROVED: contracts of the cursor that the draws share: a new one, a byte, a number below a bound.
  CONDITIONS: none.
-/
import Derived.Test.YtimjfcipkmcgmaaDoorRows2
import Derived.Test.YtimjfcipkmcgmaaDoorOwn
import Derived.Laws.BitsLemmas
namespace Go.Proofs.YtimjfcipkmcgmaaDoor
open Go.ChangeShapes Go.WideShapes Go.ChangeAt Go.RowKit
set_option linter.unusedVariables false
/-! ### only one block has turned -/
theorem only_refl (w : World) (r : Option Nat) : w.grownBy w r := ⟨rfl, rfl, rfl, Nat.le_refl _, fun _ _ _ => rfl⟩
theorem only_drewN {a w : World} {row : Option Nat} (h : a.grownBy w row) (n : Nat) : a.grownBy (w.drewN n) row := ⟨h.os, h.tape, h.output, h.size, h.block⟩
theorem only_drew {a w : World} {row : Option Nat} (h : a.grownBy w row) : a.grownBy w.drew row := ⟨h.os, h.tape, h.output, h.size, h.block⟩
theorem only_of_below {a w : World} (h : Below a.heap.size a w) (row : Option Nat) : a.grownBy w row := ⟨h.os, h.tape, h.output, h.size, fun i hi _ => h.block i hi⟩
theorem only_setCell {a w : World} {g : Nat} (h : a.grownBy w (some g)) (i : Nat) (u : Value) : a.grownBy (w.setCell ⟨g, i, none⟩ u) (some g) :=
  ⟨h.os, h.tape, h.output, by simpa [World.setCell] using h.size, fun k hk hne => (Below.heap_setCell w _ u k (by rintro rfl; exact hne rfl)).trans (h.block k hk hne)⟩
theorem only_step {a b c : World} {g : Nat} (h : a.grownBy b (some g)) (k : b.grownBy c (some g)) : a.grownBy c (some g) :=
  ⟨k.os.trans h.os, k.tape.trans h.tape, k.output.trans h.output, Nat.le_trans h.size k.size, fun i hi hne => (k.block i (Nat.lt_of_lt_of_le hi h.size) hne).trans (h.block i hi hne)⟩
theorem below_only {w0 w w' : World} {g : Nat} (h : Below w0.heap.size w0 w) (ho : w.grownBy w' (some g)) (hg : w0.heap.size ≤ g) : Below w0.heap.size w0 w' :=
  ⟨ho.os.trans h.os, ho.tape.trans h.tape, ho.output.trans h.output, Nat.le_trans h.size ho.size, fun b hb => (ho.block b (Nat.lt_of_lt_of_le hb h.size) (fun e => by injection e with e; omega)).trans (h.block b hb)⟩
/-- the bytes that a cursor goes over -/
structure Src where
  a : Option Addr
  n : Nat
  c : Nat
  l : List Int
  len : l.length = n
  le : n ≤ 1048576
  byte : ∀ z ∈ l, 0 ≤ z ∧ z ≤ 255
/-- a cursor in block g: its bytes, its place i, its number h -/
def CurAt (w : World) (g : Nat) (S : Src) (i : Nat) (h : Int) : Prop :=
  w.heap[g]? = some (.cells #[.slice S.a S.n S.c, .int .i64 i, .int .i64 h] 64 (0, 0)) ∧ RowAt .u8 w S.a S.l ∧ i ≤ S.n ∧ -9223372036854775808 ≤ h ∧ h ≤ 9223372036854775807
theorem CurAt.below {w w' : World} {g : Nat} {S : Src} {i : Nat} {h : Int} (hc : CurAt w g S i h) (hb : Below w.heap.size w w') : CurAt w' g S i h :=
  ⟨(hb.block g (lt_of_heap hc.1)).trans hc.1, hc.2.1.below hb, hc.2.2⟩
theorem CurAt.lt {w : World} {g : Nat} {S : Src} {i : Nat} {h : Int} (hc : CurAt w g S i h) : g < w.heap.size := lt_of_heap hc.1
theorem CurAt.ne {w : World} {g b off : Nat} {S : Src} {i : Nat} {h : Int} (hc : CurAt w g S i h) (hn : 0 < S.l.length) (ha : S.a = some ⟨b, off, none⟩) : b ≠ g := by
  intro e
  subst e
  rcases hc.2.1 with h0 | ⟨b', off', hab, _, hcell⟩
  · rw [h0] at hn; simp at hn
  · rw [ha] at hab
    simp only [Option.some.injEq, Addr.mk.injEq, and_true] at hab
    obtain ⟨rfl, rfl⟩ := hab
    have h1 := hcell 0 hn
    rw [cell_of_heap hc.1] at h1
    rcases off with _ | _ | _ | off <;> simp at h1
/-- the rows stay behind a store into the cursor -/
theorem RowAt.only {K : IntKind} {w w' : World} {a : Option Addr} {zs : List Int} {g : Nat} (h : RowAt K w a zs) (ho : w.grownBy w' (some g)) (hne : ∀ b off, a = some ⟨b, off, none⟩ → 0 < zs.length → b ≠ g) : RowAt K w' a zs := by
  rcases h with h | ⟨b, off, ha, hlt, hc⟩
  · exact .inl h
  · by_cases h0 : 0 < zs.length
    · refine .inr ⟨b, off, ha, Nat.lt_of_lt_of_le hlt ho.size, fun i hi => ?_⟩
      rw [← hc i hi]
      exact World.cell?_of_block (a := ⟨b, off + i, none⟩) (ho.block b hlt (fun e => hne b off ha h0 (by injection e)))
    · exact .inl (List.eq_nil_of_length_eq_zero (by omega))
theorem and255 (x : Int) : 0 ≤ bits BinOp.and IntKind.i64 x 255 ∧ bits BinOp.and IntKind.i64 x 255 ≤ 255 := by
  simp only [bits, BitVec.toNat_and]
  have h1 : ((BitVec.ofInt IntKind.i64.bits x).toNat &&& (BitVec.ofInt IntKind.i64.bits 255).toNat) ≤ (BitVec.ofInt IntKind.i64.bits 255).toNat := Nat.and_le_right
  have h2 : (BitVec.ofInt IntKind.i64.bits 255).toNat = 255 := by decide
  rw [h2] at h1
  rw [h2]
  generalize ((BitVec.ofInt IntKind.i64.bits x).toNat &&& 255) = y at *
  rw [IntWalk.i64_in _ ⟨by omega, by omega⟩]
  omega
def newF (h z : Int) : Int := bits BinOp.and IntKind.i64 (h * 131 + z + 7) 1073741823
theorem wraps63 (n : Int) (h0 : 0 ≤ n) (h1 : n < 2 ^ 63) : IntKind.i64.wrap n = n := by
  have e : (2 : Int) ^ 63 = 9223372036854775808 := by decide
  exact IntWalk.i64_in n ⟨by omega, by omega⟩
theorem newF_bd {h z : Int} (h0 : 0 ≤ h) (h1 : h ≤ 1073741823) (z0 : 0 ≤ z) (z1 : z ≤ 255) : 0 ≤ newF h z ∧ newF h z ≤ 1073741823 := by
  have e63 : (2 : Int) ^ 63 = 9223372036854775808 := by decide
  have e := bits_mask .i64 63 (by decide) wraps63 30 (by decide) (h * 131 + z + 7) (by omega) (by omega)
  have e1 : ((2 : Int) ^ 30 - 1) = 1073741823 := by decide
  have e2 : ((2 : Int) ^ 30) = 1073741824 := by decide
  rw [e1, e2] at e
  unfold newF
  rw [e]; omega
def newH (n : Nat) (l : List Int) (k : Nat) : Int := (l.take k).foldl newF (26583 + n)
theorem newH_succ {n : Nat} {l : List Int} {k : Nat} (h : k < l.length) : newH n l (k + 1) = newF (newH n l k) (l.getD k 0) := by
  unfold newH
  rw [List.take_succ_eq_append_getElem h, List.foldl_append]
  simp [List.getD_eq_getElem?_getD, List.getElem?_eq_getElem h]
theorem newH_bd (n : Nat) (l : List Int) (hn : n ≤ 1048576) (hb : ∀ z ∈ l, 0 ≤ z ∧ z ≤ 255) : ∀ k, k ≤ l.length → 0 ≤ newH n l k ∧ newH n l k ≤ 1073741823
  | 0, _ => by unfold newH; simp; omega
  | k + 1, h => by
    have ih := newH_bd n l hn hb k (by omega)
    rw [newH_succ (by omega)]
    have hz := hb (l.getD k 0) (getD_mem (by omega))
    exact newF_bd ih.1 ih.2 hz.1 hz.2
def h0S (S : Src) : Int := newH S.n S.l (if S.n < 4000 then S.n else 4000)
set_option maxRecDepth 100000 in
set_option maxHeartbeats 1000000 in
theorem l1New_raw (a : Option Addr) (n c : Nat) (l : List Int) (w : World) (hl : l.length = n) (hn : n ≤ 1048576) (hb : ∀ z ∈ l, 0 ≤ z ∧ z ≤ 255) (ha : RowAt .u8 w a l) :
    Calls Tryd.prog 33 #[.slice a n c] w fun e w' => e = .returned (.pointer (some ⟨w.heap.size, 0, none⟩)) ∧ w'.heap[w.heap.size]? = some (.cells #[.slice a n c, .int .i64 0, .int .i64 (newH n l (if n < 4000 then n else 4000))] 64 (0, 0)) ∧ Below w.heap.size w w' := by
  have hend : ∀ (k : Nat), k ≤ n → (¬ (k < n ∧ k < 4000)) → (k ≤ 4000) → newH n l k = newH n l (if n < 4000 then n else 4000) := by
    intro k h1 h2 h3
    congr 1
    split <;> omega
  have HEND := Lib.hid hend; clear hend
  have HL := Lib.hid hl
  have HBB := Lib.hid hb
  clear hl hb
  generalize newH n l (if n < 4000 then n else 4000) = hz at *
  by_cases h0 : n = 0
  · subst h0
    have HZ := Lib.hid (HEND.out 0 (by omega) (by omega) (by omega))
    have HZ2 : Hid ((26583 : Int) = hz) := by have := HZ.out; show _ = _; rw [← this]; rfl
    clear ha
    go_enter Tryd.func33, Tryd.ntmps33
    go_wp2_with fail
    go_loop [3, 4] (fun hv iv => hv = .int .i64 26583 ∧ iv = .int .i64 0) (fun _ _ => 0)
    case atStart => exact ⟨rfl, rfl⟩
    case round =>
      obtain ⟨rfl, rfl⟩ := hrel
      go_wp2
      go_ret
      exact ⟨rfl, by rw [← HZ2.out]; exact heap_alloc_new w _, bl_alloc _ _⟩
  · rcases ha with h | ⟨b, off, rfl, hbl, hc⟩
    · exfalso; rw [h] at HL; exact h0 HL.out.symm
    · have HC := Lib.hid hc; clear hc
      go_enter Tryd.func33, Tryd.ntmps33
      go_wp2_with fail
      go_loop [3, 4] (fun hv iv => ∃ (k : Nat) (h : Int), k ≤ n ∧ k ≤ 4000 ∧ iv = .int .i64 k ∧ hv = .int .i64 h ∧ Hid (newH n l k = h) ∧ 0 ≤ h ∧ h ≤ 1073741823) (fun _ iv => n - (intOf iv).toNat)
      case atStart => exact ⟨0, 26583 + n, by omega, by omega, rfl, rfl, Lib.hid rfl, by omega, by omega⟩
      case round =>
        obtain ⟨k, h, hk, hk4, rfl, rfl, HH, hh0, hh1⟩ := hrel
        by_cases hlt : k < n ∧ k < 4000
        · obtain ⟨hk1, hk2⟩ := hlt
          have hcell : w.cell? ⟨b, off + k, none⟩ = some (.int .u8 (l.getD k 0)) := HC.out k (by rw [HL.out]; exact hk1)
          obtain ⟨hz0, hz1⟩ := HBB.out (l.getD k 0) (getD_mem (by rw [HL.out]; exact hk1))
          have HN : Hid (newH n l (k + 1) = newF h (l.getD k 0)) := by show _ = _; rw [newH_succ (by rw [HL.out]; exact hk1), HH.out]
          obtain ⟨hf0, hf1⟩ := newF_bd hh0 hh1 hz0 hz1
          have HF : Hid (0 ≤ newF h (l.getD k 0) ∧ newF h (l.getD k 0) ≤ 1073741823) := ⟨hf0, hf1⟩
          clear hf0 hf1
          generalize l.getD k 0 = z at *
          go_wp2_with fail
          go_round
          case rel => exact ⟨k + 1, newF h z, by omega, by omega, by go_num, rfl, HN, HF.out.1, HF.out.2⟩
          case measure => simp [intOf]; omega
        · have HZ : Hid (h = hz) := by show h = hz; rw [← HH.out]; exact HEND.out k hk hlt hk4
          by_cases hk1 : k < n
          · have hk2 : ¬ k < 4000 := fun h => hlt ⟨hk1, h⟩
            clear hlt
            go_wp2_with fail
            go_ret
            exact ⟨rfl, by rw [← HZ.out]; exact heap_alloc_new w _, bl_alloc _ _⟩
          · clear hlt
            go_wp2_with fail
            go_ret
            exact ⟨rfl, by rw [← HZ.out]; exact heap_alloc_new w _, bl_alloc _ _⟩
theorem l1New_any (S : Src) (w : World) (ha : RowAt .u8 w S.a S.l) :
    Calls Tryd.prog 33 #[.slice S.a S.n S.c] w fun e w' => e = .returned (.pointer (some ⟨w.heap.size, 0, none⟩)) ∧ CurAt w' w.heap.size S 0 (h0S S) ∧ Below w.heap.size w w' :=
  (l1New_raw S.a S.n S.c S.l w S.len S.le S.byte ha).mono fun e w' ⟨h1, h2, h3⟩ => by
    have h4 := newH_bd S.n S.l S.le S.byte (if S.n < 4000 then S.n else 4000) (by rw [S.len]; split <;> omega)
    exact ⟨h1, ⟨h2, ha.below h3, Nat.zero_le _, by unfold h0S; omega, by unfold h0S; omega⟩, h3⟩
end Go.Proofs.YtimjfcipkmcgmaaDoor
