/-
  PROVED: how a slice of whole numbers (two cells each) is opened.
  CONDITIONS: none.
-/
import Derived.Test.YtmgdfefffgjddaaKit
import Derived.Deep.Slices
namespace Go.Proofs.Ytmgdfefffgjddaa
open Go.ChangeShapes Go.WideShapes Go.ChangeAt Go.RowKit Go.Deep
set_option linter.unusedVariables false
structure WholeW where
  neg : Bool
  a : Option Addr
  len : Nat
  cap : Nat
  zs : List Int
def IsWholes (w : World) (a : Option Addr) (len cap : Nat) (zl : List WholeW) : Prop :=
  (a = none ∧ len = 0 ∧ cap = 0 ∧ zl = []) ∨
  ∃ x, a = some x ∧ len ≤ cap ∧ cap ≤ maxLen ∧ zl.length = cap ∧ ∀ i (h : i < zl.length), w.cell? (x.add (i * 2)) = some (.bool zl[i].neg) ∧ w.cell? (x.add (i * 2 + 1)) = some (.slice zl[i].a zl[i].len zl[i].cap) ∧ IsRow .i64 w zl[i].a zl[i].len zl[i].cap zl[i].zs
theorem exists_list {α : Type} {Q : Nat → α → Prop} : ∀ (n : Nat), (∀ i, i < n → ∃ x, Q i x) → ∃ l : List α, l.length = n ∧ ∀ i (h : i < l.length), Q i l[i]
  | 0, _ => ⟨[], rfl, fun i h => absurd h (Nat.not_lt_zero _)⟩
  | n + 1, h => by
    obtain ⟨l, hl, hq⟩ := exists_list n (fun i hi => h i (by omega))
    obtain ⟨x, hx⟩ := h n (by omega)
    refine ⟨l ++ [x], by simp [hl], fun i hi => ?_⟩
    by_cases h1 : i < l.length
    · rw [List.getElem_append_left h1]; exact hq i h1
    · have : i = n := by simp at hi; omega
      subst this
      rw [List.getElem_append_right (by omega)]
      simpa [hl] using hx
theorem wholes_of {H : Type} {enc : TypeId × Value → H} {P : Program} {W : World} {t e ti : TypeId} {f0 f1 : Field} {fuel : Nat} {cs : List Value} {y : DataW H × List MemPlace}
    (ht : P.underlying t = some (.slice e)) (he : P.underlying e = some (.struct #[f0, f1])) (hC : P.cellsOf e = 2) (h0 : P.underlying f0.type = some .bool) (h1 : P.underlying f1.type = some (.slice ti)) (hi8 : P.underlying ti = some (.int .i64)) (hci : P.cellsOf ti = 1)
    (ho0 : f0.offset = 0) (ho1 : f1.offset = 1) (hc0 : P.cellsOf f0.type = 1) (hc1 : P.cellsOf f1.type = 1)
    (h : DataW.trod enc P W 0 (fun _ => true) true fuel t cs = some y) : ∃ a len cap zl, cs = [.slice a len cap] ∧ IsWholes W a len cap zl := by
  rcases open_slice ht h with h2 | ⟨a, len, cap, m, n, D, Pl, hcs, hb, hl, hm, hmm, hx, hi⟩
  · exact ⟨none, 0, 0, [], h2.1, .inl ⟨rfl, rfl, rfl, rfl⟩⟩
  · obtain rfl : m = cap := by simpa using hmm
    obtain ⟨zl, hzl, hq⟩ := exists_list (Q := fun i (x : WholeW) => W.cell? (a.add (i * 2)) = some (.bool x.neg) ∧ W.cell? (a.add (i * 2 + 1)) = some (.slice x.a x.len x.cap) ∧ IsRow .i64 W x.a x.len x.cap x.zs) m (fun i him => by
      obtain ⟨cs', hc, ht'⟩ := hi i him
      rw [hC] at hc
      obtain ⟨_, hcl, hat⟩ := World.cells?_some hc
      obtain ⟨y0, n0, hy0⟩ := field_at he ht' 0 f0 rfl 0 1 ho0 hc0
      obtain ⟨y1, n1, hy1⟩ := field_at he ht' 1 f1 rfl 1 1 ho1 hc1
      match cs', hcl with
      | [c0, c1], _ =>
        obtain ⟨b, eb, _⟩ := DataW.trod_bool h0 (by simpa using hy0)
        obtain ⟨a', len', cap', zs', e', hr⟩ := row_of h1 hi8 hci (by simpa using hy1)
        have g0 := hat 0 (by omega)
        have g1 := hat 1 (by omega)
        simp only [List.cons.injEq, and_true] at eb e'
        subst eb e'
        refine ⟨⟨b, a', len', cap', zs'⟩, ?_, ?_, hr⟩
        · have ez : (a.add (i * 2)).add 0 = a.add (i * 2) := (Go.Deep.add_add a (i * 2) 0)
          rw [ez] at g0
          simpa using g0
        · rw [Go.Deep.add_add] at g1
          simpa using g1)
    exact ⟨some a, len, m, zl, hcs, .inr ⟨a, rfl, hl, hm, hzl, hq⟩⟩
end Go.Proofs.Ytmgdfefffgjddaa
