/-
  PROVED: contracts of the turning of a whole number's sign, and of the marking of whole numbers.
  CONDITIONS: none.
-/
import Derived.Test.YtimjfcipkmcgmaaWhole
import Derived.Test.YtimjfcipkmcgmaaOwn
import Derived.Deep.RegionHeld3
namespace Go.Proofs.Ytimjfcipkmcgmaa
open Go.ChangeShapes Go.WideShapes Go.ChangeAt Go.RowKit
set_option linter.unusedVariables false
/-- a whole number handed back in memory of the call's own -/
def WholeOwn (neg : Bool) (zs : List Int) (w : World) : Ending → World → Prop := fun e w' =>
  ∃ a c, e = .returned (.agg #[.bool neg, .slice a zs.length c]) ∧ OwnA .i64 w' w.heap.size w'.heap.size a zs ∧ Below w.heap.size w w'
theorem step_append_own {P : Program} {ops : Array Oper} {o : Oper} {act : Act} {w : World} {K : Act → World → Prop} {Q : Exit → Act → World → Prop} {X : Prop} (hgd : o.guard = none) (s x : Operand) (t : TypeId)
    (ho : o.op = .call { callee := .builtin .append, args := #[s, x], argTypes := #[t, t] })
    (base : Nat) (e : TypeId) (i : TypeInfo) (z : Value) (size bytes : Nat) (ht : P.underlying t = some (.slice e)) (hi : P.info? e = some i) (hz : i.zero = some z)
    (hsize : i.size = size) (hby : i.bytes = bytes) (hzs : z.cells.size = size) (hsz : 0 < size)
    (v : Value) (n : Nat) (xs : List Value) (hs : act.eval s = v) (hown : w.ownsRow base e size v n xs)
    (ad : Addr) (m c : Nat) (news : List Value) (hx : act.eval x = .slice (some ad) m c) (hl : news.length = m * size) (hnews : ∀ j u, news[j]? = some u → w.cell? (ad.add j) = some u) (h1 : ∀ u ∈ news, u.oneCell' = true)
    (h63 : n + m ≤ maxLen) (hbytes : (n + m) * bytes ≤ 140737488355328) (hbase : base ≤ w.heap.size)
    (h : ∀ v' w', w'.ownsRow base e size v' (n + m) (xs ++ news) → w.grownBy w' v.ownBlock → K (act.put o.dst v') w') :
    if Region.wanted o (yielded ops act.tmps) = true then Oper.wp P o act w K Q else X := by
  rw [if_pos (by simp [Region.wanted, hgd])]
  exact wp_append_own w s x t ho base e i z size bytes ht hi hz hsize hby hzs hsz v n xs hs hown ad m c news hx hl hnews h1 h63 hbytes hbase fun v' w' h2 h3 _ => h v' w' h2 h3
theorem grown2 {W2 W3 w1 : World} {g : Nat} (h : Below W2.heap.size W2 W3) (hg : W3.grownBy w1 (Value.slice (some ⟨g, 0, none⟩) 0 0).ownBlock) (hB : W2.heap.size ≤ W3.heap.size) (hk : W2.heap.size ≤ g) : Below W2.heap.size W2 w1 :=
  h.grown hg hB (by intro k hk'; simp [Value.ownBlock] at hk'; omega)
theorem set_two {w : World} {r : Nat} {u0 u1 : Value} (h : BoxAt w r #[u0, u1]) : (∀ x, (w.setCell ⟨r, 0, none⟩ x).cell? ⟨r, 0, none⟩ = some x) ∧ (∀ x y, ((w.setCell ⟨r, 0, none⟩ x).setCell ⟨r, 1, none⟩ y).cell? ⟨r, 1, none⟩ = some y) ∧ (∀ x y, ((w.setCell ⟨r, 0, none⟩ x).setCell ⟨r, 1, none⟩ y).cell? ⟨r, 0, none⟩ = some x) := by
  have h0 : w.cell? ⟨r, 0, none⟩ = some u0 := h.cell 0
  have h1 : w.cell? ⟨r, 1, none⟩ = some u1 := h.cell 1
  have e1 : ∀ x, (w.setCell ⟨r, 0, none⟩ x).cell? ⟨r, 0, none⟩ = some x := fun x => World.cell?_setCell_same _ _ _ h0
  refine ⟨e1, fun x y => World.cell?_setCell_same (u := u1) _ _ _ ?_, fun x y => ?_⟩
  · rw [World.cell?_setCell_other _ _ _ _ (by simp)]; exact h1
  · rw [World.cell?_setCell_other _ _ _ _ (by simp)]; exact e1 x
theorem out_two {w : World} {r : Nat} (x y : Value) : Out r (r + 1) w ((w.setCell ⟨r, 0, none⟩ x).setCell ⟨r, 1, none⟩ y) :=
  ((Out.refl r (r + 1) w).setCell (Nat.le_refl _) (Nat.lt_succ_self _) 0 x).setCell (Nat.le_refl _) (Nat.lt_succ_self _) 1 y
set_option maxHeartbeats 400000 in
theorem l4Make_any (neg : Bool) (a : Option Addr) (n c : Nat) (w : World) (hn : n ≤ 1048576) :
    Calls Try.prog 61 #[.bool neg, .slice a n c] w fun e w' => e = .returned (.agg #[.bool (neg && decide (0 < n)), .slice a n c]) ∧ Below w.heap.size w w' := by
  cases neg
  · go_enter Try.func61, Try.ntmps61
    go_wp2
    exact bodyPost_ret (v := .agg #[.bool false, .slice a n c]) (by simp [results, Try.results61, go_sem]) rfl ⟨rfl, bl_alloc _ _⟩
  · cases h0 : decide (0 < n)
    · go_enter Try.func61, Try.ntmps61
      go_wp2
      exact bodyPost_ret (v := .agg #[.bool false, .slice a n c]) (by simp [results, Try.results61, go_sem]) rfl ⟨rfl, bl_alloc _ _⟩
    · go_enter Try.func61, Try.ntmps61
      go_wp2
      exact bodyPost_ret (v := .agg #[.bool true, .slice a n c]) (by simp [results, Try.results61, go_sem]) rfl ⟨rfl, bl_alloc _ _⟩
def wnegS (neg : Bool) (zs : List Int) : Bool := wholeOkB neg zs && (!neg && decide (0 < zs.length))
def wnegL (neg : Bool) (zs : List Int) : List Int := if wholeOkB neg zs = true then zs else []
theorem wnegS_no {neg : Bool} {zs : List Int} (h : wholeOkB neg zs = false) : wnegS neg zs = false := by unfold wnegS; rw [h]; rfl
theorem wnegL_no {neg : Bool} {zs : List Int} (h : wholeOkB neg zs = false) : wnegL neg zs = [] := by unfold wnegL; rw [if_neg (by rw [h]; simp)]
theorem wnegS_ok {neg : Bool} {zs : List Int} (h : wholeOkB neg zs = true) : wnegS neg zs = (!neg && decide (0 < zs.length)) := by unfold wnegS; rw [h]; rfl
theorem wnegL_ok {neg : Bool} {zs : List Int} (h : wholeOkB neg zs = true) : wnegL neg zs = zs := by unfold wnegL; rw [if_pos h]
theorem own_nil (K : IntKind) (w : World) (lo hi : Nat) : OwnA K w lo hi none [] := .inl ⟨rfl, rfl⟩
end Go.Proofs.Ytimjfcipkmcgmaa
