/-
  PROVED: contracts of the turning of a whole number's sign, and of the marking of whole numbers.
  CONDITIONS: none.
-/
import Derived.Test.YtmgdfefffgjddaaWhole
import Derived.Test.YtmgdfefffgjddaaOwn
import Derived.Deep.RegionHeld3
namespace Go.Proofs.Ytmgdfefffgjddaa
open Go.ChangeShapes Go.WideShapes Go.ChangeAt Go.RowKit
set_option linter.unusedVariables false
/-- a whole number handed back in memory of the call's own -/
def WholeOwn (neg : Bool) (zs : List Int) (w : World) : Ending → World → Prop := fun e w' =>
  ∃ a c, e = .returned (.agg #[.bool neg, .slice a zs.length c]) ∧ OwnA .i64 w' w.heap.size w'.heap.size a zs ∧ Below w.heap.size w w'
theorem step_append_own {P : Program} {ops : Array Oper} {o : Oper} {act : Act} {w : World} {K : Act → World → Prop} {Q : Exit → Act → World → Prop} {X : Prop} (hgd : o.guard = none) (s x : Operand) (t : TypeId)
    (ho : o.op = .call { callee := .builtin .append, args := #[s, x], argTypes := #[t, t] })
    (base : Nat) (e : TypeId) (i : TypeInfo) (z : Value) (size bytes : Nat) (ht : P.underlying t = some (.slice e)) (hi : P.info? e = some i) (hz : i.zero = some z)
    (hsize : i.size = size) (hby : i.bytes = bytes) (hzs : z.cells.size = size) (hsz : 0 < size)
    (v : Value) (n : Nat) (xs : List Value) (hs : act.eval s = v) (hown : w.ownsRow base e size v n xs)
    (ad : Addr) (m c : Nat) (news : List Value) (hx : act.eval x = .slice (some ad) m c) (hl : news.length = m * size) (hnews : ∀ j u, news[j]? = some u → w.cell? (ad.add j) = some u) (h1 : ∀ u ∈ news, u.oneCell' = true)
    (h63 : n + m ≤ maxLen) (hbytes : (n + m) * bytes ≤ 140737488355328) (hbase : base ≤ w.heap.size)
    (h : ∀ v' w', w'.ownsRow base e size v' (n + m) (xs ++ news) → w.grownBy w' v.ownBlock → K (act.put o.dst v') w') :
    if Region.wanted o (yielded ops act.tmps) = true then Oper.wp P o act w K Q else X := by
  rw [if_pos (by simp [Region.wanted, hgd])]
  exact wp_append_own w s x t ho base e i z size bytes ht hi hz hsize hby hzs hsz v n xs hs hown ad m c news hx hl hnews h1 h63 hbytes hbase fun v' w' h2 h3 _ => h v' w' h2 h3
theorem grown2 {W2 W3 w1 : World} {g : Nat} (h : Below W2.heap.size W2 W3) (hg : W3.grownBy w1 (Value.slice (some ⟨g, 0, none⟩) 0 0).ownBlock) (hB : W2.heap.size ≤ W3.heap.size) (hk : W2.heap.size ≤ g) : Below W2.heap.size W2 w1 :=
  h.grown hg hB (by intro k hk'; simp [Value.ownBlock] at hk'; omega)
theorem set_two {w : World} {r : Nat} {u0 u1 : Value} (h : BoxAt w r #[u0, u1]) : (∀ x, (w.setCell ⟨r, 0, none⟩ x).cell? ⟨r, 0, none⟩ = some x) ∧ (∀ x y, ((w.setCell ⟨r, 0, none⟩ x).setCell ⟨r, 1, none⟩ y).cell? ⟨r, 1, none⟩ = some y) ∧ (∀ x y, ((w.setCell ⟨r, 0, none⟩ x).setCell ⟨r, 1, none⟩ y).cell? ⟨r, 0, none⟩ = some x) := by
  have h0 : w.cell? ⟨r, 0, none⟩ = some u0 := h.cell 0
  have h1 : w.cell? ⟨r, 1, none⟩ = some u1 := h.cell 1
  have e1 : ∀ x, (w.setCell ⟨r, 0, none⟩ x).cell? ⟨r, 0, none⟩ = some x := fun x => World.cell?_setCell_same _ _ _ h0
  refine ⟨e1, fun x y => World.cell?_setCell_same (u := u1) _ _ _ ?_, fun x y => ?_⟩
  · rw [World.cell?_setCell_other _ _ _ _ (by simp)]; exact h1
  · rw [World.cell?_setCell_other _ _ _ _ (by simp)]; exact e1 x
theorem out_two {w : World} {r : Nat} (x y : Value) : Out r (r + 1) w ((w.setCell ⟨r, 0, none⟩ x).setCell ⟨r, 1, none⟩ y) :=
  ((Out.refl r (r + 1) w).setCell (Nat.le_refl _) (Nat.lt_succ_self _) 0 x).setCell (Nat.le_refl _) (Nat.lt_succ_self _) 1 y
theorem toWhole_own (neg : Bool) (a : Option Addr) (n cap : Nat) (zs : List Int) (w : World) (hz : zs.length = n) (hn : n ≤ 1048576) (ha : RowAt .i64 w a zs) :
    Calls Try.prog 29 #[.agg #[.bool neg, .slice a n cap]] w fun e w' => ∃ b c, e = .returned (.agg #[.bool neg, .slice (some ⟨b, 0, none⟩) n c]) ∧ OwnA .i64 w' w.heap.size w'.heap.size (some ⟨b, 0, none⟩) zs ∧ Below w.heap.size w w' := by
  refine (toWhole_eq neg a n cap zs w hz hn ha).mono ?_
  rintro e w' ⟨rfl, rfl⟩
  refine ⟨_, _, rfl, ?_, bl_al (bl_al (bl_al (bl_alloc _ _) _) _) _⟩
  have := own_alloc .i64 zs (((w.alloc (.cells #[.bool neg, .slice a n cap] 38)).alloc (.cells #[.bool neg, .slice (some ⟨w.heap.size + 1 + 1 + 1, 0, none⟩) n n] 41)).alloc (.cells #[.bool neg, .slice (some ⟨w.heap.size + 1 + 1 + 1, 0, none⟩) n n] 41)) 3
  have := this.wide (lo' := w.heap.size) (by simp; omega) (Nat.le_refl _)
  simpa using this
set_option maxHeartbeats 400000 in
theorem markWhole_any (neg : Bool) (a : Option Addr) (n cap : Nat) (k : Int) (zs : List Int) (lo hi : Nat) (w : World) (hz : zs.length = n) (hn : n ≤ 4194304) (hk : 0 ≤ k) (hk2 : k ≤ 1099511627776) (ha : OwnA .i64 w lo hi a zs) :
    Calls Try.prog 44 #[.agg #[.bool neg, .slice a n cap], .int .i64 k] w fun e w' => e = .returned (.int .i64 (k + n)) ∧ OwnA .i64 w' lo hi a (marks mkI64 k n) ∧ Out lo hi w w' := by
  have HZ := Lib.hid hz; clear hz
  have hb := bl_alloc w (.cells #[.bool neg, .slice a n cap] 41)
  have ha := ha.below hb
  go_enter Try.func44, Try.ntmps44
  go_wp2_with fail
  refine (markIntS_any _ _ _ _ zs lo hi _ HZ.out hn hk hk2 ha).mono ?_
  rintro e w2 ⟨rfl, ho, hO⟩
  go_wp2_with fail
  go_ret
  exact ⟨rfl, ho, Out.after hb hO⟩
set_option maxHeartbeats 400000 in
theorem heldWhole_any (neg : Bool) (a : Option Addr) (n cap : Nat) (k : Int) (w : World) (hn : n ≤ 4194304) (hk : 0 ≤ k) (hk2 : k ≤ 1099511627776) (ha : RowAt .i64 w a (marks mkI64 k n)) :
    Calls Try.prog 45 #[.agg #[.bool neg, .slice a n cap], .int .i64 k] w fun e w' => e = .returned (.int .i64 (k + n)) ∧ Below w.heap.size w w' := by
  have hb := bl_alloc w (.cells #[.bool neg, .slice a n cap] 41)
  have ha := ha.below hb
  go_enter Try.func45, Try.ntmps45
  go_wp2_with fail
  refine (heldIntS_any _ _ _ _ _ hn hk hk2 ha).mono ?_
  rintro e w2 ⟨rfl, rfl⟩
  go_wp2_with fail
  go_ret
  exact ⟨rfl, hb⟩
set_option maxHeartbeats 400000 in
theorem l4Make_any (neg : Bool) (a : Option Addr) (n c : Nat) (w : World) (hn : n ≤ 1048576) :
    Calls Try.prog 72 #[.bool neg, .slice a n c] w fun e w' => e = .returned (.agg #[.bool (neg && decide (0 < n)), .slice a n c]) ∧ Below w.heap.size w w' := by
  cases neg
  · go_enter Try.func72, Try.ntmps72
    go_wp2
    exact bodyPost_ret (v := .agg #[.bool false, .slice a n c]) (by simp [results, Try.results72, go_sem]) rfl ⟨rfl, bl_alloc _ _⟩
  · cases h0 : decide (0 < n)
    · go_enter Try.func72, Try.ntmps72
      go_wp2
      exact bodyPost_ret (v := .agg #[.bool false, .slice a n c]) (by simp [results, Try.results72, go_sem]) rfl ⟨rfl, bl_alloc _ _⟩
    · go_enter Try.func72, Try.ntmps72
      go_wp2
      exact bodyPost_ret (v := .agg #[.bool true, .slice a n c]) (by simp [results, Try.results72, go_sem]) rfl ⟨rfl, bl_alloc _ _⟩
set_option maxHeartbeats 2000000 in
theorem l4Neg_any (neg : Bool) (b n c : Nat) (zs : List Int) (w : World) (hz : zs.length = n) (hn : n ≤ 1048576) (ha : RowAt .i64 w (some ⟨b, 0, none⟩) zs) :
    Calls Try.prog 61 #[.agg #[.bool neg, .slice (some ⟨b, 0, none⟩) n c]] w (WholeOwn (!neg && decide (0 < zs.length)) zs w) := by
  obtain ⟨i0, hi, hz0, hz1, hz2⟩ := info_parts infoInt
  have HZ := Lib.hid hz; clear hz
  have hb2 : Below w.heap.size w ((w.alloc (.cells #[.bool neg, .slice (some ⟨b, 0, none⟩) n c] 41)).alloc (.cells #[.bool false, .slice none 0 0] 41)) := bl_al (bl_alloc _ _) _
  have hb3 : Below w.heap.size w (((w.alloc (.cells #[.bool neg, .slice (some ⟨b, 0, none⟩) n c] 41)).alloc (.cells #[.bool false, .slice none 0 0] 41)).alloc (.cells #[] 3)).drew := (bl_al hb2 _).drew
  have hb23 : Below ((w.alloc (.cells #[.bool neg, .slice (some ⟨b, 0, none⟩) n c] 41)).alloc (.cells #[.bool false, .slice none 0 0] 41)).heap.size ((w.alloc (.cells #[.bool neg, .slice (some ⟨b, 0, none⟩) n c] 41)).alloc (.cells #[.bool false, .slice none 0 0] 41)) (((w.alloc (.cells #[.bool neg, .slice (some ⟨b, 0, none⟩) n c] 41)).alloc (.cells #[.bool false, .slice none 0 0] 41)).alloc (.cells #[] 3)).drew := (bl_alloc _ _).drew
  have HOWN := Lib.hid (show (((w.alloc (.cells #[.bool neg, .slice (some ⟨b, 0, none⟩) n c] 41)).alloc (.cells #[.bool false, .slice none 0 0] 41)).alloc (.cells #[] 3)).drew.ownsRow ((w.alloc (.cells #[.bool neg, .slice (some ⟨b, 0, none⟩) n c] 41)).alloc (.cells #[.bool false, .slice none 0 0] 41)).heap.size 3 1 (.slice (some ⟨w.heap.size + 1 + 1, 0, none⟩) 0 0) 0 [] from by
    have h := World.ownsRow_made (e := 3) (size := 1) ((w.alloc (.cells #[.bool neg, .slice (some ⟨b, 0, none⟩) n c] 41)).alloc (.cells #[.bool false, .slice none 0 0] 41)) #[] 0 (Nat.le_refl _) (Nat.zero_le _) rfl
    have e1 : ((w.alloc (.cells #[.bool neg, .slice (some ⟨b, 0, none⟩) n c] 41)).alloc (.cells #[.bool false, .slice none 0 0] 41)).heap.size = w.heap.size + 1 + 1 := by simp
    rw [e1] at h
    rw [e1]
    simpa using h.drew)
  have HNEWS : Hid (∀ j u, (zs.map (Value.int .i64))[j]? = some u → (((w.alloc (.cells #[.bool neg, .slice (some ⟨b, 0, none⟩) n c] 41)).alloc (.cells #[.bool false, .slice none 0 0] 41)).alloc (.cells #[] 3)).drew.cell? ((⟨b, 0, none⟩ : Addr).add j) = some u) := by
    intro j u hj
    have hjn : j < zs.length := by
      have := (List.getElem?_eq_some_iff.1 hj).1
      simpa using this
    rw [Addr.add_lit]
    rcases ha.below hb3 with h | ⟨b', off', hab, hlt, hc⟩
    · rw [h] at hjn; exact absurd hjn (by simp)
    · simp only [Option.some.injEq, Addr.mk.injEq, and_true] at hab
      obtain ⟨rfl, rfl⟩ := hab
      rw [hc j hjn]
      have e : (zs.map (Value.int .i64))[j]? = some (Value.int .i64 (zs.getD j 0)) := by simp [List.getD, List.getElem?_eq_getElem hjn]
      rw [e] at hj
      exact hj
  have HL : Hid ((zs.map (Value.int .i64)).length = n * 1) := by show _ = _; simp [HZ.out]
  have H1 : Hid (∀ u ∈ zs.map (Value.int .i64), u.oneCell' = true) := by intro u hu; obtain ⟨x, _, rfl⟩ := List.mem_map.1 hu; rfl
  have h63 : 0 + n ≤ maxLen := by unfold maxLen; omega
  have hby : (0 + n) * 8 ≤ 140737488355328 := by omega
  have hbase := hb23.size
  have H63 := Lib.hid h63; clear h63
  have HBY := Lib.hid hby; clear hby
  have HBS := Lib.hid hbase; clear hbase
  have HG : Hid (((w.alloc (.cells #[.bool neg, .slice (some ⟨b, 0, none⟩) n c] 41)).alloc (.cells #[.bool false, .slice none 0 0] 41)).heap.size ≤ w.heap.size + 1 + 1) := by show _ ≤ _; simp
  have X0 := (BoxAt.new w #[.bool neg, .slice (some ⟨b, 0, none⟩) n c] 41).below (bl_alloc (w.alloc (.cells #[.bool neg, .slice (some ⟨b, 0, none⟩) n c] 41)) (.cells #[.bool false, .slice none 0 0] 41))
  have R0 := BoxAt.new_at (w.alloc (.cells #[.bool neg, .slice (some ⟨b, 0, none⟩) n c] 41)) #[.bool false, .slice none 0 0] 41 (n := w.heap.size + 1) (by simp)
  have HI := Lib.hid hi; clear hi
  clear ha
  go_enter Try.func61, Try.ntmps61
  go_wp2_with fail
  go_region_law (first
    | (refine step_append_own rfl _ _ 27 rfl ((w.alloc (.cells #[.bool neg, .slice (some ⟨b, 0, none⟩) n c] 41)).alloc (.cells #[.bool false, .slice none 0 0] 41)).heap.size 3 i0 (.int .i64 0) 1 8 Try.underlying27 HI.out hz0 hz1 hz2 rfl (by decide) _ 0 [] rfl HOWN.out ⟨b, 0, none⟩ n c (zs.map (Value.int .i64)) rfl HL.out HNEWS.out H1.out H63.out HBY.out HBS.out ?_; intro v1 w1 hown hgrow; obtain ⟨a1, c1, rfl, hoa⟩ := own_of_row (K := .i64) (v := v1) (E := 3) (lo := ((w.alloc (.cells #[.bool neg, .slice (some ⟨b, 0, none⟩) n c] 41)).alloc (.cells #[.bool false, .slice none 0 0] 41)).heap.size) (hi := w1.heap.size) (by simpa using hown) HZ.out (Nat.le_refl _); have hg1 := grown2 hb23 hgrow HBS.out HG.out; have hcx1 := (X0.below hg1).cell; clear hown hgrow)
    | (go_simp; go_at_call 72; refine (l4Make_any _ _ _ _ _ hn).mono ?_; rintro e w2 ⟨rfl, hbm⟩; have hg2 := bl_step hg1 hbm; have hoa2 := hoa.below hbm; have hr2 := R0.below hg2; have hcx2 := (X0.below hg2).cell; have hc2 := hr2.cell; have hf2 : ∀ i, w2.frozen? ⟨w.heap.size + 1, i, none⟩ = false := fun i => (hg2.frozen (p := ⟨w.heap.size + 1, i, none⟩) (by simp)).trans (by simp)))
  all_goals go_wp2
  all_goals obtain ⟨_, g1, g2⟩ := set_two hr2
  all_goals refine bodyPost_ret (v := .agg #[.bool (!neg && decide (0 < n)), .slice a1 n c1]) (by simp [results, Try.results61, go_sem, g1, g2]) rfl ?_
  all_goals
    have hO := out_two (w := w2) (r := w.heap.size + 1) (.bool (!neg && decide (0 < n))) (.slice a1 n c1)
    have e1 : ((w.alloc (.cells #[.bool neg, .slice (some ⟨b, 0, none⟩) n c] 41)).alloc (.cells #[.bool false, .slice none 0 0] 41)).heap.size = w.heap.size + 1 + 1 := by simp
    have hoa3 := (hoa2.out hO (.inr (by rw [e1]; exact Nat.le_refl _))).wide (lo' := w.heap.size) (hi' := w2.heap.size) (by rw [e1]; omega) hbm.size
    refine ⟨a1, c1, by rw [HZ.out], hoa3.wide (Nat.le_refl _) hO.size, below_out (bl_step hb2 hg2) hO (by omega)⟩
def wnegS (neg : Bool) (zs : List Int) : Bool := wholeOkB neg zs && (!neg && decide (0 < zs.length))
def wnegL (neg : Bool) (zs : List Int) : List Int := if wholeOkB neg zs = true then zs else []
theorem wnegS_no {neg : Bool} {zs : List Int} (h : wholeOkB neg zs = false) : wnegS neg zs = false := by unfold wnegS; rw [h]; rfl
theorem wnegL_no {neg : Bool} {zs : List Int} (h : wholeOkB neg zs = false) : wnegL neg zs = [] := by unfold wnegL; rw [if_neg (by rw [h]; simp)]
theorem wnegS_ok {neg : Bool} {zs : List Int} (h : wholeOkB neg zs = true) : wnegS neg zs = (!neg && decide (0 < zs.length)) := by unfold wnegS; rw [h]; rfl
theorem wnegL_ok {neg : Bool} {zs : List Int} (h : wholeOkB neg zs = true) : wnegL neg zs = zs := by unfold wnegL; rw [if_pos h]
theorem own_nil (K : IntKind) (w : World) (lo hi : Nat) : OwnA K w lo hi none [] := .inl ⟨rfl, rfl⟩
set_option maxHeartbeats 2000000 in
theorem sWholeNeg_any (neg : Bool) (b n c : Nat) (zs : List Int) (w : World) (hz : zs.length = n) (hn : n ≤ 1048576) (ha : RowAt .i64 w (some ⟨b, 0, none⟩) zs) :
    Calls Try.prog 42 #[.agg #[.bool neg, .slice (some ⟨b, 0, none⟩) n c]] w (WholeOwn (wnegS neg zs) (wnegL neg zs) w) := by
  have HZ := Lib.hid hz; clear hz
  have hb2 : Below w.heap.size w ((w.alloc (.cells #[.bool neg, .slice (some ⟨b, 0, none⟩) n c] 41)).alloc (.cells #[.bool false, .slice none 0 0] 41)) := bl_al (bl_alloc _ _) _
  have X0 := (BoxAt.new w #[.bool neg, .slice (some ⟨b, 0, none⟩) n c] 41).below (bl_alloc (w.alloc (.cells #[.bool neg, .slice (some ⟨b, 0, none⟩) n c] 41)) (.cells #[.bool false, .slice none 0 0] 41))
  have R0 := BoxAt.new_at (w.alloc (.cells #[.bool neg, .slice (some ⟨b, 0, none⟩) n c] 41)) #[.bool false, .slice none 0 0] 41 (n := w.heap.size + 1) (by simp)
  have e1 : ((w.alloc (.cells #[.bool neg, .slice (some ⟨b, 0, none⟩) n c] 41)).alloc (.cells #[.bool false, .slice none 0 0] 41)).heap.size = w.heap.size + 1 + 1 := by simp
  have E1 := Lib.hid e1; clear e1
  have ha2 := ha.below hb2
  clear ha
  cases hok : wholeOkB neg zs
  · rw [wnegS_no hok, wnegL_no hok]
    go_enter Try.func42, Try.ntmps42
    go_wp2_with fail
    refine (sWholeOk_eq _ _ _ _ zs _ HZ.out hn ha2 hok).mono ?_
    rintro e w1 ⟨rfl, hb⟩
    have hr1 := R0.below hb
    have hc1 := hr1.cell
    have hx1 := (X0.below hb).cell
    have hf1 : ∀ i, w1.frozen? ⟨w.heap.size + 1, i, none⟩ = false := fun i => (hb.frozen (p := ⟨w.heap.size + 1, i, none⟩) (by simp)).trans (by simp)
    go_wp2_with fail
    obtain ⟨_, g1, g2⟩ := set_two hr1
    refine bodyPost_ret (v := .agg #[.bool false, .slice none 0 0]) (by simp [results, Try.results42, go_sem, g1, g2]) rfl ?_
    exact ⟨none, 0, rfl, own_nil _ _ _ _, below_out (bl_step hb2 hb) (out_two _ _) (by omega)⟩
  · rw [wnegS_ok hok, wnegL_ok hok]
    go_enter Try.func42, Try.ntmps42
    go_wp2_with fail
    refine (sWholeOk_eq _ _ _ _ zs _ HZ.out hn ha2 hok).mono ?_
    rintro e w1 ⟨rfl, hb⟩
    have hx1 := (X0.below hb).cell
    have ha3 := ha2.below hb
    go_wp2_with fail
    refine (l4Neg_any _ _ _ _ zs _ HZ.out hn ha3).mono ?_
    rintro e w2 ⟨a2, c2, rfl, ho, hb'⟩
    have hg2 := bl_step hb hb'
    have hr2 := R0.below hg2
    have hc2 := hr2.cell
    have hf2 : ∀ i, w2.frozen? ⟨w.heap.size + 1, i, none⟩ = false := fun i => (hg2.frozen (p := ⟨w.heap.size + 1, i, none⟩) (by simp)).trans (by simp)
    go_wp2_with fail
    obtain ⟨_, g1, g2⟩ := set_two hr2
    refine bodyPost_ret (v := .agg #[.bool (!neg && decide (0 < zs.length)), .slice a2 zs.length c2]) (by simp [results, Try.results42, go_sem, g1, g2]) rfl ?_
    have hO := out_two (w := w2) (r := w.heap.size + 1) (.bool (!neg && decide (0 < zs.length))) (.slice a2 zs.length c2)
    have hle : w.heap.size + 1 + 1 ≤ w1.heap.size := by rw [← E1.out]; exact hb.size
    have ho3 := (ho.out hO (.inr hle)).wide (lo' := w.heap.size) (by omega) (Nat.le_refl _)
    exact ⟨a2, c2, rfl, ho3.wide (Nat.le_refl _) hO.size, below_out (bl_step hb2 hg2) hO (by omega)⟩
end Go.Proofs.Ytmgdfefffgjddaa
