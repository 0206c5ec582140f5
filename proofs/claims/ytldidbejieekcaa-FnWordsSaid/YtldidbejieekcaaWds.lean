/-
  PROVED: contracts of the draws of a format and a raw number; the walk of the law of words.
  CONDITIONS: none.
-/
import Derived.Test.YtldidbejieekcaaL6r
import Derived.Test.YtldidbejieekcaaBits
namespace Go.Proofs.Ytldidbejieekcaa
open Go.ChangeShapes Go.WideShapes Go.ChangeAt Go.RowKit
set_option linter.unusedVariables false
theorem out3h {w : World} {r : Nat} (x y z : Value) : Out r (r + 1) w (((w.setCell ⟨r, 0, none⟩ x).setCell ⟨r, 1, none⟩ y).setCell ⟨r, 2, none⟩ z) :=
  (((Out.refl r (r + 1) w).setCell (Nat.le_refl _) (Nat.lt_succ_self _) 0 x).setCell (Nat.le_refl _) (Nat.lt_succ_self _) 1 y).setCell (Nat.le_refl _) (Nat.lt_succ_self _) 2 z
theorem box_heap {w : World} {b : Nat} {cs : Array Value} {t : TypeId} (h : w.heap[b]? = some (.cells cs t (0, 0))) : BoxAt w b cs := ⟨lt_of_heap h, fun i => cell_of_heap h i⟩
/-! ### the plain law -/
def valB : Int → List UInt8 → Int
  | a, [] => a
  | a, b :: r => valB (if b = 49 then 2 * a + 1 else if b = 48 then 2 * a else a) r
theorem valB_ge : ∀ (l : List UInt8) (a : Int), 0 ≤ a → a ≤ valB a l
  | [], a, _ => Int.le_refl _
  | b :: r, a, h => by
    unfold valB
    have h1 : a ≤ (if b = 49 then 2 * a + 1 else if b = 48 then 2 * a else a) := by
      split
      · omega
      · split <;> omega
    exact Int.le_trans h1 (valB_ge r _ (by omega))
theorem mod_two_pow (x : Int) (k : Nat) : x % 2 ^ (k + 1) = 2 ^ k * (x / 2 ^ k % 2) + x % 2 ^ k := by
  have hD : (0 : Int) < 2 ^ k := Int.pow_pos (by omega)
  have h1 := Int.emod_nonneg x (show (2 : Int) ^ k ≠ 0 by omega)
  have h2 := Int.emod_lt_of_pos x hD
  have h3 := Int.mul_ediv_add_emod x (2 ^ k)
  have h4 := Int.mul_ediv_add_emod (x / 2 ^ k) 2
  have e : (2 : Int) ^ (k + 1) = 2 ^ k * 2 := Int.pow_succ 2 k
  rw [e]
  generalize hDD : (2 : Int) ^ k = D at *
  generalize hr : x % D = r at *
  generalize hq : x / D = q at *
  generalize hq2 : q / 2 = q2 at *
  have hx : x = (D * (q % 2) + r) + (D * 2) * q2 := by
    have : D * q = D * (2 * q2 + q % 2) := by rw [h4]
    rw [Int.mul_add, ← Int.mul_assoc] at this
    omega
  have hb0 : 0 ≤ D * (q % 2) + r := by
    rcases Int.emod_two_eq q with h | h <;> rw [h] <;> omega
  have hb1 : D * (q % 2) + r < D * 2 := by
    rcases Int.emod_two_eq q with h | h <;> rw [h] <;> omega
  rw [hx, Int.add_mul_emod_self_left, Int.emod_eq_of_lt hb0 hb1]
theorem valB_bits (x l : Int) : ∀ (k : Nat) (a : Int), valB a (bitsL x l k) = a * 2 ^ k + x % 2 ^ k
  | 0, a => by simp [bitsL, valB, Int.emod_one]
  | k + 1, a => by
    have hdot : ∀ (b : Int) (r : List UInt8), valB b (dotL l k ++ r) = valB b r := by
      intro b r
      unfold dotL
      split
      · show valB b (46 :: r) = valB b r
        rw [valB]; rfl
      · rfl
    rw [bitsL, hdot, valB, mod_two_pow, Int.pow_succ]
    rcases bit_two x k with ⟨h1, h2⟩ | ⟨h1, h2⟩
    · rw [h2, if_neg (by decide), if_pos rfl, valB_bits x l k, h1, Int.mul_zero, Int.zero_add, show 2 * a * 2 ^ k = a * (2 ^ k * 2) by rw [Int.mul_comm 2 a, Int.mul_assoc, Int.mul_comm 2]]
    · rw [h2, if_pos rfl, valB_bits x l k, h1, Int.mul_one, Int.add_mul, Int.one_mul, show 2 * a * 2 ^ k = a * (2 ^ k * 2) by rw [Int.mul_comm 2 a, Int.mul_assoc, Int.mul_comm 2]]
      omega
theorem bits_len (x l : Int) (hl : 0 ≤ l) : ∀ k : Nat, ((bitsL x l k).length : Int) = k + (if 0 < l ∧ l ≤ k then 1 else 0)
  | 0 => by simp [bitsL]
  | k + 1 => by
    have ih := bits_len x l hl k
    rw [bitsL]
    unfold dotL
    by_cases h : (k : Int) = l - 1
    · rw [if_pos h, if_pos (by omega)]
      rw [if_neg (by omega)] at ih
      simp; omega
    · rw [if_neg h]
      simp only [List.nil_append, List.length_cons]
      by_cases h2 : 0 < l ∧ l ≤ (k : Int)
      · rw [if_pos h2] at ih
        rw [if_pos (by omega)]
        omega
      · rw [if_neg h2] at ih
        rw [if_neg (by omega)]
        omega
theorem word_back {s : Bool} {n l v : Int} (h : rawOkB s n l v = true) : rawOfOkB n l (wordB s n l v) = true ∧ rawOfB s n l (wordB s n l v) = v := by
  obtain ⟨hw0, hw1⟩ := wordB_bd h
  have h0 := h
  unfold rawOkB at h0
  simp only [Bool.and_eq_true] at h0
  obtain ⟨hf, hv⟩ := h0
  obtain ⟨⟨h2, h3⟩, h4, h5⟩ := (fmtOkB_iff n l).1 hf
  obtain ⟨h6, h7⟩ := (inR_iff _ _ _).1 hv
  have hok : rawOfOkB n l (wordB s n l v) = true := by
    unfold rawOfOkB
    rw [hf, (inR_iff _ _ _).2 ⟨hw0, by omega⟩]; rfl
  refine ⟨hok, ?_⟩
  unfold rawOfB
  rw [if_pos hok]
  have hpn : pw n = pw (n - 1) * 2 := by
    unfold pw
    rw [show n.toNat = (n - 1).toNat + 1 by omega, Int.pow_succ]
  have hpb := pw_bd (n - 1) (by omega)
  have hwe : wordB s n l v = if 0 ≤ v then v else v + pw n := by unfold wordB; rw [if_pos h]
  rw [hwe]
  unfold leastB at h6
  unfold mostB at h7 ⊢
  rw [if_pos hf] at h7 ⊢
  cases s
  · rw [if_neg (by simp)] at h6 h7
    have hc : (if 0 ≤ v then v else v + pw n) = v := if_pos h6
    rw [hc]
    simp only [Bool.false_eq_true, if_false]
    rw [if_neg (by omega)]
  · rw [if_pos ⟨hf, rfl⟩] at h6
    rw [if_pos rfl] at h7 ⊢
    by_cases hp : 0 ≤ v
    · have hc : (if 0 ≤ v then v else v + pw n) = v := if_pos hp
      rw [hc, if_neg (by omega)]
    · have hc : (if 0 ≤ v then v else v + pw n) = v + pw n := if_neg hp
      rw [hc, if_pos (by omega)]; omega
theorem raw_no (s : Bool) (n l : Int) : rawOfOkB n l (-1) = false := by
  unfold rawOfOkB
  rw [(inR_not _ _ _).2 (by omega)]
  simp
set_option maxHeartbeats 2000000 in
theorem drawRawOk_any (S : Src) (w : World) (ha : RowAt .u8 w S.a S.l) : Calls Try.prog 50 #[.slice S.a S.n S.c] w fun e w' => ∃ (s : Bool) (n l v : Int), e = .returned (.tuple #[.agg #[.bool s, .int .i64 n, .int .i64 l], .int .i64 v]) ∧ Below w.heap.size w w' := by
  have HC := Lib.hid (l1New_any S (w.alloc (.cells #[.bool false, .int .i64 0, .int .i64 0] 27)) (ha.below (bl_alloc _ _)))
  have HR0 := Lib.hid (heap_alloc_new w (.cells #[.bool false, .int .i64 0, .int .i64 0] 27))
  clear ha
  go_enter Try.func50, Try.ntmps50
  go_wp2_with fail
  refine HC.out.mono ?_
  rintro e w1 ⟨rfl, hc, hb⟩
  have e1 : (w.alloc (.cells #[.bool false, .int .i64 0, .int .i64 0] 27)).heap.size = w.heap.size + 1 := by simp
  have hR1 := (hb.block w.heap.size (by omega)).trans HR0.out
  have HR1 := Lib.hid hR1
  have HB := Lib.hid (bl_step (bl_alloc w _) hb)
  rw [e1] at hc
  have HCU := Lib.hid hc
  clear hc hb hR1 e1 HC
  go_wp2_with fail
  refine (l6Draw_any w1 (w.heap.size + 1) S _ _ HCU.out).mono ?_
  rintro e w2 ⟨s, n, l, rfl, ⟨i2, h2, hc2⟩, ho⟩
  have HR2 := Lib.hid ((ho.block w.heap.size (lt_of_heap HR1.out) (fun e => by injection e with e; omega)).trans HR1.out)
  have HB2 := Lib.hid (below_only HB.out ho (by omega))
  have I3 := ((Inv.start hc2).add #[.bool s, .int .i64 n, .int .i64 l]).drew
  have hlt2 := lt_of_heap HR2.out
  have HR3 := Lib.hid (((bl_alloc w2 (.cells #[.bool s, .int .i64 n, .int .i64 l] 27)).block w.heap.size hlt2).trans HR2.out)
  obtain ⟨i3, h3, hc3⟩ := I3.cur
  have HL := Lib.hid (l6Bent_any _ (w.heap.size + 1) S i3 h3 s n l hc3)
  have HF3 := Lib.hid (I3.box _ (.head _)).1
  obtain ⟨F, hF⟩ : ∃ F, F = w2.heap.size := ⟨_, rfl⟩
  have hne : w.heap.size < F := by rw [hF]; exact hlt2
  have k0 := I3.three (.head _)
  have hFg := (I3.box _ (.head _)).2
  rw [← hF] at HF3 k0 hFg
  have HRg : Hid (w.heap.size ≠ w.heap.size + 1) := by show _ ≠ _; omega
  clear ho I3 hc2 hc3 hlt2
  go_wp2_with fail
  rw [← hF]
  clear hF
  go_region_held3 (fun w' => w'.cell? ⟨F, 0, none⟩ = some (.bool s) ∧ w'.cell? ⟨F, 1, none⟩ = some (.int .i64 n) ∧ w'.cell? ⟨F, 2, none⟩ = some (.int .i64 l))
    (first | with_reducible exact kS _ _ _ | with_reducible exact k1 | with_reducible exact k0)
    (first
    | (go_at_call 58; refine HL.out.mono ?_; rintro e w5 ⟨v, rfl, _, ho5⟩; have hF5 := (ho5.block F (lt_of_heap HF3.out) (fun e => hFg (by injection e))).trans HF3.out; have hR5 := (ho5.block w.heap.size (lt_of_heap HR3.out) (fun e => HRg.out (by injection e))).trans HR3.out; have k1 := three_box (box_heap hF5); have rc5 := cell_of_heap hR5; have rf5 := free_of_heap hR5; have kS := fun x y z => three_box ((box_heap hF5).out (out3h (w := w5) (r := w.heap.size) x y z) (by omega))))
  obtain ⟨g0, g1, g2⟩ := set3h hR5 (.bool s) (.int .i64 n) (.int .i64 l)
  have HB5 := Lib.hid (below_only (bl_dr (bl_al HB2.out (.cells #[.bool s, .int .i64 n, .int .i64 l] 27))) ho5 (by omega))
  go_wp2_with fail
  try simp only [Exit.inBlock, Exit.then]
  refine bodyPost_ret (v := .tuple #[.agg #[.bool s, .int .i64 n, .int .i64 l], .int .i64 v]) (by simp [results, Try.results50, go_sem, g0, g1, g2]) rfl ?_
  exact ⟨_, _, _, _, rfl, below_out HB5.out (out3h (w := w5) (r := w.heap.size) _ _ _) (Nat.le_refl _)⟩
set_option maxHeartbeats 2000000 in
theorem drawWordOf_any (S : Src) (w : World) (ha : RowAt .u8 w S.a S.l) : Calls Try.prog 33 #[.slice S.a S.n S.c] w fun e w' => ∃ (s : Bool) (n l v : Int), e = .returned (.tuple #[.agg #[.bool s, .int .i64 n, .int .i64 l], .int .i64 v]) ∧ Below w.heap.size w w' := by
  have HC := Lib.hid (drawRawOk_any S (w.alloc (.cells #[.bool false, .int .i64 0, .int .i64 0] 27)) (ha.below (bl_alloc _ _)))
  have HR0 := Lib.hid (heap_alloc_new w (.cells #[.bool false, .int .i64 0, .int .i64 0] 27))
  clear ha
  go_enter Try.func33, Try.ntmps33
  go_wp2_with fail
  refine HC.out.mono ?_
  rintro e w1 ⟨s, n, l, v, rfl, hb⟩
  have hR1 := (hb.block w.heap.size (by simp)).trans HR0.out
  have rc := cell_of_heap hR1
  have rf := free_of_heap hR1
  have HB := Lib.hid (bl_step (bl_alloc w _) hb)
  obtain ⟨g0, g1, g2⟩ := set3h hR1 (.bool s) (.int .i64 n) (.int .i64 l)
  clear hb
  go_wp2_with fail
  try simp only [Exit.inBlock, Exit.then]
  refine bodyPost_ret (v := .tuple #[.agg #[.bool s, .int .i64 n, .int .i64 l], .int .i64 v]) (by simp [results, Try.results33, go_sem, g0, g1, g2]) rfl ?_
  exact ⟨_, _, _, _, rfl, below_out HB.out (out3h (w := w1) (r := w.heap.size) _ _ _) (Nat.le_refl _)⟩
end Go.Proofs.Ytldidbejieekcaa
