/-
  PROVED: contracts of the sums of limbs that the parts of a turn come to.
  CONDITIONS: none.
-/
import Derived.Test.YtimjfcipkmcgmaaLimb
import Derived.Test.YtimjfcipkmcgmaaOwn
import Derived.Test.YtimjfcipkmcgmaaPow
import Derived.Maps.AppendAt
import Derived.Laws.OwnMore
import Derived.Deep.AppendLies
import Derived.Deep.RegionHeld3
namespace Go.Proofs.Ytimjfcipkmcgmaa
open Go.ChangeShapes Go.WideShapes Go.ChangeAt Go.RowKit
set_option linter.unusedVariables false
/-- a slice with the limbs of m, in memory that can be read -/
def LimbAt (w : World) (v : Value) (m : Nat) : Prop := ∃ g c, v = .slice (some ⟨g, 0, none⟩) (nl m) c ∧ nl m ≤ c ∧ RowAt .i64 w (some ⟨g, 0, none⟩) (limbs m)
theorem LimbAt.below {w w' : World} {v : Value} {m : Nat} (h : LimbAt w v m) (hb : Below w.heap.size w w') : LimbAt w' v m := by
  obtain ⟨g, c, hv, hc, hr⟩ := h
  exact ⟨g, c, hv, hc, hr.below hb⟩
def LimbRet (m : Nat) (w : World) : Ending → World → Prop := fun e w' => ∃ v, e = .returned v ∧ LimbAt w' v m ∧ Below w.heap.size w w'
theorem cells_of_row {w : World} {b n : Nat} {zs : List Int} (hz : zs.length = n) (ha : RowAt .i64 w (some ⟨b, 0, none⟩) zs) : ∀ k, k < n → w.cell? ⟨b, k, none⟩ = some (.int .i64 (zs.getD k 0)) := by
  intro k hk
  rcases ha with h | ⟨b', off', hab, hlt, hc⟩
  · rw [h] at hz; simp at hz; omega
  · simp only [Option.some.injEq, Addr.mk.injEq, and_true] at hab
    obtain ⟨rfl, rfl⟩ := hab
    have := hc k (by omega)
    rwa [Nat.zero_add] at this
theorem news_row {w : World} {b n : Nat} {zs ys : List Int} (ha : RowAt .i64 w (some ⟨b, 0, none⟩) zs) (ht : zs.take n = ys) (hy : ys.length = n) : ∀ j u, (ys.map (Value.int .i64))[j]? = some u → w.cell? ((⟨b, 0, none⟩ : Addr).add j) = some u := by
  intro j u hj
  have hjn : j < ys.length := by
    have := (List.getElem?_eq_some_iff.1 hj).1
    simpa using this
  have hjz : j < zs.length := by
    have := congrArg List.length ht
    rw [List.length_take] at this
    omega
  rw [Addr.add_lit]
  rcases ha with h | ⟨b', off', hab, hlt, hc⟩
  · rw [h] at hjz; exact absurd hjz (by simp)
  · simp only [Option.some.injEq, Addr.mk.injEq, and_true] at hab
    obtain ⟨rfl, rfl⟩ := hab
    rw [hc j hjz]
    have e : (ys.map (Value.int .i64))[j]? = some (Value.int .i64 (zs.getD j 0)) := by
      rw [← ht, List.getElem?_map, List.getElem?_take, if_pos (by omega), List.getElem?_eq_getElem hjz]
      simp [List.getD, List.getElem?_eq_getElem hjz]
    rw [e] at hj
    exact hj
theorem ones_row (zs : List Int) : ∀ u ∈ zs.map (Value.int .i64), u.oneCell' = true := by
  intro u hu; obtain ⟨x, _, rfl⟩ := List.mem_map.1 hu; rfl
theorem limb_of_own {w : World} {lo m : Nat} {E : TypeId} {v : Value} (h : w.ownsRow lo E 1 v (nl m) ((limbs m).map (Value.int .i64))) (hp : 0 < nl m) : LimbAt w v m := by
  obtain ⟨a, c, hv, ho⟩ := own_of_row h (limbs_len m) (Nat.le_refl _)
  rcases h.2 with ⟨_, h0⟩ | ⟨g, cap, cur, hv2, _, _, hn, _⟩
  · omega
  · rw [hv2] at hv
    injection hv with e1 e2 e3
    subst e1 e3
    exact ⟨g, cap, hv2, hn, ho.row⟩
theorem own_from {w : World} {b : Nat} {e : TypeId} {v : Value} {n : Nat} {xs : List Value} (h : w.ownsRow b e 1 v n xs) : ∀ k, v.ownBlock = some k → b ≤ k := by
  intro k hk
  rcases h.2 with ⟨rfl, _⟩ | ⟨g, cap, cur, rfl, hg, _⟩
  · simp [Value.ownBlock] at hk
  · simp [Value.ownBlock] at hk
    omega
theorem own_caps {w : World} {b g c : Nat} {e : TypeId} {n : Nat} {xs : List Value} (h : w.ownsRow b e 1 (.slice (some ⟨g, 0, none⟩) n c) n xs) : n ≤ c ∧ c ≤ 9223372036854775807 := by
  rcases h.2 with ⟨h', _⟩ | ⟨g', cap, cur, h', _, _, h1, h2, _⟩
  · cases h'
  · injection h' with _ _ e3
    subst e3
    unfold maxLen at h2
    omega
theorem row_lt {w : World} {b n : Nat} {zs : List Int} (hz : zs.length = n) (ha : RowAt .i64 w (some ⟨b, 0, none⟩) zs) (hn : 0 < n) : b < w.heap.size := by
  rcases ha with h | ⟨b', off', hab, hlt, _⟩
  · rw [h] at hz; simp at hz; omega
  · simp only [Option.some.injEq, Addr.mk.injEq, and_true] at hab
    obtain ⟨rfl, _⟩ := hab
    exact hlt
theorem digs_zero (n x K : Nat) : digs n (x % 16777216 ^ 0 * K) = List.replicate n 0 := by
  rw [Nat.pow_zero, Nat.mod_one, Nat.zero_mul]
  unfold digs
  apply List.ext_getElem
  · simp
  · intro j h1 h2
    simp [dg24]
theorem bl_dn {B : Nat} {a w : World} (h : Below B a w) (n : Nat) : Below B a (w.drewN n) := ⟨h.os, h.tape, h.output, h.size, h.block⟩
theorem infoI : (Try.prog.info? 3).map (fun i => (i.zero, i.size, i.bytes)) = some (some (.int .i64 0), 1, 8) := by kernel_rfl
theorem step_append_ownM {P : Program} {ops : Array Oper} {o : Oper} {act : Act} {w : World} {K : Act → World → Prop} {Q : Exit → Act → World → Prop} {X : Prop} (hgd : o.guard = none) (s x : Operand) (t : TypeId)
    (ho : o.op = .call { callee := .builtin .append, args := #[s, x], argTypes := #[t, t] })
    (base : Nat) (e : TypeId) (i : TypeInfo) (z : Value) (size bytes : Nat) (ht : P.underlying t = some (.slice e)) (hi : P.info? e = some i) (hz : i.zero = some z)
    (hsize : i.size = size) (hby : i.bytes = bytes) (hzs : z.cells.size = size) (hsz : 0 < size)
    (v : Value) (n : Nat) (xs : List Value) (hs : act.eval s = v) (hown : w.ownsRow base e size v n xs)
    (ad : Addr) (m c : Nat) (news : List Value) (hx : act.eval x = .slice (some ad) m c) (hl : news.length = m * size) (hnews : ∀ j u, news[j]? = some u → w.cell? (ad.add j) = some u) (h1 : ∀ u ∈ news, u.oneCell' = true)
    (h63 : n + m ≤ maxLen) (hbytes : (n + m) * bytes ≤ 140737488355328) (hbase : base ≤ w.heap.size)
    (h : ∀ v' w', w'.ownsRow base e size v' (n + m) (xs ++ news) → w.grownBy w' v.ownBlock → K (act.put o.dst v') w') :
    if Region.wanted o (yielded ops act.tmps) = true then Oper.wp P o act w K Q else X := by
  rw [if_pos (by simp [Region.wanted, hgd])]
  exact wp_append_own w s x t ho base e i z size bytes ht hi hz hsize hby hzs hsz v n xs hs hown ad m c news hx hl hnews h1 h63 hbytes hbase fun v' w' h2 h3 _ => h v' w' h2 h3
set_option maxHeartbeats 400000 in
theorem l2Limb_any (v : Value) (m i : Nat) (w : World) (hv : LimbAt w v m) (hi : i ≤ 1000) (hm : nl m ≤ 1000) :
    Calls Try.prog 68 #[v, .int .i64 i] w fun e w' => e = .returned (.int .i64 (dg24 m i)) ∧ w = w' := by
  obtain ⟨g, c, rfl, hc, hr⟩ := hv
  have hcell := cells_of_row (limbs_len m) hr
  have HC := Lib.hid hcell; clear hcell hr
  by_cases hlt : i < nl m
  · have h1 := HC.out i hlt
    rw [show (limbs m).getD i 0 = (dg24 m i : Int) from digs_get m hlt] at h1
    go_enter Try.func68, Try.ntmps68
    go_wp2
    go_ret
    exact ⟨rfl, rfl⟩
  · have h0 : dg24 m i = 0 := dg24_past (by omega)
    rw [h0]; clear h0
    go_enter Try.func68, Try.ntmps68
    go_wp2
    go_ret
    exact ⟨rfl, rfl⟩
set_option maxHeartbeats 1000000 in
theorem l2Trim_any (b L c m : Nat) (w : World) (hL : nl m ≤ L) (hL2 : L ≤ 1000) (hc : L ≤ c) (hc2 : c ≤ 9223372036854775807) (ha : RowAt .i64 w (some ⟨b, 0, none⟩) (digs L m)) :
    Calls Try.prog 67 #[.slice (some ⟨b, 0, none⟩) L c] w (LimbRet m w) := by
  obtain ⟨i0, hi, hz0, hz1, hz2⟩ := info_parts infoI
  have HI := Lib.hid hi; clear hi
  have hcell := cells_of_row (digs_len L m) ha
  have HC := Lib.hid hcell; clear hcell
  have HA := Lib.hid ha; clear ha
  go_enter Try.func67, Try.ntmps67
  go_wp2
  go_loop [3] (fun n => ∃ j : Nat, nl m ≤ j ∧ j ≤ L ∧ n = .int .i64 j) (fun n => (intOf n).toNat)
  case atStart => exact ⟨L, hL, Nat.le_refl _, rfl⟩
  case round =>
    obtain ⟨j, hj1, hj2, rfl⟩ := hrel
    by_cases hlt : nl m < j
    · obtain ⟨j, rfl⟩ : ∃ j', j = j' + 1 := ⟨j - 1, by omega⟩
      have h1 := HC.out j (by omega)
      rw [digs_get m (by omega), dg24_past (by omega)] at h1
      go_wp2
      go_round
      case rel => exact ⟨j, by omega, by omega, by first | rfl | go_num⟩
      case measure => simp [intOf]; try omega
    · obtain rfl : nl m = j := by omega
      by_cases h0 : nl m = 0
      · go_wp2
        go_ret
        exact ⟨.slice (some ⟨w.heap.size, 0, none⟩) 0 0, rfl, ⟨w.heap.size, 0, by rw [h0], by omega, .inl (List.eq_nil_of_length_eq_zero (by rw [limbs_len]; exact h0))⟩, bl_alloc _ _⟩
      · have h1 := HC.out (nl m - 1) (by omega)
        rw [digs_get m (by omega)] at h1
        have h2 := top_ne (m := m) (pos_of_nl (by omega))
        have h3 : ((dg24 m (nl m - 1) : Int) == 0) = false := by rw [beq_eq_false_iff_ne]; omega
        have hp : 0 < nl m := by omega
        have hpi : (0 : Int) < (nl m : Int) := by omega
        clear h0 hlt
        have HN : Hid (∀ j u, ((limbs m).map (Value.int .i64))[j]? = some u → (w.alloc (.cells #[] 3)).cell? ((⟨b, 0, none⟩ : Addr).add j) = some u) := news_row (HA.out.below (bl_alloc w _)) (digs_take m hj2) (limbs_len m)
        have HL : Hid (((limbs m).map (Value.int .i64)).length = nl m * 1) := by show _ = _; rw [List.length_map, limbs_len]; omega
        go_wp2_with (at_builtin; refine wpList_append_own _ rfl _ _ 56 rfl w.heap.size 3 i0 (.int .i64 0) 1 8 Try.underlying56 HI.out hz0 hz1 hz2 rfl (by decide) _ _ _ rfl (World.ownsRow_made w #[] 0 (Nat.le_refl _) (Nat.zero_le _) rfl) ⟨b, 0, none⟩ (nl m) c ((limbs m).map (Value.int .i64)) rfl HL.out HN.out (ones_row _) (by unfold maxLen; omega) (by omega) (by simp) ?_)
        intro v' w1 hown hgrow hnil
        go_wp2
        go_ret
        exact ⟨_, rfl, limb_of_own (by simpa using hown) hp, ((Below.refl _ w).alloc (Nat.le_refl _) _).grown hgrow (by simp) (by intro k hk; simp [Value.ownBlock] at hk; omega)⟩
theorem zeros_own (w : World) (s : Nat) (hs : s ≤ 1000) (E : TypeId) : (w.alloc (.cells (madeCells #[.int .i64 0] s) E)).ownsRow w.heap.size E 1 (.slice (some ⟨w.heap.size, 0, none⟩) s s) s ((List.replicate s (0 : Int)).map (Value.int .i64)) := by
  refine ⟨by simp, .inr ⟨w.heap.size, s, madeCells #[.int .i64 0] s, rfl, Nat.le_refl _, heap_alloc_new w _, Nat.le_refl _, by unfold maxLen; omega, (size_madeCells _ _).trans (by omega), ?_⟩⟩
  rw [mkArr_zero .i64 [] s]
  simp [mkArr]
theorem up_val (x k : Nat) : x * 2 ^ k = x * 2 ^ (k % 24) * 16777216 ^ (k / 24) := by rw [pow24 k, Nat.mul_assoc]
theorem up_lt (x k : Nat) : nl (x * 2 ^ k) ≤ k / 24 + (nl x + 1) := by
  apply nl_le
  rw [up_val, Nat.add_comm, Nat.pow_add]
  refine Nat.mul_lt_mul_of_pos_right ?_ (pow_pos24 _)
  rw [Nat.pow_succ]
  refine Nat.lt_of_lt_of_le (Nat.mul_lt_mul_of_pos_right (lt_pow_nl x) (Nat.pow_pos (by decide))) (Nat.mul_le_mul_left _ ?_)
  have : 2 ^ (k % 24) ≤ 2 ^ 24 := Nat.pow_le_pow_right (by decide) (by omega)
  exact this
theorem prod_bd {d F : Nat} (hd : d < 16777216) (hF : F ≤ 8388608) : (0 : Int) ≤ (d : Int) * (F : Int) ∧ (d : Int) * (F : Int) ≤ 140737488355328 := by
  have h : d * F ≤ 16777216 * 8388608 := Nat.mul_le_mul (by omega) hF
  have e : ((d * F : Nat) : Int) = (d : Int) * (F : Int) := by simp
  omega
set_option maxHeartbeats 2000000 in
theorem l2Up_any (v : Value) (x k : Nat) (w : World) (hv : LimbAt w v x) (hk : k ≤ 600) (hx : nl x ≤ 100) :
    Calls Try.prog 65 #[v, .int .i64 k] w (LimbRet (x * 2 ^ k) w) := by
  obtain ⟨i0, hi, hz0, hz1, hz2⟩ := info_parts infoI
  have HI := Lib.hid hi; clear hi
  have HV := Lib.hid hv
  obtain ⟨ga, ca, rfl, hca, _⟩ := hv
  have hmk : ∀ W : World, (Instr.makeSlice 56 (.int .i64 ((k : Int) / 24)) (.int .i64 ((k : Int) / 24))).run Try.prog W = .ok (.slice (some ⟨W.heap.size, 0, none⟩) (k / 24) (k / 24)) (W.alloc (.cells (madeCells #[.int .i64 0] (k / 24)) 3)) := by
    intro W
    have := run_make_row' (P := Try.prog) 56 3 (.int .i64 0) 8 Try.underlying56 infoI rfl .i64 .i64 (k / 24) (by omega) (by omega) W
    simpa using this
  have hp2 : pw ((k : Int) % 24) = ((2 ^ (k % 24) : Nat) : Int) := by unfold pw; rw [show ((k : Int) % 24).toNat = k % 24 by omega]; simp
  have hF0 : 0 < 2 ^ (k % 24) := Nat.pow_pos (by decide)
  have hF1 : 2 ^ (k % 24) ≤ 8388608 := by
    have : 2 ^ (k % 24) ≤ 2 ^ 23 := Nat.pow_le_pow_right (by decide) (by omega)
    exact this
  have HU := Lib.hid (up_val x k)
  have HUL := Lib.hid (up_lt x k)
  have HP := Lib.hid hp2; clear hp2
  generalize 2 ^ (k % 24) = F at *
  go_enter Try.func65, Try.ntmps65
  go_wp2_with fail
  refine (l2Pow_any _ _ (by omega)).mono ?_
  rintro e w1 ⟨rfl, rfl⟩
  rw [HP.out]
  go_wp2_with fail
  have hz0' : (0 : Int) = ((carry x F 0 : Nat) : Int) := by rw [carry_z]; rfl
  have HZ0 := Lib.hid hz0'; clear hz0'
  go_loopw [5, 7, 8] (fun o cy iv wr => ∃ (i g c : Nat), i ≤ nl x + 1 ∧ iv = .int .i64 i ∧ cy = .int .i64 ((carry x F i : Nat) : Int) ∧ o = .slice (some ⟨g, 0, none⟩) (k / 24 + i) c ∧ wr.ownsRow w.heap.size 3 1 o (k / 24 + i) ((List.replicate (k / 24) (0 : Int) ++ digs i (x * F)).map (Value.int .i64)) ∧ Below w.heap.size w wr) (fun _ _ iv _ => nl x + 1 - (intOf iv).toNat)
  case atStart => exact ⟨0, w.heap.size, k / 24, by omega, rfl, by rw [← HZ0.out], by rw [Nat.add_zero], by have h := zeros_own w (k / 24) (by omega) 3; simpa [digs] using h, bl_alloc _ _⟩
  case round =>
    obtain ⟨i, g, c, hi1, rfl, rfl, rfl, hown, hB⟩ := hrel
    have HOWN := Lib.hid hown; clear hown
    by_cases hlt : i ≤ nl x
    · have hd := dg24_lt x i
      have hcl := carry_lt (x := x) (f := F) (i := i) hF0
      obtain ⟨hpb1, hpb2⟩ := prod_bd hd hF1
      have HST : Hid (((dg24 x i : Int) * (F : Int) + (carry x F i : Int)) % 16777216 = ((dg24 (x * F) i : Nat) : Int)) := by
        show _ = _
        rw [← step_digit]; simp
      have HSC : Hid (((dg24 x i : Int) * (F : Int) + (carry x F i : Int)) / 16777216 = ((carry x F (i + 1) : Nat) : Int)) := by
        show _ = _
        rw [← step_carry]; simp
      go_wp2_with fail
      refine (l2Limb_any _ x i _ (HV.out.below hB) (by omega) (by omega)).mono ?_
      rintro e w2 ⟨rfl, rfl⟩
      go_wp2_with (at_builtin; refine wpList_append_own _ rfl _ _ 56 rfl w.heap.size 3 i0 (.int .i64 0) 1 8 Try.underlying56 HI.out hz0 hz1 hz2 rfl (by decide) _ _ _ rfl (HOWN.out.alloc _) ⟨wr.heap.size, 0, none⟩ 1 1 [.int .i64 (((dg24 x i : Int) * (F : Int) + (carry x F i : Int)) % 16777216)] rfl rfl (cell_one_new _ _ _) (ones_row [_]) (by unfold maxLen; omega) (by omega) (bl_al hB _).size ?_)
      intro v' w3 hown' hgrow hnil
      have hB' := (bl_al hB _).grown hgrow (bl_al hB _).size (own_from HOWN.out)
      obtain ⟨g', c', rfl, _, _⟩ := hown'.form (by omega)
      have HO2 : Hid (w3.ownsRow w.heap.size 3 1 (.slice (some ⟨g', 0, none⟩) (k / 24 + (i + 1)) c') (k / 24 + (i + 1)) ((List.replicate (k / 24) (0 : Int) ++ digs (i + 1) (x * F)).map (Value.int .i64))) := by
        rw [HST.out] at hown'
        rw [digs_snoc]
        show World.ownsRow _ _ _ _ _ _ _
        simpa [Nat.add_assoc] using hown'
      clear hown' hgrow
      go_wp2
      go_roundw
      case rel => exact ⟨i + 1, g', c', by omega, by go_num, by rw [HSC.out], by rw [Nat.add_assoc], HO2.out, hB'⟩
      case measure => simp [intOf]; omega
    · obtain rfl : i = nl x + 1 := by omega
      obtain ⟨hc1, hc2⟩ := own_caps HOWN.out
      obtain ⟨a9, c9, h9, ho9⟩ := own_of_row (hi := wr.heap.size) HOWN.out (by simp [digs_len]) (Nat.le_refl _)
      have HR : Hid (RowAt .i64 wr (some ⟨g, 0, none⟩) (digs (k / 24 + (nl x + 1)) (x * 2 ^ k))) := by
        rw [HU.out, digs_up]
        injection h9 with e1
        subst e1
        exact ho9.row
      clear h9 ho9
      go_wp2_with fail
      refine (l2Trim_any g _ c (x * 2 ^ k) wr HUL.out (by omega) hc1 hc2 HR.out).mono ?_
      rintro e w2 ⟨v2, rfl, hl, hb⟩
      go_wp2_with fail
      go_ret
      exact ⟨v2, rfl, hl, bl_step hB hb⟩
theorem down_val (x k : Nat) : x / 2 ^ k = x / 16777216 ^ (k / 24) / 2 ^ (k % 24) := by rw [pow24 k, Nat.div_div_eq_div_mul, Nat.mul_comm]
theorem down_lt (x k : Nat) : nl (x / 2 ^ k) ≤ nl x - k / 24 := by
  apply nl_le
  refine Nat.lt_of_le_of_lt (m := x / 16777216 ^ (k / 24)) (by rw [down_val]; exact Nat.div_le_self _ _) ?_
  rw [Nat.div_lt_iff_lt_mul (pow_pos24 _), ← Nat.pow_add]
  exact Nat.lt_of_lt_of_le (lt_pow_nl x) (Nat.pow_le_pow_right (by decide) (by omega))
theorem down_dig (x k j : Nat) : dg24 x (k / 24 + j) / 2 ^ (k % 24) + dg24 x (k / 24 + (j + 1)) % 2 ^ (k % 24) * 2 ^ (24 - k % 24) = dg24 (x / 2 ^ k) j := by
  rw [down_val x k, ← dg24_down (pow24_comp (r := k % 24) (by omega)), dg24_skip, dg24_skip]
set_option maxHeartbeats 2000000 in
theorem l2Down_any (v : Value) (x k : Nat) (w : World) (hv : LimbAt w v x) (hk : k ≤ 600) (hx : nl x ≤ 100) :
    Calls Try.prog 63 #[v, .int .i64 k] w (LimbRet (x / 2 ^ k) w) := by
  obtain ⟨i0, hi, hz0, hz1, hz2⟩ := info_parts infoI
  have HI := Lib.hid hi; clear hi
  have HV := Lib.hid hv
  obtain ⟨ga, ca, rfl, hca, hra⟩ := hv
  have HRA := Lib.hid hra; clear hra
  have HP := Lib.hid (show pw ((k : Int) % 24) = ((2 ^ (k % 24) : Nat) : Int) by unfold pw; rw [show ((k : Int) % 24).toNat = k % 24 by omega]; simp)
  have HUL := Lib.hid (down_lt x k)
  go_enter Try.func63, Try.ntmps63
  go_wp2_with fail
  refine (l2Pow_any _ _ (by omega)).mono ?_
  rintro e w1 ⟨rfl, rfl⟩
  rw [HP.out]
  have HD := Lib.hid (down_dig x k)
  have HKS := Lib.hid (show (k : Int) / 24 = ((k / 24 : Nat) : Int) by omega)
  have hFG := pow24_comp (r := k % 24) (by omega)
  have hF0 : 0 < 2 ^ (k % 24) := Nat.pow_pos (by decide)
  have hG0 : 0 < 2 ^ (24 - k % 24) := Nat.pow_pos (by decide)
  have HFG := Lib.hid hFG; clear hFG
  generalize 2 ^ (k % 24) = F at *
  generalize 2 ^ (24 - k % 24) = G at *
  rw [HKS.out]
  have hs25 : k / 24 ≤ 25 := by omega
  clear HKS
  generalize k / 24 = s at *
  go_wp2_with fail
  go_loopw [7, 8] (fun o iv wr => ∃ (I j g c : Nat), Hid (I = s + j) ∧ j ≤ nl x - s ∧ iv = .int .i64 (I : Int) ∧ o = .slice (some ⟨g, 0, none⟩) j c ∧ wr.ownsRow w.heap.size 3 1 o j ((digs j (x / 2 ^ k)).map (Value.int .i64)) ∧ Below w.heap.size w wr) (fun _ iv _ => nl x - (intOf iv).toNat)
  case atStart => exact ⟨s, 0, w.heap.size, 0, Lib.hid rfl, by omega, rfl, rfl, by have h := World.ownsRow_made (e := 3) (size := 1) w #[] 0 (Nat.le_refl _) (Nat.zero_le _) rfl; simpa [digs] using h, bl_alloc _ _⟩
  case round =>
    obtain ⟨I, j, g, c, HI2, hj, rfl, rfl, hown, hB⟩ := hrel
    have HOWN := Lib.hid hown; clear hown
    by_cases hlt : I < nl x
    · have hcw : w.cell? ⟨ga, I, none⟩ = some (.int .i64 ((dg24 x I : Nat) : Int)) := by
        have h := cells_of_row (limbs_len x) HRA.out I hlt
        rwa [show (limbs x).getD I 0 = (dg24 x I : Int) from digs_get x hlt] at h
      have hga : ga < w.heap.size := row_lt (limbs_len x) HRA.out (by omega)
      have hcl : wr.cell? ⟨ga, I, none⟩ = some (.int .i64 ((dg24 x I : Nat) : Int)) := by
        have h := cells_of_row (limbs_len x) (HRA.out.below hB) I hlt
        rwa [show (limbs x).getD I 0 = (dg24 x I : Int) from digs_get x hlt] at h
      have hx0 : (0 : Int) ≤ (I : Int) := by omega
      have hx1 : (I : Int) < (nl x : Int) := by omega
      have hw1 : IntKind.i64.wrap ((I : Int) + 1) = ((I + 1 : Nat) : Int) := by rw [IntWalk.i64_in _ (by omega)]; omega
      have hF1 : (1 : Int) ≤ (F : Int) := by omega
      have hF2 : ((F : Int) == 0) = false := by rw [beq_eq_false_iff_ne]; omega
      have hF3 : F ≠ 0 := by omega
      have hqd : Int.tdiv 16777216 (F : Int) = (G : Int) := by
        have e := HFG.out
        rw [show (16777216 : Int) = ((16777216 : Nat) : Int) from rfl, ← Int.ofNat_tdiv, ← e, Nat.mul_div_cancel_left _ hF0]
      have HT : Hid ((IntKind.i64.wrap (IntKind.i64.wrap ((dg24 x I : Int) / (F : Int)) + IntKind.i64.wrap (((dg24 x (I + 1) : Nat) : Int).tmod (F : Int) * IntKind.i64.wrap (G : Int)))) = ((dg24 (x / 2 ^ k) j : Nat) : Int)) := by
        show _ = _
        have hd0 := dg24_lt x I
        have hd1 := dg24_lt x (I + 1)
        have hFG' := HFG.out
        have hG1 : G ≤ 16777216 := by rw [← hFG']; exact Nat.le_mul_of_pos_left _ hF0
        have hm1 : dg24 x (I + 1) % F * G ≤ 16777216 := by rw [← hFG']; exact Nat.mul_le_mul_right _ (Nat.le_of_lt (Nat.mod_lt _ hF0))
        have hq1 : dg24 x I / F ≤ 16777216 := Nat.le_trans (Nat.div_le_self _ _) (by omega)
        have hdig := HD.out j
        rw [show s + j = I from HI2.out.symm, show s + (j + 1) = I + 1 by rw [HI2.out]; omega] at hdig
        rw [← hdig, IntWalk.i64_in (G : Int) ⟨by omega, by omega⟩, ← Int.ofNat_tmod, ← Int.natCast_mul, ← Int.natCast_ediv, IntWalk.i64_in ((dg24 x I / F : Nat) : Int) ⟨by omega, by omega⟩, IntWalk.i64_in ((dg24 x (I + 1) % F * G : Nat) : Int) ⟨by omega, by omega⟩, IntWalk.i64_in _ ⟨by omega, by omega⟩]
        simp
      go_wp2_with fail
      go_region_held3 (fun w' => w'.cell? ⟨ga, I, none⟩ = some (.int .i64 ((dg24 x I : Nat) : Int))) (first | with_reducible exact hc3 | go_keep)
        (first
          | (go_at_call 68; refine (l2Limb_any _ x (I + 1) _ (HV.out.below (bl_dr hB)) (by omega) (by omega)).mono ?_; rintro e w2 ⟨rfl, rfl⟩)
          | (refine step_append_ownM rfl _ _ 56 rfl w.heap.size 3 i0 (.int .i64 0) 1 8 Try.underlying56 HI.out hz0 hz1 hz2 rfl (by decide) _ _ _ rfl (HOWN.out.alloc (.cells #[.int .i64 (IntKind.i64.wrap (IntKind.i64.wrap ((dg24 x I : Int) / (F : Int)) + IntKind.i64.wrap (((dg24 x (I + 1) : Nat) : Int).tmod (F : Int) * IntKind.i64.wrap (G : Int))))] 3)).drew ⟨wr.heap.size, 0, none⟩ 1 1 [.int .i64 (IntKind.i64.wrap (IntKind.i64.wrap ((dg24 x I : Int) / (F : Int)) + IntKind.i64.wrap (((dg24 x (I + 1) : Nat) : Int).tmod (F : Int) * IntKind.i64.wrap (G : Int))))] rfl rfl (fun j u h => cell_one_new wr (.int .i64 (IntKind.i64.wrap (IntKind.i64.wrap ((dg24 x I : Int) / (F : Int)) + IntKind.i64.wrap (((dg24 x (I + 1) : Nat) : Int).tmod (F : Int) * IntKind.i64.wrap (G : Int))))) 3 j u h) (ones_row [(IntKind.i64.wrap (IntKind.i64.wrap ((dg24 x I : Int) / (F : Int)) + IntKind.i64.wrap (((dg24 x (I + 1) : Nat) : Int).tmod (F : Int) * IntKind.i64.wrap (G : Int))))]) (by unfold maxLen; omega) (by omega) (bl_dr (bl_al hB _)).size ?_; intro v3 w3 hown' hgrow; have hB' := (bl_dr (bl_al hB _)).grown hgrow (bl_dr (bl_al hB _)).size (own_from HOWN.out); have hc3 : w3.cell? ⟨ga, I, none⟩ = some (.int .i64 ((dg24 x I : Nat) : Int)) := (hB'.cell (p := ⟨ga, I, none⟩) hga).trans hcw))
      obtain ⟨g', c', rfl, _, _⟩ := hown'.form (by omega)
      have HO2 : Hid (w3.ownsRow w.heap.size 3 1 (.slice (some ⟨g', 0, none⟩) (j + 1) c') (j + 1) ((digs (j + 1) (x / 2 ^ k)).map (Value.int .i64))) := by
        rw [HT.out] at hown'
        rw [digs_snoc]
        show World.ownsRow _ _ _ _ _ _ _
        simpa using hown'
      clear hown' hgrow hc3
      go_wp2
      go_roundw
      case rel => exact ⟨I + 1, j + 1, g', c', Lib.hid (by rw [HI2.out]; omega), by have := HI2.out; omega, by go_num, rfl, HO2.out, hB'⟩
      case measure => simp [intOf]; omega
    · obtain rfl : j = nl x - s := by have := HI2.out; omega
      obtain ⟨hc1, hc2⟩ := own_caps HOWN.out
      obtain ⟨a9, c9, h9, ho9⟩ := own_of_row (hi := wr.heap.size) HOWN.out (by simp [digs_len]) (Nat.le_refl _)
      have HR : Hid (RowAt .i64 wr (some ⟨g, 0, none⟩) (digs (nl x - s) (x / 2 ^ k))) := by
        injection h9 with e1
        subst e1
        exact ho9.row
      clear h9 ho9
      go_wp2_with fail
      refine (l2Trim_any g _ c (x / 2 ^ k) wr HUL.out (by omega) hc1 hc2 HR.out).mono ?_
      rintro e w2 ⟨v2, rfl, hl, hb⟩
      go_wp2_with fail
      go_ret
      exact ⟨v2, rfl, hl, bl_step hB hb⟩
set_option maxHeartbeats 400000 in
theorem l1Max_any (a b : Int) (w : World) : Calls Try.prog 47 #[.int .i64 a, .int .i64 b] w fun e w' => e = .returned (.int .i64 (if a > b then a else b)) ∧ w = w' := by
  by_cases h : a > b
  · rw [if_pos h]
    go_enter Try.func47, Try.ntmps47
    go_wp2
    go_ret
    exact ⟨rfl, rfl⟩
  · rw [if_neg h]
    have h' : ¬ b < a := h
    go_enter Try.func47, Try.ntmps47
    go_wp2
    go_ret
    exact ⟨rfl, rfl⟩
def cmpN (x y : Nat) : Int := if x < y then -1 else if y < x then 1 else 0
theorem cmpN_lt {x y : Nat} (h : x < y) : cmpN x y = -1 := if_pos h
theorem cmpN_gt {x y : Nat} (h : y < x) : cmpN x y = 1 := by unfold cmpN; rw [if_neg (by omega), if_pos h]
theorem cmpN_eq (x : Nat) : cmpN x x = 0 := by unfold cmpN; rw [if_neg (by omega), if_neg (by omega)]
theorem top_div {x y : Nat} : x / 16777216 ^ (if nl x > nl y then nl x else nl y) = y / 16777216 ^ (if nl x > nl y then nl x else nl y) := by
  have h1 : 16777216 ^ nl x ≤ 16777216 ^ (if nl x > nl y then nl x else nl y) := Nat.pow_le_pow_right (by decide) (by split <;> omega)
  have h2 : 16777216 ^ nl y ≤ 16777216 ^ (if nl x > nl y then nl x else nl y) := Nat.pow_le_pow_right (by decide) (by split <;> omega)
  have h3 := lt_pow_nl x
  have h4 := lt_pow_nl y
  rw [Nat.div_eq_of_lt (by omega), Nat.div_eq_of_lt (by omega)]
set_option maxHeartbeats 1000000 in
theorem l2Cmp_any (u v : Value) (x y : Nat) (w : World) (hu : LimbAt w u x) (hv : LimbAt w v y) (hx : nl x ≤ 100) (hy : nl y ≤ 100) :
    Calls Try.prog 64 #[u, v] w fun e w' => e = .returned (.int .i64 (cmpN x y)) ∧ w = w' := by
  have HU := Lib.hid hu
  have HV := Lib.hid hv
  obtain ⟨ga, ca, rfl, hca, _⟩ := hu
  obtain ⟨gb, cb, rfl, hcb, _⟩ := hv
  have HM := Lib.hid (show (if (nl x : Int) > (nl y : Int) then (nl x : Int) else (nl y : Int)) = (((if nl x > nl y then nl x else nl y) : Nat) : Int) by split <;> split <;> omega)
  have HT := Lib.hid (top_div (x := x) (y := y))
  have hml : (if nl x > nl y then nl x else nl y) ≤ 100 := by split <;> omega
  generalize (if nl x > nl y then nl x else nl y) = M at *
  go_enter Try.func64, Try.ntmps64
  go_wp2_with fail
  refine (l1Max_any _ _ _).mono ?_
  rintro e w1 ⟨rfl, rfl⟩
  rw [HM.out]
  go_wp2_with fail
  go_loop [5] (fun iv => ∃ (j : Nat), j ≤ M ∧ iv = .int .i64 ((j : Int) - 1) ∧ Hid (x / 16777216 ^ j = y / 16777216 ^ j)) (fun iv => (intOf iv + 1).toNat)
  case atStart => exact ⟨M, Nat.le_refl _, rfl, HT⟩
  case round =>
    obtain ⟨j, hj, rfl, HJ⟩ := hrel
    by_cases hlt : 1 ≤ j
    · obtain ⟨i, rfl⟩ : ∃ i, j = i + 1 := ⟨j - 1, by omega⟩
      have HE := Lib.hid (show (((i + 1 : Nat) : Int) - 1) = (i : Int) by omega)
      rw [HE.out]
      have hd := dg24_lt x i
      have hd2 := dg24_lt y i
      rcases Nat.lt_trichotomy (dg24 x i) (dg24 y i) with h | h | h
      · have HR := Lib.hid (cmpN_lt (lt_step HJ.out h))
        go_wp2_with fail
        refine (l2Limb_any _ x i _ HU.out (by omega) (by omega)).mono ?_
        rintro e w2 ⟨rfl, rfl⟩
        go_wp2_with fail
        refine (l2Limb_any _ y i _ HV.out (by omega) (by omega)).mono ?_
        rintro e w2 ⟨rfl, rfl⟩
        go_wp2_with fail
        go_ret
        exact ⟨ret_int HR.out.symm, rfl⟩
      · have HS := Lib.hid (div_step HJ.out h)
        have hn1 : ¬ dg24 x i < dg24 y i := by omega
        have hn2 : ¬ dg24 y i < dg24 x i := by omega
        clear h
        go_wp2_with fail
        refine (l2Limb_any _ x i _ HU.out (by omega) (by omega)).mono ?_
        rintro e w2 ⟨rfl, rfl⟩
        go_wp2_with fail
        refine (l2Limb_any _ y i _ HV.out (by omega) (by omega)).mono ?_
        rintro e w2 ⟨rfl, rfl⟩
        go_wp2_with fail
        go_round
        case rel => exact ⟨i, by omega, rfl, HS⟩
        case measure => simp [intOf]; try omega
      · have HR := Lib.hid (cmpN_gt (lt_step HJ.out.symm h))
        have hn1 : ¬ dg24 x i < dg24 y i := by omega
        go_wp2_with fail
        refine (l2Limb_any _ x i _ HU.out (by omega) (by omega)).mono ?_
        rintro e w2 ⟨rfl, rfl⟩
        go_wp2_with fail
        refine (l2Limb_any _ y i _ HV.out (by omega) (by omega)).mono ?_
        rintro e w2 ⟨rfl, rfl⟩
        go_wp2_with fail
        go_ret
        exact ⟨ret_int HR.out.symm, rfl⟩
    · obtain rfl : j = 0 := by omega
      have HR : Hid (x = y) := by have := HJ.out; show x = y; simpa using this
      go_wp2_with fail
      go_ret
      exact ⟨ret_int (by rw [HR.out, cmpN_eq]), rfl⟩
set_option maxHeartbeats 2000000 in
theorem l2Times_any (u v : Value) (x K : Nat) (w : World) (hu : LimbAt w u x) (hv : LimbAt w v K) (hx : nl x ≤ 20) (hK : 0 < K) (hK2 : K ≤ 16) :
    Calls Try.prog 62 #[u, v] w (LimbRet (x * K) w) := by
  have hKB : K < 16777216 := by omega
  obtain ⟨ga, ca, rfl, hca, hra⟩ := hu
  obtain ⟨gb, cb, rfl, hcb, hrb⟩ := hv
  rw [nl_one hK hKB] at *
  have HRA := Lib.hid hra; clear hra
  have HRB := Lib.hid hrb; clear hrb
  have hmk : ∀ W : World, (Instr.makeSlice 56 (.int .i64 ((nl x : Int) + 1 + 1)) (.int .i64 ((nl x : Int) + 1 + 1))).run Try.prog W = .ok (.slice (some ⟨W.heap.size, 0, none⟩) (nl x + 2) (nl x + 2)) (W.alloc (.cells (madeCells #[.int .i64 0] (nl x + 2)) 3)) := by
    intro W
    have := run_make_row' (P := Try.prog) 56 3 (.int .i64 0) 8 Try.underlying56 infoI rfl .i64 .i64 (nl x + 2) (by omega) (by omega) W
    rw [show (nl x : Int) + 1 + 1 = ((nl x + 2 : Nat) : Int) by omega]
    exact this
  go_enter Try.func62, Try.ntmps62
  go_wp2_with fail
  go_loopw [6] (fun iv wr => ∃ i : Nat, i ≤ nl x ∧ iv = .int .i64 (i : Int) ∧ wr.ownsRow w.heap.size 3 1 (.slice (some ⟨w.heap.size, 0, none⟩) (nl x + 2) (nl x + 2)) (nl x + 2) ((digs (nl x + 2) (x % 16777216 ^ i * K)).map (Value.int .i64)) ∧ Below w.heap.size w wr) (fun iv _ => nl x - (intOf iv).toNat)
  case atStart => exact ⟨0, by omega, rfl, by have h := zeros_own w (nl x + 2) (by omega) 3; rwa [digs_zero], bl_alloc _ _⟩
  case round =>
    obtain ⟨i, hi, rfl, hown, hB⟩ := hrel
    have HOWN := Lib.hid hown; clear hown
    by_cases hlt : i < nl x
    · obtain ⟨wo, rfl⟩ : ∃ wo : World, wo = wr := ⟨_, rfl⟩
      have hd := dg24_lt x i
      have hcl := carry_lt (x := x) (f := K) (i := i) hK
      have hcl2 := carry_lt (x := x) (f := K) (i := i + 1) hK
      obtain ⟨hpb1, hpb2⟩ := prod_bd (F := K) hd (by omega)
      have hcA : wo.cell? ⟨ga, i, none⟩ = some (.int .i64 ((dg24 x i : Nat) : Int)) := by
        have h := cells_of_row (limbs_len x) (HRA.out.below hB) i hlt
        rwa [show (limbs x).getD i 0 = (dg24 x i : Int) from digs_get x hlt] at h
      have hcB : wo.cell? ⟨gb, 0, none⟩ = some (.int .i64 ((K : Nat) : Int)) := by
        have h := cells_of_row ((limbs_len K).trans (nl_one hK hKB)) (HRB.out.below hB) 0 (by omega)
        rwa [show (limbs K).getD 0 0 = (dg24 K 0 : Int) from digs_get K (by rw [nl_one hK hKB]; omega), dg_one hKB] at h
      have hcO : wo.cell? ⟨w.heap.size, i, none⟩ = some (.int .i64 ((carry x K i : Nat) : Int)) := by
        rw [HOWN.out.cellAt i (by omega), List.getElem?_map, ← part_at hK hKB]
        simp [digs, show i < nl x + 2 by omega]
      have hix0 : (0 : Int) ≤ (i : Int) := by omega
      have hix1 : (i : Int) < (nl x : Int) := by omega
      have hix2 : (i : Int) < (nl x : Int) + 2 := by omega
      have hw0 : IntKind.i64.wrap (i : Int) = (i : Int) := IntWalk.i64_in _ (by omega)
      have hw1 : IntKind.i64.wrap ((dg24 x i : Int) * (K : Int)) = (dg24 x i : Int) * (K : Int) := IntWalk.i64_in _ (by omega)
      have hw2 : IntKind.i64.wrap ((carry x K i : Int) + (dg24 x i : Int) * (K : Int)) = (carry x K i : Int) + (dg24 x i : Int) * (K : Int) := IntWalk.i64_in _ (by omega)
      have HST : Hid (((carry x K i : Int) + (dg24 x i : Int) * (K : Int)) % 16777216 = (((dg24 x i * K + carry x K i) % 16777216 : Nat) : Int)) := by
        show _ = _
        rw [Int.add_comm]; simp
      have HSC : Hid (((carry x K i : Int) + (dg24 x i : Int) * (K : Int)) / 16777216 = ((carry x K (i + 1) : Nat) : Int)) := by
        show _ = _
        rw [← step_carry, Int.add_comm]; simp
      go_wp2_with fail
      go_loopw [7, 8] (fun cy jv wi => (cy = .int .i64 0 ∧ jv = .int .i64 0 ∧ wi = wo) ∨ (cy = .int .i64 ((carry x K (i + 1) : Nat) : Int) ∧ jv = .int .i64 1 ∧ wi.ownsRow w.heap.size 3 1 (.slice (some ⟨w.heap.size, 0, none⟩) (nl x + 2) (nl x + 2)) (nl x + 2) (((digs (nl x + 2) (x % 16777216 ^ i * K)).set i (((dg24 x i * K + carry x K i) % 16777216 : Nat) : Int)).map (Value.int .i64)) ∧ Below w.heap.size w wi)) (fun _ jv _ => 1 - (intOf jv).toNat)
      case atStart => exact .inl ⟨rfl, rfl, rfl⟩
      case round =>
        rcases hrel with ⟨rfl, rfl, rfl⟩ | ⟨rfl, rfl, hown, hBi⟩
        · go_wp2_with fail
          go_quiet (fail)
          have hfz : wr.frozen? ⟨w.heap.size, i, none⟩ = false := HOWN.out.frozenAt i
          clear hw0 hw1 hw2
          have hs9 : (0 : Int) ≤ (carry x K i : Int) + (dg24 x i : Int) * (K : Int) := by omega
          go_wp2
          have HS := Lib.hid (HOWN.out.stored i (.int .i64 (((carry x K i : Int) + (dg24 x i : Int) * (K : Int)) % 16777216)))
          go_roundw
          case rel =>
            refine .inr ⟨by rw [HSC.out], rfl, ?_, ?_⟩
            · have h := HS.out.1
              rw [HST.out] at h
              rw [HST.out, List.map_set]
              exact h
            · exact bl_dn (hB.setCell (p := ⟨w.heap.size, i, none⟩) (Nat.le_refl _) _) _
          case measure => simp [intOf]
        · have hcN : wr.cell? ⟨w.heap.size, i + 1, none⟩ = some (.int .i64 0) := by
            rw [hown.cellAt (i + 1) (by omega), List.getElem?_map, List.getElem?_set_ne (by omega)]
            have := part_zero (x := x) (i := i) (j := i + 1) hK hKB (Nat.le_refl _)
            simp [digs, show i + 1 < nl x + 2 by omega, this]
          have hfz : wr.frozen? ⟨w.heap.size, i + 1, none⟩ = false := hown.frozenAt (i + 1)
          have HS := Lib.hid (hown.stored (i + 1) (.int .i64 ((carry x K (i + 1) : Nat) : Int)))
          have HTR := Lib.hid (times_row (x := x) (i := i) (n := nl x + 2) hK hKB (by omega))
          clear hown hcA hcB hcO hw0 hw1 hw2
          go_wp2
          go_roundw
          case rel =>
            refine ⟨i + 1, by omega, by go_num, ?_, hBi.setCell (p := ⟨w.heap.size, i + 1, none⟩) (Nat.le_refl _) _⟩
            have h := HS.out.1
            rw [← List.map_set, HTR.out] at h
            exact h
          case measure => simp [intOf]; omega
    · obtain rfl : i = nl x := by omega
      go_wp2_with fail
      refine (l2Trim_any w.heap.size (nl x + 2) (nl x + 2) (x * K) wr (by have := times_nl (x := x) hK hKB; omega) (by omega) (Nat.le_refl _) (by omega) (by
        obtain ⟨a9, c9, h9, ho9⟩ := own_of_row (hi := wr.heap.size) HOWN.out (digs_len _ _) (Nat.le_refl _)
        rw [times_last] at ho9
        injection h9 with e1
        subst e1
        exact ho9.row)).mono ?_
      rintro e w2 ⟨v2, rfl, hl, hb⟩
      go_wp2_with fail
      go_ret
      exact ⟨v2, rfl, hl, bl_step hB hb⟩
end Go.Proofs.Ytimjfcipkmcgmaa
