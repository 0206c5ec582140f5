/-
  PROVED: contracts of the draws of a function's arguments; the walk of the law of the functions.
  CONDITIONS: none.
-/
import Derived.Test.YtimjfcipkmcgmaaCur2
import Derived.Test.YtimjfcipkmcgmaaPlace
import Derived.Test.YtimjfcipkmcgmaaMul
namespace Go.Proofs.Ytimjfcipkmcgmaa
open Go.ChangeShapes Go.WideShapes Go.ChangeAt Go.RowKit
set_option linter.unusedVariables false
theorem results_tmp5 {fn : Func} {t0 t1 t2 t3 t4 : Tmp} (h : fn.results = #[.tmp t0, .tmp t1, .tmp t2, .tmp t3, .tmp t4]) (tmps : Array Value) (P : Program) (w : World) :
    (results fn tmps).run P w = .ok (.tuple #[tmps.getD t0 undef, tmps.getD t1 undef, tmps.getD t2 undef, tmps.getD t3 undef, tmps.getD t4 undef]) w := by
  simp [results, h]
theorem intOf_int (K : IntKind) (v : Int) : intOf (.int K v) = v := rfl
theorem pick_any (W : World) (g : Nat) (S : Src) (i : Nat) (h : Int) (A : Array Value) (m : Nat) (T : TypeId) (hw : CurAt W g S i h) (hA : ∀ x ∈ A.toList, ∃ v, x = Value.int .i64 v) (hx : A.size = m) (hm : 0 < m) (hm2 : m ≤ 1000) :
    Calls Try.prog 45 #[.pointer (some ⟨g, 0, none⟩), .slice (some ⟨W.heap.size, 0, none⟩) m m] (W.alloc (.cells A T)) fun e w' => ∃ v i h, e = .returned (.int .i64 v) ∧ (Value.int .i64 v) ∈ A.toList ∧ CurAt w' g S i h ∧ W.grownBy w' (some g) := by
  have h1 : A = rowArr .i64 (A.toList.map intOf) := by
    apply Array.ext'
    simp only [rowArr, List.map_map]
    refine (List.map_id _).symm.trans (List.map_congr_left fun x hx => ?_)
    obtain ⟨v, rfl⟩ := hA x hx
    rfl
  refine (pick_lit W g S i h (A.toList.map intOf) A m T hw h1 (by simpa using hx) hm hm2).mono ?_
  rintro e w' ⟨v, i', h', he, hv, hc, ho⟩
  refine ⟨v, i', h', he, ?_, hc, ho⟩
  obtain ⟨x, hx, rfl⟩ := List.mem_map.1 hv
  obtain ⟨v, rfl⟩ := hA x hx
  exact hx
theorem pick_in (W : World) (g : Nat) (S : Src) (i : Nat) (h : Int) (A : Array Value) (m : Nat) (T : TypeId) (lo hi : Int) (hw : CurAt W g S i h) (hA : ∀ x ∈ A.toList, ∃ v, x = Value.int .i64 v ∧ lo ≤ v ∧ v ≤ hi) (hx : A.size = m) (hm : 0 < m) (hm2 : m ≤ 1000) :
    Calls Try.prog 45 #[.pointer (some ⟨g, 0, none⟩), .slice (some ⟨W.heap.size, 0, none⟩) m m] (W.alloc (.cells A T)) fun e w' => ∃ v i h, e = .returned (.int .i64 v) ∧ (lo ≤ v ∧ v ≤ hi) ∧ CurAt w' g S i h ∧ W.grownBy w' (some g) := by
  refine (pick_any W g S i h A m T hw (fun x hx => let ⟨v, h, _⟩ := hA x hx; ⟨v, h⟩) hx hm hm2).mono ?_
  rintro e w' ⟨v, i', h', he, hv, hc, ho⟩
  obtain ⟨u, hu, h1, h2⟩ := hA _ hv
  injection hu with _ hu
  subst hu
  exact ⟨_, i', h', he, ⟨h1, h2⟩, hc, ho⟩
theorem l1Below_pos (w : World) (g : Nat) (S : Src) (i : Nat) (h n : Int) (hw : CurAt w g S i h) (hn : 0 < n) :
    Calls Try.prog 38 #[.pointer (some ⟨g, 0, none⟩), .int .i64 n] w (DrawInt (fun v => 0 ≤ v ∧ v < n) w g S) :=
  (l1Below_any w g S i h n hw).mono fun e w' ⟨v, i, h, he, ⟨h0, h1⟩, hc, ho⟩ => ⟨v, i, h, he, ⟨h0, by omega⟩, hc, ho⟩
theorem big_any (a : Option Addr) (n c : Nat) (w : World) : Calls Try.prog 6 #[.slice a n c] w fun e w' => e = .returned (.bool (decide ((n : Int) > 1048576))) ∧ w = w' := by
  by_cases h : (n : Int) > 1048576
  · rw [decide_eq_true h]
    go_enter Try.func6, Try.ntmps6
    go_wp2
    go_ret
    exact ⟨rfl, rfl⟩
  · rw [decide_eq_false h]
    go_enter Try.func6, Try.ntmps6
    go_wp2
    go_ret
    exact ⟨rfl, rfl⟩
set_option maxHeartbeats 1000000 in
theorem l20Fun_any (w : World) (g : Nat) (S : Src) (i : Nat) (h : Int) (hw : CurAt w g S i h) :
    Calls Try.prog 43 #[.pointer (some ⟨g, 0, none⟩)] w (DrawInt (fun _ => True) w g S) := by
  have HC := Lib.hid hw
  clear hw
  have HO := Lib.hid (only_refl w (some g))
  go_enter Try.func43, Try.ntmps43
  go_wp2_with fail
  refine (l1Below_pos _ g S _ _ 15 HC.out (by omega)).mono ?_
  rintro e w1 ⟨x1, i1, h1, rfl, ⟨x1a, x1b⟩, hc, ho1⟩
  clear HC
  have HC := Lib.hid hc
  clear hc
  have HO := Lib.hid (only_step HO.out ho1)
  clear ho1
  go_wp2_with fail
  refine (l1Below_pos _ g S _ _ 15 HC.out (by omega)).mono ?_
  rintro e w2 ⟨x2, i2, h2, rfl, ⟨x2a, x2b⟩, hc, ho1⟩
  clear HC
  have HC := Lib.hid hc
  clear hc
  have HO := Lib.hid (only_step HO.out ho1)
  clear ho1
  go_wp2_with fail
  refine (l1Below_pos _ g S _ _ 15 HC.out (by omega)).mono ?_
  rintro e w3 ⟨x3, i3, h3, rfl, ⟨x3a, x3b⟩, hc, ho1⟩
  clear HC
  have HC := Lib.hid hc
  clear hc
  have HO := Lib.hid (only_step HO.out ho1)
  clear ho1
  go_wp2_with fail
  refine (l1Below_pos _ g S _ _ 15 HC.out (by omega)).mono ?_
  rintro e w4 ⟨x4, i4, h4, rfl, ⟨x4a, x4b⟩, hc, ho1⟩
  clear HC
  have HC := Lib.hid hc
  clear hc
  have HO := Lib.hid (only_step HO.out ho1)
  clear ho1
  go_wp2_with fail
  refine (pick_any _ g S _ _ _ 6 _ HC.out ?_ ?_ (by omega) (by omega)).mono ?_
  · exact List.forall_mem_cons.2 ⟨⟨_, rfl⟩, List.forall_mem_cons.2 ⟨⟨_, rfl⟩, List.forall_mem_cons.2 ⟨⟨_, rfl⟩, List.forall_mem_cons.2 ⟨⟨_, rfl⟩, List.forall_mem_cons.2 ⟨⟨_, rfl⟩, List.forall_mem_cons.2 ⟨⟨_, rfl⟩, List.forall_mem_nil _⟩⟩⟩⟩⟩⟩
  · rfl
  rintro e w5 ⟨v, i5, h5, rfl, _, hc, ho1⟩
  clear HC
  have HC := Lib.hid hc
  clear hc
  have HO := Lib.hid (only_step HO.out ho1)
  clear ho1
  go_wp2
  go_ret
  exact ⟨_, _, _, rfl, trivial, HC.out, HO.out⟩
theorem pw_bd60 (k : Int) (h : k ≤ 60) : 1 ≤ pw k ∧ pw k ≤ 1152921504606846976 := by
  have h1 : (2 : Nat) ^ k.toNat ≤ 2 ^ 60 := Nat.pow_le_pow_right (by omega) (by omega)
  have h2 : 1 ≤ (2 : Nat) ^ k.toNat := Nat.one_le_two_pow
  have h3 : pw k = ((2 ^ k.toNat : Nat) : Int) := by unfold pw; simp
  rw [h3]
  have h4 : (2 : Nat) ^ 60 = 1152921504606846976 := by decide
  omega
theorem pw_bd17 (k : Int) (h : k < 18) : pw k ≤ 131072 := by
  have h1 : (2 : Nat) ^ k.toNat ≤ 2 ^ 17 := Nat.pow_le_pow_right (by omega) (by omega)
  have h3 : pw k = ((2 ^ k.toNat : Nat) : Int) := by unfold pw; simp
  rw [h3]
  have h4 : (2 : Nat) ^ 17 = 131072 := by decide
  omega
set_option maxHeartbeats 4000000 in
theorem l15Arg_any (w : World) (g : Nat) (S : Src) (i : Nat) (h : Int) (hw : CurAt w g S i h) :
    Calls Try.prog 44 #[.pointer (some ⟨g, 0, none⟩)] w fun e w' => ∃ v f p i h, e = .returned (.tuple #[.int .i64 v, .int .i64 f, .int .i64 p]) ∧ (0 ≤ f ∧ f ≤ 60) ∧ CurAt w' g S i h ∧ w.grownBy w' (some g) := by
  have HC := Lib.hid hw
  clear hw
  have HO := Lib.hid (only_refl w (some g))
  go_enter Try.func44, Try.ntmps44
  go_wp2_with fail
  refine (l1Below_pos _ g S _ _ 61 HC.out (by omega)).mono ?_
  rintro e w1 ⟨x1, i1, h1, rfl, ⟨x1a, x1b⟩, hc, ho1⟩
  clear HC
  have HC := Lib.hid hc
  clear hc
  have HO := Lib.hid (only_step HO.out ho1)
  clear ho1
  go_wp2_with fail
  refine (pick_in _ g S _ _ _ 7 _ 0 60 HC.out ?_ ?_ (by omega) (by omega)).mono ?_
  · exact List.forall_mem_cons.2 ⟨⟨_, rfl, by omega, by omega⟩, List.forall_mem_cons.2 ⟨⟨_, rfl, by omega, by omega⟩, List.forall_mem_cons.2 ⟨⟨_, rfl, by omega, by omega⟩, List.forall_mem_cons.2 ⟨⟨_, rfl, by omega, by omega⟩, List.forall_mem_cons.2 ⟨⟨_, rfl, by omega, by omega⟩, List.forall_mem_cons.2 ⟨⟨_, rfl, by omega, by omega⟩, List.forall_mem_cons.2 ⟨⟨_, rfl, by omega, by omega⟩, List.forall_mem_nil _⟩⟩⟩⟩⟩⟩⟩
  · rfl
  rintro e w2 ⟨f, i2, h2, rfl, ⟨fa, fb⟩, hc, ho1⟩
  clear HC
  have HC := Lib.hid hc
  clear hc
  have HO := Lib.hid (only_step HO.out ho1)
  clear ho1
  have hone := pw_bd60 f (by omega)
  obtain ⟨hone1, hone2⟩ := hone
  have hone3 := pw_bd17 f
  go_wp2_with fail
  refine (l2Pow_any _ _ (by omega)).mono ?_
  rintro e w3 ⟨rfl, rfl⟩
  generalize pw f = one at *
  go_wp2_with fail
  refine (l1Below_pos _ g S _ _ 1000 HC.out (by omega)).mono ?_
  rintro e w4 ⟨x2, i4, h4, rfl, ⟨x2a, x2b⟩, hc, ho1⟩
  clear HC
  have HC := Lib.hid hc
  clear hc
  have HO := Lib.hid (only_step HO.out ho1)
  clear ho1
  go_wp2_with fail
  refine (l1Below_pos _ g S _ _ 1000 HC.out (by omega)).mono ?_
  rintro e w5 ⟨x3, i5, h5, rfl, ⟨x3a, x3b⟩, hc, ho1⟩
  clear HC
  have HC := Lib.hid hc
  clear hc
  have HO := Lib.hid (only_step HO.out ho1)
  clear ho1
  go_wp2_with fail
  refine (l1Below_pos _ g S _ _ 1000000000 HC.out (by omega)).mono ?_
  rintro e w6 ⟨x4, i6, h6, rfl, ⟨x4a, x4b⟩, hc, ho1⟩
  clear HC
  have HC := Lib.hid hc
  clear hc
  have HO := Lib.hid (only_step HO.out ho1)
  clear ho1
  go_wp2_with fail
  refine (pick_any _ g S _ _ _ 12 _ HC.out ?_ ?_ (by omega) (by omega)).mono ?_
  · exact List.forall_mem_cons.2 ⟨⟨_, rfl⟩, List.forall_mem_cons.2 ⟨⟨_, rfl⟩, List.forall_mem_cons.2 ⟨⟨_, rfl⟩, List.forall_mem_cons.2 ⟨⟨_, rfl⟩, List.forall_mem_cons.2 ⟨⟨_, rfl⟩, List.forall_mem_cons.2 ⟨⟨_, rfl⟩, List.forall_mem_cons.2 ⟨⟨_, rfl⟩, List.forall_mem_cons.2 ⟨⟨_, rfl⟩, List.forall_mem_cons.2 ⟨⟨_, rfl⟩, List.forall_mem_cons.2 ⟨⟨_, rfl⟩, List.forall_mem_cons.2 ⟨⟨_, rfl⟩, List.forall_mem_cons.2 ⟨⟨_, rfl⟩, List.forall_mem_nil _⟩⟩⟩⟩⟩⟩⟩⟩⟩⟩⟩⟩
  · rfl
  rintro e w7 ⟨v, i7, h7, rfl, _, hc, ho1⟩
  clear HC
  have HC := Lib.hid hc
  clear hc
  have HO := Lib.hid (only_step HO.out ho1)
  clear ho1
  go_wp2_with fail
  refine (l1Once_any _ g S _ _ 2 HC.out).mono ?_
  rintro e w8 ⟨o1, i8, h8, rfl, hc, ho1⟩
  clear HC
  have HC := Lib.hid hc
  clear hc
  have HO := Lib.hid (only_step HO.out ho1)
  clear ho1
  cases o1
  · go_wp2_with fail
    refine (l1Once_any _ g S _ _ 12 HC.out).mono ?_
    rintro e w9 ⟨o2, i9, h9, rfl, hc, ho1⟩
    clear HC
    have HC := Lib.hid hc
    clear hc
    have HO := Lib.hid (only_step HO.out ho1)
    clear ho1
    cases o2
    · go_wp2_with fail
      refine (l1Below_pos _ g S _ _ 120 HC.out (by omega)).mono ?_
      rintro e w10 ⟨z, i10, h10, rfl, ⟨za, zb⟩, hc, ho1⟩
      clear HC
      have HC := Lib.hid hc
      clear hc
      have HO := Lib.hid (only_step HO.out ho1)
      clear ho1
      go_wp2_with fail
      refine (pick_any _ g S _ _ _ 10 _ HC.out ?_ ?_ (by omega) (by omega)).mono ?_
      · exact List.forall_mem_cons.2 ⟨⟨_, rfl⟩, List.forall_mem_cons.2 ⟨⟨_, rfl⟩, List.forall_mem_cons.2 ⟨⟨_, rfl⟩, List.forall_mem_cons.2 ⟨⟨_, rfl⟩, List.forall_mem_cons.2 ⟨⟨_, rfl⟩, List.forall_mem_cons.2 ⟨⟨_, rfl⟩, List.forall_mem_cons.2 ⟨⟨_, rfl⟩, List.forall_mem_cons.2 ⟨⟨_, rfl⟩, List.forall_mem_cons.2 ⟨⟨_, rfl⟩, List.forall_mem_cons.2 ⟨⟨_, rfl⟩, List.forall_mem_nil _⟩⟩⟩⟩⟩⟩⟩⟩⟩⟩
      · rfl
      rintro e w11 ⟨p, i11, h11, rfl, _, hc, ho1⟩
      clear HC
      have HC := Lib.hid hc
      clear hc
      have HO := Lib.hid (only_step HO.out ho1)
      clear ho1
      go_wp2
      go_ret3
      exact ⟨_, _, _, _, _, rfl, ⟨fa, fb⟩, HC.out, HO.out⟩
    · go_wp2_with fail
      refine (pick_any _ g S _ _ _ 6 _ HC.out ?_ ?_ (by omega) (by omega)).mono ?_
      · exact List.forall_mem_cons.2 ⟨⟨_, rfl⟩, List.forall_mem_cons.2 ⟨⟨_, rfl⟩, List.forall_mem_cons.2 ⟨⟨_, rfl⟩, List.forall_mem_cons.2 ⟨⟨_, rfl⟩, List.forall_mem_cons.2 ⟨⟨_, rfl⟩, List.forall_mem_cons.2 ⟨⟨_, rfl⟩, List.forall_mem_nil _⟩⟩⟩⟩⟩⟩
      · rfl
      rintro e w12 ⟨y1, i12, h12, rfl, _, hc, ho1⟩
      clear HC
      have HC := Lib.hid hc
      clear hc
      have HO := Lib.hid (only_step HO.out ho1)
      clear ho1
      go_wp2_with fail
      refine (pick_any _ g S _ _ _ 2 _ HC.out ?_ ?_ (by omega) (by omega)).mono ?_
      · exact List.forall_mem_cons.2 ⟨⟨_, rfl⟩, List.forall_mem_cons.2 ⟨⟨_, rfl⟩, List.forall_mem_nil _⟩⟩
      · rfl
      rintro e w13 ⟨y2, i13, h13, rfl, _, hc, ho1⟩
      clear HC
      have HC := Lib.hid hc
      clear hc
      have HO := Lib.hid (only_step HO.out ho1)
      clear ho1
      go_wp2_with fail
      refine (l1In_any _ _ _ _).mono ?_
      rintro e w' ⟨rfl, rfl⟩
      generalize inR _ _ _ = q
      cases q
      · go_wp2_with fail
        refine (l1Below_pos _ g S _ _ 120 HC.out (by omega)).mono ?_
        rintro e w14 ⟨z, i14, h14, rfl, ⟨za, zb⟩, hc, ho1⟩
        clear HC
        have HC := Lib.hid hc
        clear hc
        have HO := Lib.hid (only_step HO.out ho1)
        clear ho1
        go_wp2_with fail
        refine (pick_any _ g S _ _ _ 10 _ HC.out ?_ ?_ (by omega) (by omega)).mono ?_
        · exact List.forall_mem_cons.2 ⟨⟨_, rfl⟩, List.forall_mem_cons.2 ⟨⟨_, rfl⟩, List.forall_mem_cons.2 ⟨⟨_, rfl⟩, List.forall_mem_cons.2 ⟨⟨_, rfl⟩, List.forall_mem_cons.2 ⟨⟨_, rfl⟩, List.forall_mem_cons.2 ⟨⟨_, rfl⟩, List.forall_mem_cons.2 ⟨⟨_, rfl⟩, List.forall_mem_cons.2 ⟨⟨_, rfl⟩, List.forall_mem_cons.2 ⟨⟨_, rfl⟩, List.forall_mem_cons.2 ⟨⟨_, rfl⟩, List.forall_mem_nil _⟩⟩⟩⟩⟩⟩⟩⟩⟩⟩
        · rfl
        rintro e w15 ⟨p, i15, h15, rfl, _, hc, ho1⟩
        clear HC
        have HC := Lib.hid hc
        clear hc
        have HO := Lib.hid (only_step HO.out ho1)
        clear ho1
        go_wp2
        go_ret3
        exact ⟨_, _, _, _, _, rfl, ⟨fa, fb⟩, HC.out, HO.out⟩
      · go_wp2_with fail
        refine (l1Below_pos _ g S _ _ 120 HC.out (by omega)).mono ?_
        rintro e w16 ⟨z, i16, h16, rfl, ⟨za, zb⟩, hc, ho1⟩
        clear HC
        have HC := Lib.hid hc
        clear hc
        have HO := Lib.hid (only_step HO.out ho1)
        clear ho1
        go_wp2_with fail
        refine (pick_any _ g S _ _ _ 10 _ HC.out ?_ ?_ (by omega) (by omega)).mono ?_
        · exact List.forall_mem_cons.2 ⟨⟨_, rfl⟩, List.forall_mem_cons.2 ⟨⟨_, rfl⟩, List.forall_mem_cons.2 ⟨⟨_, rfl⟩, List.forall_mem_cons.2 ⟨⟨_, rfl⟩, List.forall_mem_cons.2 ⟨⟨_, rfl⟩, List.forall_mem_cons.2 ⟨⟨_, rfl⟩, List.forall_mem_cons.2 ⟨⟨_, rfl⟩, List.forall_mem_cons.2 ⟨⟨_, rfl⟩, List.forall_mem_cons.2 ⟨⟨_, rfl⟩, List.forall_mem_cons.2 ⟨⟨_, rfl⟩, List.forall_mem_nil _⟩⟩⟩⟩⟩⟩⟩⟩⟩⟩
        · rfl
        rintro e w17 ⟨p, i17, h17, rfl, _, hc, ho1⟩
        clear HC
        have HC := Lib.hid hc
        clear hc
        have HO := Lib.hid (only_step HO.out ho1)
        clear ho1
        go_wp2
        go_ret3
        exact ⟨_, _, _, _, _, rfl, ⟨fa, fb⟩, HC.out, HO.out⟩
  · go_wp2_with fail
    refine (l1Below_pos _ g S _ _ 4000000 HC.out (by omega)).mono ?_
    rintro e w18 ⟨x5, i18, h18, rfl, ⟨x5a, x5b⟩, hc, ho1⟩
    clear HC
    have HC := Lib.hid hc
    clear hc
    have HO := Lib.hid (only_step HO.out ho1)
    clear ho1
    by_cases hf : f < 18
    · have hone4 := hone3 (by omega)
      go_wp2_with fail
      refine (l1Below_any _ g S _ _ _ HC.out).mono ?_
      rintro e w19 ⟨x6, i19, h19, rfl, _, hc, ho1⟩
      clear HC
      have HC := Lib.hid hc
      clear hc
      have HO := Lib.hid (only_step HO.out ho1)
      clear ho1
      go_wp2_with fail
      refine (l1Once_any _ g S _ _ 12 HC.out).mono ?_
      rintro e w20 ⟨o2, i20, h20, rfl, hc, ho1⟩
      clear HC
      have HC := Lib.hid hc
      clear hc
      have HO := Lib.hid (only_step HO.out ho1)
      clear ho1
      cases o2
      · go_wp2_with fail
        refine (l1Below_pos _ g S _ _ 120 HC.out (by omega)).mono ?_
        rintro e w21 ⟨z, i21, h21, rfl, ⟨za, zb⟩, hc, ho1⟩
        clear HC
        have HC := Lib.hid hc
        clear hc
        have HO := Lib.hid (only_step HO.out ho1)
        clear ho1
        go_wp2_with fail
        refine (pick_any _ g S _ _ _ 10 _ HC.out ?_ ?_ (by omega) (by omega)).mono ?_
        · exact List.forall_mem_cons.2 ⟨⟨_, rfl⟩, List.forall_mem_cons.2 ⟨⟨_, rfl⟩, List.forall_mem_cons.2 ⟨⟨_, rfl⟩, List.forall_mem_cons.2 ⟨⟨_, rfl⟩, List.forall_mem_cons.2 ⟨⟨_, rfl⟩, List.forall_mem_cons.2 ⟨⟨_, rfl⟩, List.forall_mem_cons.2 ⟨⟨_, rfl⟩, List.forall_mem_cons.2 ⟨⟨_, rfl⟩, List.forall_mem_cons.2 ⟨⟨_, rfl⟩, List.forall_mem_cons.2 ⟨⟨_, rfl⟩, List.forall_mem_nil _⟩⟩⟩⟩⟩⟩⟩⟩⟩⟩
        · rfl
        rintro e w22 ⟨p, i22, h22, rfl, _, hc, ho1⟩
        clear HC
        have HC := Lib.hid hc
        clear hc
        have HO := Lib.hid (only_step HO.out ho1)
        clear ho1
        go_wp2
        go_ret3
        exact ⟨_, _, _, _, _, rfl, ⟨fa, fb⟩, HC.out, HO.out⟩
      · go_wp2_with fail
        refine (pick_any _ g S _ _ _ 6 _ HC.out ?_ ?_ (by omega) (by omega)).mono ?_
        · exact List.forall_mem_cons.2 ⟨⟨_, rfl⟩, List.forall_mem_cons.2 ⟨⟨_, rfl⟩, List.forall_mem_cons.2 ⟨⟨_, rfl⟩, List.forall_mem_cons.2 ⟨⟨_, rfl⟩, List.forall_mem_cons.2 ⟨⟨_, rfl⟩, List.forall_mem_cons.2 ⟨⟨_, rfl⟩, List.forall_mem_nil _⟩⟩⟩⟩⟩⟩
        · rfl
        rintro e w23 ⟨y1, i23, h23, rfl, _, hc, ho1⟩
        clear HC
        have HC := Lib.hid hc
        clear hc
        have HO := Lib.hid (only_step HO.out ho1)
        clear ho1
        go_wp2_with fail
        refine (pick_any _ g S _ _ _ 2 _ HC.out ?_ ?_ (by omega) (by omega)).mono ?_
        · exact List.forall_mem_cons.2 ⟨⟨_, rfl⟩, List.forall_mem_cons.2 ⟨⟨_, rfl⟩, List.forall_mem_nil _⟩⟩
        · rfl
        rintro e w24 ⟨y2, i24, h24, rfl, _, hc, ho1⟩
        clear HC
        have HC := Lib.hid hc
        clear hc
        have HO := Lib.hid (only_step HO.out ho1)
        clear ho1
        go_wp2_with fail
        refine (l1In_any _ _ _ _).mono ?_
        rintro e w' ⟨rfl, rfl⟩
        generalize inR _ _ _ = q
        cases q
        · go_wp2_with fail
          refine (l1Below_pos _ g S _ _ 120 HC.out (by omega)).mono ?_
          rintro e w25 ⟨z, i25, h25, rfl, ⟨za, zb⟩, hc, ho1⟩
          clear HC
          have HC := Lib.hid hc
          clear hc
          have HO := Lib.hid (only_step HO.out ho1)
          clear ho1
          go_wp2_with fail
          refine (pick_any _ g S _ _ _ 10 _ HC.out ?_ ?_ (by omega) (by omega)).mono ?_
          · exact List.forall_mem_cons.2 ⟨⟨_, rfl⟩, List.forall_mem_cons.2 ⟨⟨_, rfl⟩, List.forall_mem_cons.2 ⟨⟨_, rfl⟩, List.forall_mem_cons.2 ⟨⟨_, rfl⟩, List.forall_mem_cons.2 ⟨⟨_, rfl⟩, List.forall_mem_cons.2 ⟨⟨_, rfl⟩, List.forall_mem_cons.2 ⟨⟨_, rfl⟩, List.forall_mem_cons.2 ⟨⟨_, rfl⟩, List.forall_mem_cons.2 ⟨⟨_, rfl⟩, List.forall_mem_cons.2 ⟨⟨_, rfl⟩, List.forall_mem_nil _⟩⟩⟩⟩⟩⟩⟩⟩⟩⟩
          · rfl
          rintro e w26 ⟨p, i26, h26, rfl, _, hc, ho1⟩
          clear HC
          have HC := Lib.hid hc
          clear hc
          have HO := Lib.hid (only_step HO.out ho1)
          clear ho1
          go_wp2
          go_ret3
          exact ⟨_, _, _, _, _, rfl, ⟨fa, fb⟩, HC.out, HO.out⟩
        · go_wp2_with fail
          refine (l1Below_pos _ g S _ _ 120 HC.out (by omega)).mono ?_
          rintro e w27 ⟨z, i27, h27, rfl, ⟨za, zb⟩, hc, ho1⟩
          clear HC
          have HC := Lib.hid hc
          clear hc
          have HO := Lib.hid (only_step HO.out ho1)
          clear ho1
          go_wp2_with fail
          refine (pick_any _ g S _ _ _ 10 _ HC.out ?_ ?_ (by omega) (by omega)).mono ?_
          · exact List.forall_mem_cons.2 ⟨⟨_, rfl⟩, List.forall_mem_cons.2 ⟨⟨_, rfl⟩, List.forall_mem_cons.2 ⟨⟨_, rfl⟩, List.forall_mem_cons.2 ⟨⟨_, rfl⟩, List.forall_mem_cons.2 ⟨⟨_, rfl⟩, List.forall_mem_cons.2 ⟨⟨_, rfl⟩, List.forall_mem_cons.2 ⟨⟨_, rfl⟩, List.forall_mem_cons.2 ⟨⟨_, rfl⟩, List.forall_mem_cons.2 ⟨⟨_, rfl⟩, List.forall_mem_cons.2 ⟨⟨_, rfl⟩, List.forall_mem_nil _⟩⟩⟩⟩⟩⟩⟩⟩⟩⟩
          · rfl
          rintro e w28 ⟨p, i28, h28, rfl, _, hc, ho1⟩
          clear HC
          have HC := Lib.hid hc
          clear hc
          have HO := Lib.hid (only_step HO.out ho1)
          clear ho1
          go_wp2
          go_ret3
          exact ⟨_, _, _, _, _, rfl, ⟨fa, fb⟩, HC.out, HO.out⟩
    · go_wp2_with fail
      refine (l1Once_any _ g S _ _ 12 HC.out).mono ?_
      rintro e w29 ⟨o2, i29, h29, rfl, hc, ho1⟩
      clear HC
      have HC := Lib.hid hc
      clear hc
      have HO := Lib.hid (only_step HO.out ho1)
      clear ho1
      cases o2
      · go_wp2_with fail
        refine (l1Below_pos _ g S _ _ 120 HC.out (by omega)).mono ?_
        rintro e w30 ⟨z, i30, h30, rfl, ⟨za, zb⟩, hc, ho1⟩
        clear HC
        have HC := Lib.hid hc
        clear hc
        have HO := Lib.hid (only_step HO.out ho1)
        clear ho1
        go_wp2_with fail
        refine (pick_any _ g S _ _ _ 10 _ HC.out ?_ ?_ (by omega) (by omega)).mono ?_
        · exact List.forall_mem_cons.2 ⟨⟨_, rfl⟩, List.forall_mem_cons.2 ⟨⟨_, rfl⟩, List.forall_mem_cons.2 ⟨⟨_, rfl⟩, List.forall_mem_cons.2 ⟨⟨_, rfl⟩, List.forall_mem_cons.2 ⟨⟨_, rfl⟩, List.forall_mem_cons.2 ⟨⟨_, rfl⟩, List.forall_mem_cons.2 ⟨⟨_, rfl⟩, List.forall_mem_cons.2 ⟨⟨_, rfl⟩, List.forall_mem_cons.2 ⟨⟨_, rfl⟩, List.forall_mem_cons.2 ⟨⟨_, rfl⟩, List.forall_mem_nil _⟩⟩⟩⟩⟩⟩⟩⟩⟩⟩
        · rfl
        rintro e w31 ⟨p, i31, h31, rfl, _, hc, ho1⟩
        clear HC
        have HC := Lib.hid hc
        clear hc
        have HO := Lib.hid (only_step HO.out ho1)
        clear ho1
        go_wp2
        go_ret3
        exact ⟨_, _, _, _, _, rfl, ⟨fa, fb⟩, HC.out, HO.out⟩
      · go_wp2_with fail
        refine (pick_any _ g S _ _ _ 6 _ HC.out ?_ ?_ (by omega) (by omega)).mono ?_
        · exact List.forall_mem_cons.2 ⟨⟨_, rfl⟩, List.forall_mem_cons.2 ⟨⟨_, rfl⟩, List.forall_mem_cons.2 ⟨⟨_, rfl⟩, List.forall_mem_cons.2 ⟨⟨_, rfl⟩, List.forall_mem_cons.2 ⟨⟨_, rfl⟩, List.forall_mem_cons.2 ⟨⟨_, rfl⟩, List.forall_mem_nil _⟩⟩⟩⟩⟩⟩
        · rfl
        rintro e w32 ⟨y1, i32, h32, rfl, _, hc, ho1⟩
        clear HC
        have HC := Lib.hid hc
        clear hc
        have HO := Lib.hid (only_step HO.out ho1)
        clear ho1
        go_wp2_with fail
        refine (pick_any _ g S _ _ _ 2 _ HC.out ?_ ?_ (by omega) (by omega)).mono ?_
        · exact List.forall_mem_cons.2 ⟨⟨_, rfl⟩, List.forall_mem_cons.2 ⟨⟨_, rfl⟩, List.forall_mem_nil _⟩⟩
        · rfl
        rintro e w33 ⟨y2, i33, h33, rfl, _, hc, ho1⟩
        clear HC
        have HC := Lib.hid hc
        clear hc
        have HO := Lib.hid (only_step HO.out ho1)
        clear ho1
        go_wp2_with fail
        refine (l1In_any _ _ _ _).mono ?_
        rintro e w' ⟨rfl, rfl⟩
        generalize inR _ _ _ = q
        cases q
        · go_wp2_with fail
          refine (l1Below_pos _ g S _ _ 120 HC.out (by omega)).mono ?_
          rintro e w34 ⟨z, i34, h34, rfl, ⟨za, zb⟩, hc, ho1⟩
          clear HC
          have HC := Lib.hid hc
          clear hc
          have HO := Lib.hid (only_step HO.out ho1)
          clear ho1
          go_wp2_with fail
          refine (pick_any _ g S _ _ _ 10 _ HC.out ?_ ?_ (by omega) (by omega)).mono ?_
          · exact List.forall_mem_cons.2 ⟨⟨_, rfl⟩, List.forall_mem_cons.2 ⟨⟨_, rfl⟩, List.forall_mem_cons.2 ⟨⟨_, rfl⟩, List.forall_mem_cons.2 ⟨⟨_, rfl⟩, List.forall_mem_cons.2 ⟨⟨_, rfl⟩, List.forall_mem_cons.2 ⟨⟨_, rfl⟩, List.forall_mem_cons.2 ⟨⟨_, rfl⟩, List.forall_mem_cons.2 ⟨⟨_, rfl⟩, List.forall_mem_cons.2 ⟨⟨_, rfl⟩, List.forall_mem_cons.2 ⟨⟨_, rfl⟩, List.forall_mem_nil _⟩⟩⟩⟩⟩⟩⟩⟩⟩⟩
          · rfl
          rintro e w35 ⟨p, i35, h35, rfl, _, hc, ho1⟩
          clear HC
          have HC := Lib.hid hc
          clear hc
          have HO := Lib.hid (only_step HO.out ho1)
          clear ho1
          go_wp2
          go_ret3
          exact ⟨_, _, _, _, _, rfl, ⟨fa, fb⟩, HC.out, HO.out⟩
        · go_wp2_with fail
          refine (l1Below_pos _ g S _ _ 120 HC.out (by omega)).mono ?_
          rintro e w36 ⟨z, i36, h36, rfl, ⟨za, zb⟩, hc, ho1⟩
          clear HC
          have HC := Lib.hid hc
          clear hc
          have HO := Lib.hid (only_step HO.out ho1)
          clear ho1
          go_wp2_with fail
          refine (pick_any _ g S _ _ _ 10 _ HC.out ?_ ?_ (by omega) (by omega)).mono ?_
          · exact List.forall_mem_cons.2 ⟨⟨_, rfl⟩, List.forall_mem_cons.2 ⟨⟨_, rfl⟩, List.forall_mem_cons.2 ⟨⟨_, rfl⟩, List.forall_mem_cons.2 ⟨⟨_, rfl⟩, List.forall_mem_cons.2 ⟨⟨_, rfl⟩, List.forall_mem_cons.2 ⟨⟨_, rfl⟩, List.forall_mem_cons.2 ⟨⟨_, rfl⟩, List.forall_mem_cons.2 ⟨⟨_, rfl⟩, List.forall_mem_cons.2 ⟨⟨_, rfl⟩, List.forall_mem_cons.2 ⟨⟨_, rfl⟩, List.forall_mem_nil _⟩⟩⟩⟩⟩⟩⟩⟩⟩⟩
          · rfl
          rintro e w37 ⟨p, i37, h37, rfl, _, hc, ho1⟩
          clear HC
          have HC := Lib.hid hc
          clear hc
          have HO := Lib.hid (only_step HO.out ho1)
          clear ho1
          go_wp2
          go_ret3
          exact ⟨_, _, _, _, _, rfl, ⟨fa, fb⟩, HC.out, HO.out⟩
set_option maxHeartbeats 4000000 in
theorem l20Args_any (S : Src) (w : World) (ha : RowAt .u8 w S.a S.l) :
    Calls Try.prog 22 #[.slice S.a S.n S.c] w fun e w' => ∃ fn tu f a b, e = .returned (.tuple #[.int .i64 fn, .bool tu, .int .i64 f, .int .i64 a, .int .i64 b]) ∧ Below w.heap.size w w' := by
  go_enter Try.func22, Try.ntmps22
  go_wp2_with fail
  refine (l1New_any S w ha).mono ?_
  rintro e w0 ⟨rfl, hc, hb⟩
  have HC := Lib.hid hc
  clear hc
  have HB := Lib.hid hb
  clear hb
  have HO := Lib.hid (only_refl w0 (some w.heap.size))
  clear ha
  go_wp2_with fail
  refine (l20Fun_any _ w.heap.size S _ _ HC.out).mono ?_
  rintro e w00 ⟨fn, i00, h00, rfl, _, hc, ho1⟩
  clear HC
  have HC := Lib.hid hc
  clear hc
  have HO := Lib.hid (only_step HO.out ho1)
  clear ho1
  go_wp2_with fail
  refine (l15Arg_any _ w.heap.size S _ _ HC.out).mono ?_
  rintro e w01 ⟨a, f, p, i01, h01, rfl, ⟨fa, fb⟩, hc, ho1⟩
  clear HC
  have HC := Lib.hid hc
  clear hc
  have HO := Lib.hid (only_step HO.out ho1)
  clear ho1
  go_wp2_with fail
  refine (l1Below_pos _ w.heap.size S _ _ 1000 HC.out (by omega)).mono ?_
  rintro e w1 ⟨x1, i1, h1, rfl, ⟨x1a, x1b⟩, hc, ho1⟩
  clear HC
  have HC := Lib.hid hc
  clear hc
  have HO := Lib.hid (only_step HO.out ho1)
  clear ho1
  go_wp2_with fail
  refine (l2Pow_any _ _ (by omega)).mono ?_
  rintro e w2 ⟨rfl, rfl⟩
  go_wp2_with fail
  refine (pick_any _ w.heap.size S _ _ _ 7 _ HC.out ?_ ?_ (by omega) (by omega)).mono ?_
  · exact List.forall_mem_cons.2 ⟨⟨_, rfl⟩, List.forall_mem_cons.2 ⟨⟨_, rfl⟩, List.forall_mem_cons.2 ⟨⟨_, rfl⟩, List.forall_mem_cons.2 ⟨⟨_, rfl⟩, List.forall_mem_cons.2 ⟨⟨_, rfl⟩, List.forall_mem_cons.2 ⟨⟨_, rfl⟩, List.forall_mem_cons.2 ⟨⟨_, rfl⟩, List.forall_mem_nil _⟩⟩⟩⟩⟩⟩⟩
  · rfl
  rintro e w3 ⟨b, i3, h3, rfl, _, hc, ho1⟩
  clear HC
  have HC := Lib.hid hc
  clear hc
  have HO := Lib.hid (only_step HO.out ho1)
  clear ho1
  go_wp2_with fail
  refine (l1Once_any _ w.heap.size S _ _ 3 HC.out).mono ?_
  rintro e w4 ⟨o1, i4, h4, rfl, hc, ho1⟩
  clear HC
  have HC := Lib.hid hc
  clear hc
  have HO := Lib.hid (only_step HO.out ho1)
  clear ho1
  cases o1
  · go_wp2_with fail
    refine (l1Below_pos _ w.heap.size S _ _ 20 HC.out (by omega)).mono ?_
    rintro e w5 ⟨s, i5, h5, rfl, ⟨sa, sb⟩, hc, ho1⟩
    clear HC
    have HC := Lib.hid hc
    clear hc
    have HO := Lib.hid (only_step HO.out ho1)
    clear ho1
    rcases (show s = 0 ∨ s = 1 ∨ s = 2 ∨ (s ≠ 0 ∧ s ≠ 1 ∧ s ≠ 2) by omega) with hs | hs | hs | ⟨hs0, hs1, hs2⟩
    · subst hs
      go_wp2_with fail
      refine (pick_any _ w.heap.size S _ _ _ 2 _ HC.out ?_ ?_ (by omega) (by omega)).mono ?_
      · exact List.forall_mem_cons.2 ⟨⟨_, rfl⟩, List.forall_mem_cons.2 ⟨⟨_, rfl⟩, List.forall_mem_nil _⟩⟩
      · rfl
      rintro e w6 ⟨f2, i6, h6, rfl, _, hc, ho1⟩
      clear HC
      have HC := Lib.hid hc
      clear hc
      have HO := Lib.hid (only_step HO.out ho1)
      clear ho1
      go_wp2_with fail
      refine (l1Once_any _ w.heap.size S _ _ 2 HC.out).mono ?_
      rintro e w7 ⟨tu, i7, h7, rfl, hc, ho1⟩
      clear HC
      have HC := Lib.hid hc
      clear hc
      have HO := Lib.hid (only_step HO.out ho1)
      clear ho1
      go_wp2
      try simp only [Exit.inBlock, Exit.then]
      refine bodyPost_ret (results_tmp5 rfl _ _ _) rfl ?_
      exact ⟨_, _, _, _, _, rfl, below_only HB.out HO.out (Nat.le_refl _)⟩
    · subst hs
      go_wp2_with fail
      refine (l1Once_any _ w.heap.size S _ _ 2 HC.out).mono ?_
      rintro e w8 ⟨tu, i8, h8, rfl, hc, ho1⟩
      clear HC
      have HC := Lib.hid hc
      clear hc
      have HO := Lib.hid (only_step HO.out ho1)
      clear ho1
      go_wp2
      try simp only [Exit.inBlock, Exit.then]
      refine bodyPost_ret (results_tmp5 rfl _ _ _) rfl ?_
      exact ⟨_, _, _, _, _, rfl, below_only HB.out HO.out (Nat.le_refl _)⟩
    · subst hs
      go_wp2_with fail
      refine (l1Once_any _ w.heap.size S _ _ 2 HC.out).mono ?_
      rintro e w9 ⟨tu, i9, h9, rfl, hc, ho1⟩
      clear HC
      have HC := Lib.hid hc
      clear hc
      have HO := Lib.hid (only_step HO.out ho1)
      clear ho1
      go_wp2
      try simp only [Exit.inBlock, Exit.then]
      refine bodyPost_ret (results_tmp5 rfl _ _ _) rfl ?_
      exact ⟨_, _, _, _, _, rfl, below_only HB.out HO.out (Nat.le_refl _)⟩
    · go_wp2_with fail
      refine (l1Once_any _ w.heap.size S _ _ 2 HC.out).mono ?_
      rintro e w10 ⟨tu, i10, h10, rfl, hc, ho1⟩
      clear HC
      have HC := Lib.hid hc
      clear hc
      have HO := Lib.hid (only_step HO.out ho1)
      clear ho1
      go_wp2
      try simp only [Exit.inBlock, Exit.then]
      refine bodyPost_ret (results_tmp5 rfl _ _ _) rfl ?_
      exact ⟨_, _, _, _, _, rfl, below_only HB.out HO.out (Nat.le_refl _)⟩
  · go_wp2_with fail
    refine (l2Pow_any _ _ (by omega)).mono ?_
    rintro e w11 ⟨rfl, rfl⟩
    go_wp2_with fail
    refine (l2Pow_any _ _ (by omega)).mono ?_
    rintro e w12 ⟨rfl, rfl⟩
    go_wp2_with fail
    refine (l1Below_pos _ w.heap.size S _ _ 40 HC.out (by omega)).mono ?_
    rintro e w13 ⟨x2, i13, h13, rfl, ⟨x2a, x2b⟩, hc, ho1⟩
    clear HC
    have HC := Lib.hid hc
    clear hc
    have HO := Lib.hid (only_step HO.out ho1)
    clear ho1
    go_wp2_with fail
    refine (l1Max_any _ _ _).mono ?_
    rintro e wm ⟨rfl, rfl⟩
    have hm : (if f - 3 > 0 then f - 3 else 0) ≤ 62 := by split <;> omega
    generalize (if f - 3 > 0 then f - 3 else 0) = mx at *
    go_wp2_with fail
    refine (l2Pow_any _ _ (by omega)).mono ?_
    rintro e w14 ⟨rfl, rfl⟩
    go_wp2_with fail
    refine (pick_any _ w.heap.size S _ _ _ 4 _ HC.out ?_ ?_ (by omega) (by omega)).mono ?_
    · exact List.forall_mem_cons.2 ⟨⟨_, rfl⟩, List.forall_mem_cons.2 ⟨⟨_, rfl⟩, List.forall_mem_cons.2 ⟨⟨_, rfl⟩, List.forall_mem_cons.2 ⟨⟨_, rfl⟩, List.forall_mem_nil _⟩⟩⟩⟩
    · rfl
    rintro e w15 ⟨a2, i15, h15, rfl, _, hc, ho1⟩
    clear HC
    have HC := Lib.hid hc
    clear hc
    have HO := Lib.hid (only_step HO.out ho1)
    clear ho1
    go_wp2_with fail
    refine (l1Below_pos _ w.heap.size S _ _ 20 HC.out (by omega)).mono ?_
    rintro e w16 ⟨s, i16, h16, rfl, ⟨sa, sb⟩, hc, ho1⟩
    clear HC
    have HC := Lib.hid hc
    clear hc
    have HO := Lib.hid (only_step HO.out ho1)
    clear ho1
    rcases (show s = 0 ∨ s = 1 ∨ s = 2 ∨ (s ≠ 0 ∧ s ≠ 1 ∧ s ≠ 2) by omega) with hs | hs | hs | ⟨hs0, hs1, hs2⟩
    · subst hs
      go_wp2_with fail
      refine (pick_any _ w.heap.size S _ _ _ 2 _ HC.out ?_ ?_ (by omega) (by omega)).mono ?_
      · exact List.forall_mem_cons.2 ⟨⟨_, rfl⟩, List.forall_mem_cons.2 ⟨⟨_, rfl⟩, List.forall_mem_nil _⟩⟩
      · rfl
      rintro e w17 ⟨f2, i17, h17, rfl, _, hc, ho1⟩
      clear HC
      have HC := Lib.hid hc
      clear hc
      have HO := Lib.hid (only_step HO.out ho1)
      clear ho1
      go_wp2_with fail
      refine (l1Once_any _ w.heap.size S _ _ 2 HC.out).mono ?_
      rintro e w18 ⟨tu, i18, h18, rfl, hc, ho1⟩
      clear HC
      have HC := Lib.hid hc
      clear hc
      have HO := Lib.hid (only_step HO.out ho1)
      clear ho1
      go_wp2
      try simp only [Exit.inBlock, Exit.then]
      refine bodyPost_ret (results_tmp5 rfl _ _ _) rfl ?_
      exact ⟨_, _, _, _, _, rfl, below_only HB.out HO.out (Nat.le_refl _)⟩
    · subst hs
      go_wp2_with fail
      refine (l1Once_any _ w.heap.size S _ _ 2 HC.out).mono ?_
      rintro e w19 ⟨tu, i19, h19, rfl, hc, ho1⟩
      clear HC
      have HC := Lib.hid hc
      clear hc
      have HO := Lib.hid (only_step HO.out ho1)
      clear ho1
      go_wp2
      try simp only [Exit.inBlock, Exit.then]
      refine bodyPost_ret (results_tmp5 rfl _ _ _) rfl ?_
      exact ⟨_, _, _, _, _, rfl, below_only HB.out HO.out (Nat.le_refl _)⟩
    · subst hs
      go_wp2_with fail
      refine (l1Once_any _ w.heap.size S _ _ 2 HC.out).mono ?_
      rintro e w20 ⟨tu, i20, h20, rfl, hc, ho1⟩
      clear HC
      have HC := Lib.hid hc
      clear hc
      have HO := Lib.hid (only_step HO.out ho1)
      clear ho1
      go_wp2
      try simp only [Exit.inBlock, Exit.then]
      refine bodyPost_ret (results_tmp5 rfl _ _ _) rfl ?_
      exact ⟨_, _, _, _, _, rfl, below_only HB.out HO.out (Nat.le_refl _)⟩
    · go_wp2_with fail
      refine (l1Once_any _ w.heap.size S _ _ 2 HC.out).mono ?_
      rintro e w21 ⟨tu, i21, h21, rfl, hc, ho1⟩
      clear HC
      have HC := Lib.hid hc
      clear hc
      have HO := Lib.hid (only_step HO.out ho1)
      clear ho1
      go_wp2
      try simp only [Exit.inBlock, Exit.then]
      refine bodyPost_ret (results_tmp5 rfl _ _ _) rfl ?_
      exact ⟨_, _, _, _, _, rfl, below_only HB.out HO.out (Nat.le_refl _)⟩
theorem drawExact_any (S : Src) (w : World) (ha : RowAt .u8 w S.a S.l) :
    Calls Try.prog 7 #[.slice S.a S.n S.c] w fun e w' => ∃ fn tu f a b, e = .returned (.tuple #[.int .i64 fn, .bool tu, .int .i64 f, .int .i64 a, .int .i64 b]) ∧ Below w.heap.size w w' := by
  have HC := Lib.hid (l20Args_any S w ha)
  clear ha
  go_enter Try.func7, Try.ntmps7
  go_wp2_with fail
  refine HC.out.mono ?_
  rintro e w1 ⟨fn, tu, f, a, b, rfl, hb⟩
  go_wp2
  try simp only [Exit.inBlock, Exit.then]
  refine bodyPost_ret (results_tmp5 rfl _ _ _) rfl ?_
  exact ⟨_, _, _, _, _, rfl, hb⟩
end Go.Proofs.Ytimjfcipkmcgmaa
