/-
  PROVED: contracts of the functions of answers: size, copy, sameness, equality.
  CONDITIONS: none.
-/
import Derived.Test.YtmgdfefffgjddaaOwn
import Derived.Laws.BytesArg
import Derived.Laws.Strings
namespace Go.Proofs.Ytmgdfefffgjddaa
open Go.ChangeShapes Go.WideShapes Go.ChangeAt Go.RowKit
set_option linter.unusedVariables false
set_option linter.unusedSimpArgs false
def szA (left : Int) (n : Nat) : Int := if left - n < 0 then -1 else left - n
theorem szA_ge (left : Int) (n : Nat) : -1 ≤ szA left n := by unfold szA; split <;> omega
theorem szA_fits {left : Int} {n : Nat} (h : ¬ szA left n < 0) : (n : Int) ≤ left ∧ szA left n = left - n := by unfold szA at h ⊢; split at h <;> (rw [if_neg (by omega)]; omega)
def szAn (left : Int) (k n : Nat) : Int := if szA left k < 0 then -1 else szA (szA left k) n
theorem szAn_fits {left : Int} {k n : Nat} (h : ¬ szAn left k n < 0) : (k : Int) ≤ left ∧ (n : Int) ≤ left - k ∧ szAn left k n = left - k - n := by
  unfold szAn at h ⊢
  split at h
  · omega
  · rename_i h1
    obtain ⟨h2, h3⟩ := szA_fits h1
    obtain ⟨h4, h5⟩ := szA_fits h
    rw [if_neg h1]
    omega
def ansSameB (c v x s : Int) (t : ByteArray) (zs : List Int) (c' v' x' s' : Int) (t' : ByteArray) (ys : List Int) : Bool := c == c' && v == v' && x == x' && s == s' && t.toList == t'.toList && zs == ys
theorem ansSameB_refl (c v x s : Int) (t : ByteArray) (zs : List Int) : ansSameB c v x s t zs c v x s t zs = true := by simp [ansSameB]
/-- a row of bytes, converted to a string -/
theorem conv_row {P : Program} {w : World} {src dst e : TypeId} (hs : P.underlying src = some (.slice e)) (he : P.underlying e = some (.int .u8)) (hd : P.underlying dst = some .string) {a : Option Addr} {n : Nat} (cap : Nat) {zs : List Int} (hz : zs.length = n) (ha : RowAt .u8 w a zs) :
    (convert src dst (.slice a n cap)).run P w = .ok (.string (strOfNums zs)) w := by
  rcases ha with h | ⟨b, off, rfl, hb, hc⟩
  · subst h
    obtain rfl : n = 0 := hz.symm
    cases a with
    | none => exact run_convert_bytes_nil w src e hs he 0 cap dst hd
    | some a =>
      rw [run_convert_bytes_string w src dst e _ 0 cap hs he hd, run_bytesToString w a 0 cap [] (by have := run_loadCells_list (P := P) w a [] (fun j v hj => by simp at hj); simpa using this)]
      rfl
  · exact run_convert_bytes_arg w src e hs he b off n cap zs hz (fun i hi => hc i (by omega)) dst hd
theorem ofNat_inj8 {x y : Int} (hx : 0 ≤ x ∧ x ≤ 255) (hy : 0 ≤ y ∧ y ≤ 255) (h : UInt8.ofNat x.toNat = UInt8.ofNat y.toNat) : x = y := by
  have h2 : (UInt8.ofNat x.toNat).toNat = (UInt8.ofNat y.toNat).toNat := by rw [h]
  simp only [UInt8.toNat_ofNat'] at h2
  omega
theorem strOf_inj : ∀ {zs ys : List Int}, (∀ z ∈ zs, 0 ≤ z ∧ z ≤ 255) → (∀ z ∈ ys, 0 ≤ z ∧ z ≤ 255) → (zs.map fun n => UInt8.ofNat n.toNat) = (ys.map fun n => UInt8.ofNat n.toNat) → zs = ys
  | [], [], _, _, _ => rfl
  | [], _ :: _, _, _, h => by simp at h
  | _ :: _, [], _, _, h => by simp at h
  | x :: zs, y :: ys, h1, h2, h => by
    simp only [List.map_cons, List.cons.injEq] at h
    rw [ofNat_inj8 (h1 x (by simp)) (h2 y (by simp)) h.1, strOf_inj (fun z hz => h1 z (by simp [hz])) (fun z hz => h2 z (by simp [hz])) h.2]
theorem strOf_beq {zs ys : List Int} (h1 : ∀ z ∈ zs, 0 ≤ z ∧ z ≤ 255) (h2 : ∀ z ∈ ys, 0 ≤ z ∧ z ≤ 255) : ((strOfNums zs).toList == (strOfNums ys).toList) = (zs == ys) := by
  rw [ByteArray.toList_eq, ByteArray.toList_eq, strOfNums_data, strOfNums_data]
  by_cases h : zs = ys
  · subst h; simp
  · rw [beq_eq_false_iff_ne.2 h, beq_eq_false_iff_ne.2 (fun h3 => h (strOf_inj h1 h2 h3))]
set_option maxHeartbeats 400000 in
theorem szByteS_any (a : Option Addr) (n cap : Nat) (left : Int) (w : World) (hn : n ≤ 9223372036854775807) (hl : 0 ≤ left) (hl2 : left ≤ 1048576) :
    Calls Try.prog 59 #[.slice a n cap, .int .i64 left] w fun e w' => e = .returned (.int .i64 (szA left n)) ∧ w = w' := by
  by_cases h : left - (n : Int) < 0
  · have hs : szA left n = -1 := by unfold szA; rw [if_pos h]
    rw [hs]; clear hs
    go_enter Try.func59, Try.ntmps59
    go_wp2
    go_ret
    exact ⟨rfl, rfl⟩
  · have hs : szA left n = left - n := by unfold szA; rw [if_neg h]
    rw [hs]; clear hs
    go_enter Try.func59, Try.ntmps59
    go_wp2
    go_ret
    exact ⟨rfl, rfl⟩
set_option maxHeartbeats 400000 in
theorem szAnswer_any (c v x s : Int) (t : ByteArray) (a : Option Addr) (n ca : Nat) (left : Int) (w : World) (ht : t.size ≤ maxLen) (hn : n ≤ 9223372036854775807) (hl : 0 ≤ left) (hl2 : left ≤ 1048576) :
    Calls Try.prog 32 #[.agg #[.int .i64 c, .int .i64 v, .int .i64 x, .int .i64 s, .string t, .slice a n ca], .int .i64 left] w fun e w' => e = .returned (.int .i64 (szAn left t.size n)) ∧ Below w.heap.size w w' := by
  unfold maxLen at ht
  by_cases h : left - (t.size : Int) < 0
  · have hs : szAn left t.size n = -1 := by unfold szAn szA; rw [if_pos h, if_pos (by omega)]
    rw [hs]; clear hs
    go_enter Try.func32, Try.ntmps32
    go_wp2
    go_ret
    exact ⟨rfl, bl_alloc _ _⟩
  · have hs : szAn left t.size n = szA (left - t.size) n := by unfold szAn; rw [show szA left t.size = left - t.size by unfold szA; rw [if_neg h], if_neg h]
    rw [hs]; clear hs
    have hg := szA_ge (left - t.size) n
    by_cases h2 : szA (left - t.size) n < 0
    · have hs : szA (left - t.size) n = -1 := by omega
      have HS := Lib.hid hs; clear hs
      go_enter Try.func32, Try.ntmps32
      go_wp2_with (go_at_call 59; refine (szByteS_any _ _ _ _ _ hn (by omega) (by omega)).mono ?_; rintro e w2 ⟨rfl, rfl⟩)
      go_ret
      exact ⟨ret_int (by first | rfl | rw [HS.out]), bl_alloc _ _⟩
    · go_enter Try.func32, Try.ntmps32
      go_wp2_with (go_at_call 59; refine (szByteS_any _ _ _ _ _ hn (by omega) (by omega)).mono ?_; rintro e w2 ⟨rfl, rfl⟩)
      go_ret
      exact ⟨rfl, bl_alloc _ _⟩
/-- what a copied answer is: the same values, the same bytes, in memory of its own -/
def AnsRet (c v x s : Int) (t : ByteArray) (n : Nat) (zs : List Int) (w : World) : Ending → World → Prop := fun e w' =>
  ∃ B, e = .returned (.agg #[.int .i64 c, .int .i64 v, .int .i64 x, .int .i64 s, .string t, .slice (some ⟨B, 0, none⟩) n n]) ∧ RowAt .u8 w' (some ⟨B, 0, none⟩) zs ∧ Below w.heap.size w w'
set_option maxHeartbeats 400000 in
theorem toAnswer_any (c v x s : Int) (t : ByteArray) (a : Option Addr) (n ca : Nat) (zs : List Int) (w : World) (hz : zs.length = n) (hn : n ≤ 1048576) (ha : RowAt .u8 w a zs) :
    Calls Try.prog 34 #[.agg #[.int .i64 c, .int .i64 v, .int .i64 x, .int .i64 s, .string t, .slice a n ca]] w (AnsRet c v x s t n zs w) := by
  have HZ := Lib.hid hz; clear hz
  go_enter Try.func34, Try.ntmps34
  go_wp2_with fail
  refine (toByteS_eq _ _ _ zs _ HZ.out hn (ha.below (bl_al (bl_al (bl_alloc _ _) _) _))).mono ?_
  rintro e w2 ⟨rfl, rfl⟩
  go_wp2_with fail
  have r1 := rowAt_new .u8 zs (((w.alloc (.cells #[.int .i64 c, .int .i64 v, .int .i64 x, .int .i64 s, .string t, .slice a n ca] 46)).alloc (.cells #[.int .i64 c, .int .i64 v, .int .i64 x, .int .i64 s, .string t, .slice (some ⟨w.heap.size + 1 + 1 + 1, 0, none⟩) n n] 49)).alloc (.cells #[.int .i64 c, .int .i64 v, .int .i64 x, .int .i64 s, .string t, .slice (some ⟨w.heap.size + 1 + 1 + 1, 0, none⟩) n n] 49)) 5
  refine bodyPost_ret (v := .agg #[.int .i64 c, .int .i64 v, .int .i64 x, .int .i64 s, .string t, .slice (some ⟨w.heap.size + 1 + 1 + 1, 0, none⟩) n n]) (by simp [results, Try.results34, go_sem]) rfl ⟨_, rfl, ?_, bl_al (bl_al (bl_al (bl_alloc _ _) _) _) _⟩
  simpa using r1
set_option maxHeartbeats 400000 in
theorem sameBytes_any (a a' : Option Addr) (n m cap cap' : Nat) (zs ys : List Int) (w : World) (hz : zs.length = n) (hy : ys.length = m) (hn : n ≤ 1048576) (hm : m ≤ 1048576) (ha : RowAt .u8 w a zs) (ha' : RowAt .u8 w a' ys) :
    Calls Try.prog 60 #[.slice a n cap, .slice a' m cap'] w fun e w' => e = .returned (.bool (zs == ys)) ∧ Below w.heap.size w w' := by
  have HZ := Lib.hid hz; clear hz
  have HY := Lib.hid hy; clear hy
  by_cases hnm : n = m
  · subst hnm
    by_cases h0 : n = 0
    · subst h0
      have he : (zs == ys) = true := by rw [List.length_eq_zero_iff.1 HZ.out, List.length_eq_zero_iff.1 HY.out]; rfl
      rw [he]; clear he
      go_enter Try.func60, Try.ntmps60
      go_wp2
      go_loop [13] (fun i => i = .int .i64 0) (fun _ => 0)
      case atStart => rfl
      case round =>
        obtain rfl := hrel
        go_wp2
        go_ret
        exact ⟨rfl, Below.refl _ _⟩
    · rcases ha with h | ⟨b, off, rfl, hb, hc⟩
      · exfalso; rw [h] at HZ; exact h0 HZ.out.symm
      · rcases ha' with h | ⟨b', off', rfl, hb', hc'⟩
        · exfalso; rw [h] at HY; exact h0 HY.out.symm
        · have HC := Lib.hid hc; clear hc
          have HC' := Lib.hid hc'; clear hc'
          go_enter Try.func60, Try.ntmps60
          go_wp2
          go_loopw [13] (fun i wr => ∃ j : Nat, j ≤ n ∧ i = .int .i64 j ∧ zs.take j = ys.take j ∧ Below w.heap.size w wr) (fun i _ => n - (intOf i).toNat)
          case atStart => exact ⟨0, by omega, rfl, rfl, Below.refl _ _⟩
          case round =>
            obtain ⟨j, hj, rfl, ht, hB⟩ := hrel
            have HT := Lib.hid ht; clear ht
            by_cases hlt : j < n
            · have hci : wr.cell? ⟨b, off + j, none⟩ = some (.int .u8 (zs.getD j 0)) := (hB.cell (p := ⟨b, off + j, none⟩) hb).trans (HC.out j (by rw [HZ.out]; exact hlt))
              have hci' : wr.cell? ⟨b', off' + j, none⟩ = some (.int .u8 (ys.getD j 0)) := (hB.cell (p := ⟨b', off' + j, none⟩) hb').trans (HC'.out j (by rw [HY.out]; exact hlt))
              have hi1 : (j : Int) < (n : Int) := by omega
              have hi0 : (0 : Int) ≤ (j : Int) := by omega
              by_cases he : zs.getD j 0 = ys.getD j 0
              · have HS := Lib.hid (take_eq_step (by rw [HZ.out]; exact hlt) (by rw [HY.out]; exact hlt) HT.out he)
                have he' : (zs.getD j 0 != ys.getD j 0) = false := by rw [he]; simp
                generalize zs.getD j 0 = p at *
                generalize ys.getD j 0 = q at *
                clear he
                go_wp2_with fail
                go_quiet (fail)
                go_wp2
                go_roundw
                case rel => exact ⟨j + 1, by omega, by go_num, HS.out, bl_step hB (bl_drewN _ _)⟩
                case measure => simp [intOf]; omega
              · have HN := Lib.hid (ne_of_getD he)
                have he' : (zs.getD j 0 != ys.getD j 0) = true := by rw [bne_iff_ne]; exact he
                generalize zs.getD j 0 = p at *
                generalize ys.getD j 0 = q at *
                clear he
                go_wp2_with fail
                go_quiet (fail)
                go_wp2
                go_ret
                exact ⟨ret_bool HN.out.symm, bl_step hB (bl_drewN _ _)⟩
            · have he : (zs == ys) = true := by
                rw [beq_iff_eq]
                have := HT.out
                rwa [List.take_of_length_le (by rw [HZ.out]; omega), List.take_of_length_le (by rw [HY.out]; omega)] at this
              have HN := Lib.hid he; clear he
              go_wp2
              go_ret
              exact ⟨ret_bool HN.out.symm, hB⟩
  · have he : (zs == ys) = false := by
      rw [beq_eq_false_iff_ne]
      intro h
      exact hnm (by rw [← HZ.out, ← HY.out, h])
    rw [he]; clear he
    have hnm' : ((n : Int) != (m : Int)) = true := by rw [bne_iff_ne]; omega
    go_enter Try.func60, Try.ntmps60
    go_wp2
    go_ret
    exact ⟨rfl, Below.refl _ _⟩
set_option maxHeartbeats 1000000 in
theorem sAnswerSame_any (c v x s : Int) (t : ByteArray) (a : Option Addr) (n ca : Nat) (zs : List Int) (c' v' x' s' : Int) (t' : ByteArray) (b : Option Addr) (m cb : Nat) (ys : List Int) (w : World) (hz : zs.length = n) (hy : ys.length = m) (hn : n ≤ 1048576) (hm : m ≤ 1048576) (ha : RowAt .u8 w a zs) (hb : RowAt .u8 w b ys) (h8 : ∀ z ∈ zs, 0 ≤ z ∧ z ≤ 255) (h8' : ∀ z ∈ ys, 0 ≤ z ∧ z ≤ 255) :
    Calls Try.prog 33 #[.agg #[.int .i64 c, .int .i64 v, .int .i64 x, .int .i64 s, .string t, .slice a n ca], .agg #[.int .i64 c', .int .i64 v', .int .i64 x', .int .i64 s', .string t', .slice b m cb]] w fun e w' => e = .returned (.bool (ansSameB c v x s t zs c' v' x' s' t' ys)) ∧ Below w.heap.size w w' := by
  have hb2 := bl_al (bl_alloc w (.cells #[.int .i64 c, .int .i64 v, .int .i64 x, .int .i64 s, .string t, .slice a n ca] 49)) (.cells #[.int .i64 c', .int .i64 v', .int .i64 x', .int .i64 s', .string t', .slice b m cb] 49)
  have hv1 := conv_row (dst := 9) Try.underlying22 Try.underlying5 Try.underlying9 ca hz (ha.below hb2)
  have hv2 := conv_row (dst := 9) Try.underlying22 Try.underlying5 Try.underlying9 cb hy (hb.below hb2)
  have hsb := strOf_beq h8 h8'
  clear h8 h8'
  generalize strOfNums zs = S1 at *
  generalize strOfNums ys = S2 at *
  clear hz hy ha hb
  have HB := Lib.hid hb2; clear hb2
  cases h0 : (c == c')
  · have hr : ansSameB c v x s t zs c' v' x' s' t' ys = false := by unfold ansSameB; simp only [h0, Bool.true_and, Bool.false_and]
    rw [hr]; clear hr
    have k0 : (c != c') = true := by show (!(c == c')) = _; rw [h0]; rfl
    go_enter Try.func33, Try.ntmps33
    go_wp2
    go_ret
    exact ⟨rfl, HB.out⟩
  cases h1 : (v == v')
  · have hr : ansSameB c v x s t zs c' v' x' s' t' ys = false := by unfold ansSameB; simp only [h0, h1, Bool.true_and, Bool.false_and]
    rw [hr]; clear hr
    have k0 : (c != c') = false := by show (!(c == c')) = _; rw [h0]; rfl
    have k1 : (v != v') = true := by show (!(v == v')) = _; rw [h1]; rfl
    go_enter Try.func33, Try.ntmps33
    go_wp2
    go_ret
    exact ⟨rfl, HB.out⟩
  cases h2 : (x == x')
  · have hr : ansSameB c v x s t zs c' v' x' s' t' ys = false := by unfold ansSameB; simp only [h0, h1, h2, Bool.true_and, Bool.false_and]
    rw [hr]; clear hr
    have k0 : (c != c') = false := by show (!(c == c')) = _; rw [h0]; rfl
    have k1 : (v != v') = false := by show (!(v == v')) = _; rw [h1]; rfl
    have k2 : (x != x') = true := by show (!(x == x')) = _; rw [h2]; rfl
    go_enter Try.func33, Try.ntmps33
    go_wp2
    go_ret
    exact ⟨rfl, HB.out⟩
  cases h3 : (s == s')
  · have hr : ansSameB c v x s t zs c' v' x' s' t' ys = false := by unfold ansSameB; simp only [h0, h1, h2, h3, Bool.true_and, Bool.false_and]
    rw [hr]; clear hr
    have k0 : (c != c') = false := by show (!(c == c')) = _; rw [h0]; rfl
    have k1 : (v != v') = false := by show (!(v == v')) = _; rw [h1]; rfl
    have k2 : (x != x') = false := by show (!(x == x')) = _; rw [h2]; rfl
    have k3 : (s != s') = true := by show (!(s == s')) = _; rw [h3]; rfl
    go_enter Try.func33, Try.ntmps33
    go_wp2
    go_ret
    exact ⟨rfl, HB.out⟩
  cases h4 : (t.toList == t'.toList)
  · have hr : ansSameB c v x s t zs c' v' x' s' t' ys = false := by unfold ansSameB; simp only [h0, h1, h2, h3, h4, Bool.true_and, Bool.false_and]
    rw [hr]; clear hr
    have k0 : (c != c') = false := by show (!(c == c')) = _; rw [h0]; rfl
    have k1 : (v != v') = false := by show (!(v == v')) = _; rw [h1]; rfl
    have k2 : (x != x') = false := by show (!(x == x')) = _; rw [h2]; rfl
    have k3 : (s != s') = false := by show (!(s == s')) = _; rw [h3]; rfl
    go_enter Try.func33, Try.ntmps33
    go_wp2
    go_ret
    exact ⟨rfl, HB.out⟩
  have hr : ansSameB c v x s t zs c' v' x' s' t' ys = (zs == ys) := by unfold ansSameB; simp only [h0, h1, h2, h3, h4, Bool.true_and]
  rw [hr]; clear hr
  have k0 : (c != c') = false := by show (!(c == c')) = _; rw [h0]; rfl
  have k1 : (v != v') = false := by show (!(v == v')) = _; rw [h1]; rfl
  have k2 : (x != x') = false := by show (!(x == x')) = _; rw [h2]; rfl
  have k3 : (s != s') = false := by show (!(s == s')) = _; rw [h3]; rfl
  rw [← hsb]
  cases hq : (S1.toList == S2.toList)
  · clear hsb
    go_enter Try.func33, Try.ntmps33
    go_wp2
    go_ret
    exact ⟨rfl, HB.out⟩
  · clear hsb
    go_enter Try.func33, Try.ntmps33
    go_wp2
    go_ret
    exact ⟨rfl, HB.out⟩
set_option maxHeartbeats 1000000 in
theorem iAnswerSame_any (c v x s : Int) (t : ByteArray) (a : Option Addr) (n ca : Nat) (zs : List Int) (c' v' x' s' : Int) (t' : ByteArray) (b : Option Addr) (m cb : Nat) (ys : List Int) (w : World) (hz : zs.length = n) (hy : ys.length = m) (hn : n ≤ 1048576) (hm : m ≤ 1048576) (ha : RowAt .u8 w a zs) (hb : RowAt .u8 w b ys) :
    Calls Try.prog 35 #[.agg #[.int .i64 c, .int .i64 v, .int .i64 x, .int .i64 s, .string t, .slice a n ca], .agg #[.int .i64 c', .int .i64 v', .int .i64 x', .int .i64 s', .string t', .slice b m cb]] w fun e w' => e = .returned (.bool (ansSameB c v x s t zs c' v' x' s' t' ys)) ∧ Below w.heap.size w w' := by
  have hb2 := bl_al (bl_alloc w (.cells #[.int .i64 c, .int .i64 v, .int .i64 x, .int .i64 s, .string t, .slice a n ca] 49)) (.cells #[.int .i64 c', .int .i64 v', .int .i64 x', .int .i64 s', .string t', .slice b m cb] 49)
  have hc := sameBytes_any a b n m ca cb zs ys _ hz hy hn hm (ha.below hb2) (hb.below hb2)
  have HC := Lib.hid hc; clear hc
  clear hz hy ha hb
  have HB := Lib.hid hb2; clear hb2
  cases h0 : (c == c')
  · have hr : ansSameB c v x s t zs c' v' x' s' t' ys = false := by unfold ansSameB; simp only [h0, Bool.true_and, Bool.false_and]
    rw [hr]; clear hr
    have k0 : (c != c') = true := by show (!(c == c')) = _; rw [h0]; rfl
    go_enter Try.func35, Try.ntmps35
    go_wp2
    go_ret
    exact ⟨rfl, HB.out⟩
  cases h1 : (v == v')
  · have hr : ansSameB c v x s t zs c' v' x' s' t' ys = false := by unfold ansSameB; simp only [h0, h1, Bool.true_and, Bool.false_and]
    rw [hr]; clear hr
    have k0 : (c != c') = false := by show (!(c == c')) = _; rw [h0]; rfl
    have k1 : (v != v') = true := by show (!(v == v')) = _; rw [h1]; rfl
    go_enter Try.func35, Try.ntmps35
    go_wp2
    go_ret
    exact ⟨rfl, HB.out⟩
  cases h2 : (x == x')
  · have hr : ansSameB c v x s t zs c' v' x' s' t' ys = false := by unfold ansSameB; simp only [h0, h1, h2, Bool.true_and, Bool.false_and]
    rw [hr]; clear hr
    have k0 : (c != c') = false := by show (!(c == c')) = _; rw [h0]; rfl
    have k1 : (v != v') = false := by show (!(v == v')) = _; rw [h1]; rfl
    have k2 : (x != x') = true := by show (!(x == x')) = _; rw [h2]; rfl
    go_enter Try.func35, Try.ntmps35
    go_wp2
    go_ret
    exact ⟨rfl, HB.out⟩
  cases h3 : (s == s')
  · have hr : ansSameB c v x s t zs c' v' x' s' t' ys = false := by unfold ansSameB; simp only [h0, h1, h2, h3, Bool.true_and, Bool.false_and]
    rw [hr]; clear hr
    have k0 : (c != c') = false := by show (!(c == c')) = _; rw [h0]; rfl
    have k1 : (v != v') = false := by show (!(v == v')) = _; rw [h1]; rfl
    have k2 : (x != x') = false := by show (!(x == x')) = _; rw [h2]; rfl
    have k3 : (s != s') = true := by show (!(s == s')) = _; rw [h3]; rfl
    go_enter Try.func35, Try.ntmps35
    go_wp2
    go_ret
    exact ⟨rfl, HB.out⟩
  cases h4 : (t.toList == t'.toList)
  · have hr : ansSameB c v x s t zs c' v' x' s' t' ys = false := by unfold ansSameB; simp only [h0, h1, h2, h3, h4, Bool.true_and, Bool.false_and]
    rw [hr]; clear hr
    have k0 : (c != c') = false := by show (!(c == c')) = _; rw [h0]; rfl
    have k1 : (v != v') = false := by show (!(v == v')) = _; rw [h1]; rfl
    have k2 : (x != x') = false := by show (!(x == x')) = _; rw [h2]; rfl
    have k3 : (s != s') = false := by show (!(s == s')) = _; rw [h3]; rfl
    go_enter Try.func35, Try.ntmps35
    go_wp2
    go_ret
    exact ⟨rfl, HB.out⟩
  have hr : ansSameB c v x s t zs c' v' x' s' t' ys = (zs == ys) := by unfold ansSameB; simp only [h0, h1, h2, h3, h4, Bool.true_and]
  rw [hr]; clear hr
  have k0 : (c != c') = false := by show (!(c == c')) = _; rw [h0]; rfl
  have k1 : (v != v') = false := by show (!(v == v')) = _; rw [h1]; rfl
  have k2 : (x != x') = false := by show (!(x == x')) = _; rw [h2]; rfl
  have k3 : (s != s') = false := by show (!(s == s')) = _; rw [h3]; rfl
  cases hq : (zs == ys)
  · have hc := HC.out
    rw [hq] at hc
    have HD := Lib.hid hc; clear hc HC hq
    go_enter Try.func35, Try.ntmps35
    go_wp2_with fail
    refine HD.out.mono ?_
    rintro e w2 ⟨rfl, hb⟩
    go_wp2
    go_ret
    exact ⟨rfl, bl_step HB.out hb⟩
  · have hc := HC.out
    rw [hq] at hc
    have HD := Lib.hid hc; clear hc HC hq
    go_enter Try.func35, Try.ntmps35
    go_wp2_with fail
    refine HD.out.mono ?_
    rintro e w2 ⟨rfl, hb⟩
    go_wp2
    go_ret
    exact ⟨rfl, bl_step HB.out hb⟩
set_option maxHeartbeats 1000000 in
theorem eqAnswer_any (c v x s : Int) (t : ByteArray) (a : Option Addr) (n ca : Nat) (zs : List Int) (c' v' x' s' : Int) (t' : ByteArray) (b : Option Addr) (m cb : Nat) (ys : List Int) (w : World) (hz : zs.length = n) (hy : ys.length = m) (hn : n ≤ 1048576) (hm : m ≤ 1048576) (ha : RowAt .u8 w a zs) (hb : RowAt .u8 w b ys) :
    Calls Try.prog 36 #[.agg #[.int .i64 c, .int .i64 v, .int .i64 x, .int .i64 s, .string t, .slice a n ca], .agg #[.int .i64 c', .int .i64 v', .int .i64 x', .int .i64 s', .string t', .slice b m cb]] w fun e w' => e = .returned (.bool (ansSameB c v x s t zs c' v' x' s' t' ys)) ∧ Below w.heap.size w w' := by
  have hb2 := bl_al (bl_alloc w (.cells #[.int .i64 c, .int .i64 v, .int .i64 x, .int .i64 s, .string t, .slice a n ca] 49)) (.cells #[.int .i64 c', .int .i64 v', .int .i64 x', .int .i64 s', .string t', .slice b m cb] 49)
  have hc := eqByteS_any a b n m ca cb zs ys _ hz hy hn hm (ha.below hb2) (hb.below hb2)
  have HC := Lib.hid hc; clear hc
  clear hz hy ha hb
  have HB := Lib.hid hb2; clear hb2
  cases h0 : (c == c')
  · have hr : ansSameB c v x s t zs c' v' x' s' t' ys = false := by unfold ansSameB; simp only [h0, Bool.true_and, Bool.false_and]
    rw [hr]; clear hr
    have k0 : (c != c') = true := by show (!(c == c')) = _; rw [h0]; rfl
    go_enter Try.func36, Try.ntmps36
    go_wp2
    go_ret
    exact ⟨rfl, HB.out⟩
  cases h1 : (v == v')
  · have hr : ansSameB c v x s t zs c' v' x' s' t' ys = false := by unfold ansSameB; simp only [h0, h1, Bool.true_and, Bool.false_and]
    rw [hr]; clear hr
    have k0 : (c != c') = false := by show (!(c == c')) = _; rw [h0]; rfl
    have k1 : (v != v') = true := by show (!(v == v')) = _; rw [h1]; rfl
    go_enter Try.func36, Try.ntmps36
    go_wp2
    go_ret
    exact ⟨rfl, HB.out⟩
  cases h2 : (x == x')
  · have hr : ansSameB c v x s t zs c' v' x' s' t' ys = false := by unfold ansSameB; simp only [h0, h1, h2, Bool.true_and, Bool.false_and]
    rw [hr]; clear hr
    have k0 : (c != c') = false := by show (!(c == c')) = _; rw [h0]; rfl
    have k1 : (v != v') = false := by show (!(v == v')) = _; rw [h1]; rfl
    have k2 : (x != x') = true := by show (!(x == x')) = _; rw [h2]; rfl
    go_enter Try.func36, Try.ntmps36
    go_wp2
    go_ret
    exact ⟨rfl, HB.out⟩
  cases h3 : (s == s')
  · have hr : ansSameB c v x s t zs c' v' x' s' t' ys = false := by unfold ansSameB; simp only [h0, h1, h2, h3, Bool.true_and, Bool.false_and]
    rw [hr]; clear hr
    have k0 : (c != c') = false := by show (!(c == c')) = _; rw [h0]; rfl
    have k1 : (v != v') = false := by show (!(v == v')) = _; rw [h1]; rfl
    have k2 : (x != x') = false := by show (!(x == x')) = _; rw [h2]; rfl
    have k3 : (s != s') = true := by show (!(s == s')) = _; rw [h3]; rfl
    go_enter Try.func36, Try.ntmps36
    go_wp2
    go_ret
    exact ⟨rfl, HB.out⟩
  cases h4 : (t.toList == t'.toList)
  · have hr : ansSameB c v x s t zs c' v' x' s' t' ys = false := by unfold ansSameB; simp only [h0, h1, h2, h3, h4, Bool.true_and, Bool.false_and]
    rw [hr]; clear hr
    have k0 : (c != c') = false := by show (!(c == c')) = _; rw [h0]; rfl
    have k1 : (v != v') = false := by show (!(v == v')) = _; rw [h1]; rfl
    have k2 : (x != x') = false := by show (!(x == x')) = _; rw [h2]; rfl
    have k3 : (s != s') = false := by show (!(s == s')) = _; rw [h3]; rfl
    go_enter Try.func36, Try.ntmps36
    go_wp2
    go_ret
    exact ⟨rfl, HB.out⟩
  have hr : ansSameB c v x s t zs c' v' x' s' t' ys = (zs == ys) := by unfold ansSameB; simp only [h0, h1, h2, h3, h4, Bool.true_and]
  rw [hr]; clear hr
  have k0 : (c != c') = false := by show (!(c == c')) = _; rw [h0]; rfl
  have k1 : (v != v') = false := by show (!(v == v')) = _; rw [h1]; rfl
  have k2 : (x != x') = false := by show (!(x == x')) = _; rw [h2]; rfl
  have k3 : (s != s') = false := by show (!(s == s')) = _; rw [h3]; rfl
  cases hq : (zs == ys)
  · have hc := HC.out
    rw [hq] at hc
    have HD := Lib.hid hc; clear hc HC hq
    go_enter Try.func36, Try.ntmps36
    go_wp2_with fail
    refine HD.out.mono ?_
    rintro e w2 ⟨rfl, hb⟩
    go_wp2
    go_ret
    exact ⟨rfl, bl_step HB.out hb⟩
  · have hc := HC.out
    rw [hq] at hc
    have HD := Lib.hid hc; clear hc HC hq
    go_enter Try.func36, Try.ntmps36
    go_wp2_with fail
    refine HD.out.mono ?_
    rintro e w2 ⟨rfl, hb⟩
    go_wp2
    go_ret
    exact ⟨rfl, bl_step HB.out hb⟩
end Go.Proofs.Ytmgdfefffgjddaa
