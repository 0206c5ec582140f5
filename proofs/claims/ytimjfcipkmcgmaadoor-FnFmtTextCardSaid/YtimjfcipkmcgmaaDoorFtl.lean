/-
  PROVED: contracts of the draws of a format's text; the walk of the law of a format's text.
  CONDITIONS: none.
-/
import Derived.Test.YtimjfcipkmcgmaaDoorFtp
import Derived.Test.YtimjfcipkmcgmaaDoorFoi
import Derived.Test.YtimjfcipkmcgmaaDoorFol
import Derived.Test.YtimjfcipkmcgmaaDoorL6d
import Derived.Test.YtimjfcipkmcgmaaDoorNbl
namespace Go.Proofs.YtimjfcipkmcgmaaDoor
open Go.ChangeShapes Go.WideShapes Go.ChangeAt Go.RowKit
set_option linter.unusedVariables false
set_option linter.unusedSimpArgs false
def strSmall : Value → Bool
  | .string s => decide (s.size ≤ 100)
  | _ => false
theorem strSmall_is {x : Value} (h : strSmall x = true) : ∃ s, x = .string s := by
  unfold strSmall at h
  split at h
  · exact ⟨_, rfl⟩
  · cases h
theorem fmtL_len (s : Bool) (n l : Int) : (fmtL s n l).length ≤ 43 := by
  cases h : fmtOkB n l
  · rw [fmtL_no h]; simp
  · obtain ⟨⟨h1, h2⟩, h3, h4⟩ := (fmtOkB_iff n l).1 h
    have e1 := itoa_small (n := n - l) (by omega) (by omega)
    have e2 := itoa_small (n := l) (by omega) (by omega)
    rw [fmtL_yes h]
    cases s <;> simp <;> omega
set_option maxHeartbeats 2000000 in
theorem drawFmtText_any (S : Src) (w : World) (ha : RowAt .u8 w S.a S.l) : Calls Tryd.prog 11 #[.slice S.a S.n S.c] w fun e w' => ∃ (s : Bool) (n l : Int), e = .returned (.agg #[.bool s, .int .i64 n, .int .i64 l]) ∧ Below w.heap.size w w' := by
  have HC := Lib.hid (l1New_any S (w.alloc (.cells #[.bool false, .int .i64 0, .int .i64 0] 23)) (ha.below (bl_alloc _ _)))
  have HR0 := Lib.hid (heap_alloc_new w (.cells #[.bool false, .int .i64 0, .int .i64 0] 23))
  clear ha
  go_enter Tryd.func11, Tryd.ntmps11
  go_wp2_with fail
  refine HC.out.mono ?_
  rintro e w1 ⟨rfl, hc, hb⟩
  have e1 : (w.alloc (.cells #[.bool false, .int .i64 0, .int .i64 0] 23)).heap.size = w.heap.size + 1 := by simp
  have hR1 := (hb.block w.heap.size (by omega)).trans HR0.out
  have HR1 := Lib.hid hR1
  have HB := Lib.hid (bl_step (bl_alloc w _) hb)
  rw [e1] at hc
  have HCU := Lib.hid hc
  clear hc hb hR1 e1 HC
  go_wp2_with fail
  refine (l6Draw_any w1 (w.heap.size + 1) S _ _ HCU.out).mono ?_
  rintro e w2 ⟨s, n, l, rfl, _, ho⟩
  have hR2 := (ho.block w.heap.size (lt_of_heap HR1.out) (fun e => by injection e with e; omega)).trans HR1.out
  have r0 := cell_of_heap hR2
  have rf := free_of_heap hR2
  obtain ⟨g0, g1, g2⟩ := set3h hR2 (.bool s) (.int .i64 n) (.int .i64 l)
  have HB2 := Lib.hid (below_only HB.out ho (by omega))
  clear ho
  go_wp2_with fail
  try simp only [Exit.inBlock, Exit.then]
  refine bodyPost_ret (v := .agg #[.bool s, .int .i64 n, .int .i64 l]) (by simp [results, Tryd.results11, go_sem, g0, g1, g2]) rfl ?_
  exact ⟨_, _, _, rfl, below_out HB2.out (out_three (w := w2) (r := w.heap.size) _ _ _) (Nat.le_refl _)⟩
set_option maxHeartbeats 2000000 in
theorem drawFmtOf_any (S : Src) (w : World) (ha : RowAt .u8 w S.a S.l) : Calls Tryd.prog 13 #[.slice S.a S.n S.c] w fun e w' => ∃ t : ByteArray, e = .returned (.string t) ∧ t.size ≤ 100 ∧ Below w.heap.size w w' := by
  have HC := Lib.hid (l1New_any S w ha); clear ha
  go_enter Tryd.func13, Tryd.ntmps13
  go_wp2_with fail
  refine HC.out.mono ?_
  rintro e w1 ⟨rfl, hc, hb⟩
  have HCU := Lib.hid hc; clear hc
  go_wp2_with fail
  refine (l6Draw_any w1 w.heap.size S _ _ HCU.out).mono ?_
  rintro e w2 ⟨s, n, l, rfl, ⟨i2, h2, hc2⟩, ho⟩
  have HB2 := Lib.hid (below_only hb ho (Nat.le_refl _))
  have HC2 := Lib.hid hc2
  clear hc2 ho hb
  have hlen := fmtL_len s n l
  have HT := Lib.hid (fun W : World => sFmtText_any s n l W)
  obtain ⟨t, ht⟩ : ∃ t : ByteArray, t = ⟨(fmtL s n l).toArray⟩ := ⟨_, rfl⟩
  have hts : t.size ≤ 100 := by rw [ht]; simp [ByteArray.size]; omega
  rw [← ht] at HT
  clear ht hlen
  go_wp2_with fail
  refine (HT.out _).mono ?_
  rintro e w3 ⟨rfl, hb3⟩
  have HB3 := Lib.hid (bl_step HB2.out hb3)
  have HC3 := Lib.hid (HC2.out.below hb3)
  clear hb3
  go_wp2_with fail
  refine (l1Once_any w3 w.heap.size S _ _ 3 HC3.out).mono ?_
  rintro e w4 ⟨o, i4, h4, rfl, hc4, ho4⟩
  have HC4 := Lib.hid hc4
  have HB4 := Lib.hid (below_only HB3.out ho4 (Nat.le_refl _))
  clear hc4 ho4
  cases o
  · go_wp2_with fail
    go_ret
    exact ⟨_, rfl, hts, HB4.out⟩
  · go_wp2_with fail
    refine (pickV w4 w.heap.size S _ _ _ 14 _ HC4.out ?_ (by omega) (by omega) (fun x hx => strSmall_is (List.all_eq_true.1 ?_ x hx))).mono ?_
    · rfl
    · rfl
    rintro e w5 ⟨q, i5, h5, rfl, hm, _, ho5⟩
    have hq : q.size ≤ 100 := by
      have hall := List.all_eq_true.1 (show List.all _ strSmall = true from (by rfl)) _ hm
      exact of_decide_eq_true hall
    clear hm
    go_wp2_with fail
    go_ret
    exact ⟨_, rfl, hq, below_only HB4.out ho5 (Nat.le_refl _)⟩
set_option maxRecDepth 100000 in
set_option maxHeartbeats 8000000 in
theorem walkFnFmtText (a0 : Option Addr) (len0 cap0 : Nat) (z0 : List Int) (w : World) (w0 : IsRow .u8 w a0 len0 cap0 z0) (ht : Lib.TabIs Tryd.prog w "internal/strconv.uint64pow10" .u64 Lib.pow10Tab) (mx : Int) (hmx : w.cell? ⟨0, 0, none⟩ = some (.int .i64 mx)) :
    Calls Tryd.prog 4 #[.slice a0 len0 cap0] w fun e w' => e = .returned (.bool true) ∧ Below w.heap.size w w' := by
  have HML := Lib.hid (lt_of_cell hmx)
  have HMX := Lib.hid hmx
  have HTB := Lib.hid (Lib.tabBelow_of_tabIs ht)
  clear hmx ht
  obtain ⟨ha, hlen, hwf⟩ := w0.rowAt
  have hby : ∀ z ∈ z0.take len0, 0 ≤ z ∧ z ≤ 255 := fun z hz => bounds_u8 (hwf z hz)
  clear w0 hwf
  generalize z0.take len0 = z0 at *
  by_cases hbg : (len0 : Int) > 1048576
  · have hd : decide ((len0 : Int) > 1048576) = true := decide_eq_true hbg
    clear ha hby
    go_enter Tryd.func4, Tryd.ntmps4
    go_wp2_with fail
    refine (big_any _ _ _ _).mono ?_
    rintro e w1 ⟨rfl, rfl⟩
    rw [hd]
    go_wp2
    go_ret
    exact ⟨rfl, Below.refl _ _⟩
  · have hd : decide ((len0 : Int) > 1048576) = false := decide_eq_false hbg
    obtain ⟨S, rfl, rfl, rfl, rfl⟩ : ∃ S : Src, S.a = a0 ∧ S.n = len0 ∧ S.c = cap0 ∧ S.l = z0 := ⟨⟨a0, len0, cap0, z0, hlen, by omega, hby⟩, rfl, rfl, rfl, rfl⟩
    have HA := Lib.hid ha
    clear ha hby hlen hbg
    have HFO := Lib.hid (fun (t : ByteArray) (ht : t.size ≤ 100) (W : World) (hW : Below w.heap.size w W) => iFmtOf_any t mx W (by omega) ((hW.cell (p := ⟨0, 0, none⟩) HML.out).trans HMX.out) (Nat.lt_of_lt_of_le HML.out hW.size) (HTB.out _ hW))
    have HFT := Lib.hid (fun (s : Bool) (n l : Int) (W : World) (hW : Below w.heap.size w W) => iFmtText_any s n l W (HTB.out _ hW))
    clear HML HMX HTB
    go_enter Tryd.func4, Tryd.ntmps4
    go_wp2_with fail
    refine (big_any _ _ _ _).mono ?_
    rintro e w1 ⟨rfl, rfl⟩
    rw [hd]
    clear hd
    go_wp2_with fail
    refine (drawFmtText_any S w HA.out).mono ?_
    rintro e w1 ⟨s, n, l, rfl, hb1⟩
    have hts := fmtL_len s n l
    have HRT := Lib.hid (fun h => read_text (s := s) (n := n) (l := l) h)
    have HRN := Lib.hid (fun h => read_none (s := s) (n := n) (l := l) h)
    have HT1 := Lib.hid (fun W hW => HFT.out s n l W hW)
    obtain ⟨t, ht⟩ : ∃ t : ByteArray, t = ⟨(fmtL s n l).toArray⟩ := ⟨_, rfl⟩
    have hsz : t.size ≤ 100 := by rw [ht]; simp [ByteArray.size]; omega
    rw [← ht] at HRT HRN HT1
    clear ht hts
    have T1 := bl_al hb1 (.cells #[.bool s, .int .i64 n, .int .i64 l] 23)
    have BF1 := BoxAt.new w1 #[.bool s, .int .i64 n, .int .i64 l] 23
    obtain ⟨F, hF⟩ : ∃ F, F = w1.heap.size := ⟨_, rfl⟩
    rw [← hF] at BF1
    go_wp2_with fail
    refine (HT1.out _ T1).mono ?_
    rintro e w2 ⟨rfl, hb2⟩
    have T2 := bl_step T1 hb2
    have BF2 := BF1.below hb2
    clear hb1 hb2 T1 BF1 HT1
    have HO1 := Lib.hid (HFO.out t hsz w2 T2)
    rw [← hF]
    clear hF
    generalize fV t = V1 at *
    cases hfm : fmtOkB n l
    · have e1 : V1 = _ := HRN.out hfm
      subst e1
      go_wp2_with fail
      refine HO1.out.mono ?_
      rintro e w3 ⟨rfl, hb3⟩
      have T3 := bl_al (bl_step T2 hb3) (.cells #[.bool false, .int .i64 0, .int .i64 0] 23)
      have BF3 := BF2.below (bl_step hb3 (bl_alloc w3 (.cells #[.bool false, .int .i64 0, .int .i64 0] 23)))
      have BG3 := BoxAt.new w3 #[.bool false, .int .i64 0, .int .i64 0] 23
      obtain ⟨Gb, hGb⟩ : ∃ Gb, Gb = w3.heap.size := ⟨_, rfl⟩
      rw [← hGb] at BG3
      go_wp2_with fail
      refine (drawFmtOf_any S _ (HA.out.below T3)).mono ?_
      rintro e w4 ⟨t2, rfl, ht2, hb4⟩
      rw [← hGb]
      clear hGb
      have T4 := bl_step T3 hb4
      have BF4 := BF3.below hb4
      have BG4 := BG3.below hb4
      have HO2 := Lib.hid (HFO.out t2 ht2 w4 T4)
      have HO3 := Lib.hid (fun W : World => sFmtOf_any t2 W (by omega))
      have HTH0 : Hid (fOk t2 = true → (⟨(fmtL (fS t2) (fW t2) (fF t2)).toArray⟩ : ByteArray) = t2) := fun h => by
        rw [text_read h]
      unfold fV at HO2 HO3
      generalize fS t2 = hs at *
      generalize fW t2 = hn at *
      generalize fF t2 = hl at *
      generalize fOk t2 = ok2 at *
      clear hb3 hb4 T2 T3 BF2 BF3 BG3 HO1
      go_wp2_with fail
      refine HO2.out.mono ?_
      rintro e w5 ⟨rfl, hb5⟩
      have T5 := bl_al (bl_step T4 hb5) (.cells #[.bool hs, .int .i64 hn, .int .i64 hl] 23)
      have BF5 := BF4.below (bl_step hb5 (bl_alloc w5 (.cells #[.bool hs, .int .i64 hn, .int .i64 hl] 23)))
      have BG5 := BG4.below (bl_step hb5 (bl_alloc w5 (.cells #[.bool hs, .int .i64 hn, .int .i64 hl] 23)))
      have BH5 := BoxAt.new w5 #[.bool hs, .int .i64 hn, .int .i64 hl] 23
      obtain ⟨Hb, hHb⟩ : ∃ Hb, Hb = w5.heap.size := ⟨_, rfl⟩
      rw [← hHb] at BH5
      go_wp2_with fail
      refine (HO3.out _).mono ?_
      rintro e w6 ⟨rfl, hb6⟩
      rw [← hHb]
      clear hHb
      have T6 := bl_step T5 hb6
      have BF6 := BF5.below hb6
      have BG6 := BG5.below hb6
      have BH6 := BH5.below hb6
      obtain ⟨p0, p1, p2⟩ := three_at BF6.cell
      have hpl := BF6.lt
      clear hb5 hb6 T4 T5 BF4 BF5 BG4 BG5 BH5 HO2 HO3
      have HK := Lib.hid (fun W : World => sfmtOk_eq s n l W hfm)
      go_wp2_with fail
      refine (HK.out _).mono ?_
      rintro e w7 ⟨rfl, hb7⟩
      have hb67 := bl_step (bl_alloc w6 _) hb7
      have T7 := bl_step T6 hb67
      have BF7 := BF6.below hb67
      have BG7 := BG6.below hb67
      have BH7 := BH6.below hb67
      obtain ⟨q0, q1, q2⟩ := three_at BF7.cell
      obtain ⟨y0, y1, y2⟩ := three_at BG7.cell
      have hok2 : (ok2 != ok2) = false := by cases ok2 <;> rfl
      clear hb7 hb67 T6 BF6 BG6 BH6 p0 p1 p2 hpl HK
      have hl0 := (least_no (s := s) hfm).1
      have hm0 := (least_no (s := s) hfm).2
      have HLE := Lib.hid (fun W : World => iLeast_any s n l W)
      have HMO := Lib.hid (fun W : World => iMost_any s n l W)
      rw [hl0] at HLE
      rw [hm0] at HMO
      clear hl0 hm0
      go_wp2_with fail
      refine (HLE.out _).mono ?_
      rintro e w8 ⟨rfl, hb8⟩
      obtain ⟨x0, x1, x2⟩ := three_at (BF7.below hb8).cell
      go_wp2_with fail
      refine (HMO.out _).mono ?_
      rintro e w9 ⟨rfl, hb9⟩
      go_wp2_with fail
      go_ret
      exact ⟨rfl, bl_step T7 (bl_step hb8 hb9)⟩
    · have e1 : V1 = _ := HRT.out hfm
      subst e1
      go_wp2_with fail
      refine HO1.out.mono ?_
      rintro e w3 ⟨rfl, hb3⟩
      have T3 := bl_al (bl_step T2 hb3) (.cells #[.bool s, .int .i64 n, .int .i64 l] 23)
      have BF3 := BF2.below (bl_step hb3 (bl_alloc w3 (.cells #[.bool s, .int .i64 n, .int .i64 l] 23)))
      have BG3 := BoxAt.new w3 #[.bool s, .int .i64 n, .int .i64 l] 23
      obtain ⟨Gb, hGb⟩ : ∃ Gb, Gb = w3.heap.size := ⟨_, rfl⟩
      rw [← hGb] at BG3
      go_wp2_with fail
      refine (drawFmtOf_any S _ (HA.out.below T3)).mono ?_
      rintro e w4 ⟨t2, rfl, ht2, hb4⟩
      rw [← hGb]
      clear hGb
      have T4 := bl_step T3 hb4
      have BF4 := BF3.below hb4
      have BG4 := BG3.below hb4
      have HO2 := Lib.hid (HFO.out t2 ht2 w4 T4)
      have HO3 := Lib.hid (fun W : World => sFmtOf_any t2 W (by omega))
      have HTH0 : Hid (fOk t2 = true → (⟨(fmtL (fS t2) (fW t2) (fF t2)).toArray⟩ : ByteArray) = t2) := fun h => by
        rw [text_read h]
      unfold fV at HO2 HO3
      generalize fS t2 = hs at *
      generalize fW t2 = hn at *
      generalize fF t2 = hl at *
      generalize fOk t2 = ok2 at *
      clear hb3 hb4 T2 T3 BF2 BF3 BG3 HO1
      go_wp2_with fail
      refine HO2.out.mono ?_
      rintro e w5 ⟨rfl, hb5⟩
      have T5 := bl_al (bl_step T4 hb5) (.cells #[.bool hs, .int .i64 hn, .int .i64 hl] 23)
      have BF5 := BF4.below (bl_step hb5 (bl_alloc w5 (.cells #[.bool hs, .int .i64 hn, .int .i64 hl] 23)))
      have BG5 := BG4.below (bl_step hb5 (bl_alloc w5 (.cells #[.bool hs, .int .i64 hn, .int .i64 hl] 23)))
      have BH5 := BoxAt.new w5 #[.bool hs, .int .i64 hn, .int .i64 hl] 23
      obtain ⟨Hb, hHb⟩ : ∃ Hb, Hb = w5.heap.size := ⟨_, rfl⟩
      rw [← hHb] at BH5
      go_wp2_with fail
      refine (HO3.out _).mono ?_
      rintro e w6 ⟨rfl, hb6⟩
      rw [← hHb]
      clear hHb
      have T6 := bl_step T5 hb6
      have BF6 := BF5.below hb6
      have BG6 := BG5.below hb6
      have BH6 := BH5.below hb6
      obtain ⟨p0, p1, p2⟩ := three_at BF6.cell
      have hpl := BF6.lt
      clear hb5 hb6 T4 T5 BF4 BF5 BG4 BG5 BH5 HO2 HO3
      have HK := Lib.hid (fun W : World => sfmtOk_eq s n l W hfm)
      go_wp2_with fail
      refine (HK.out _).mono ?_
      rintro e w7 ⟨rfl, hb7⟩
      have hb67 := bl_step (bl_alloc w6 _) hb7
      have T7 := bl_step T6 hb67
      have BF7 := BF6.below hb67
      have BG7 := BG6.below hb67
      have BH7 := BH6.below hb67
      obtain ⟨q0, q1, q2⟩ := three_at BF7.cell
      obtain ⟨y0, y1, y2⟩ := three_at BG7.cell
      have hok2 : (ok2 != ok2) = false := by cases ok2 <;> rfl
      clear hb7 hb67 T6 BF6 BG6 BH6 p0 p1 p2 hpl HK
      have hlb := (leastB_bd s n l).2
      have hmp := most_pos (s := s) hfm
      have hlb2 := (leastB_bd s n l).1
      have hmp2 := (mostB_bd s n l).2
      obtain ⟨hr1, hr2, hr3⟩ := raw_most (s := s) hfm
      have HLE := Lib.hid (fun W : World => iLeast_any s n l W)
      have HMO := Lib.hid (fun W : World => iMost_any s n l W)
      have HR1 := Lib.hid (fun W : World => iRawOk_any s n l (mostB s n l) W)
      have HR2 := Lib.hid (fun W : World => iRawOk_any s n l (mostB s n l + 1) W)
      have HR3 := Lib.hid (fun W : World => iRawOk_any s n l (leastB s n l - 1) W)
      rw [hr1] at HR1
      rw [hr2] at HR2
      rw [hr3] at HR3
      clear hr1 hr2 hr3
      generalize leastB s n l = lb at *
      generalize mostB s n l = mb at *
      have hw1 : IntKind.i64.wrap (mb + 1) = mb + 1 := IntWalk.i64_in _ ⟨by omega, by omega⟩
      have hw2 : IntKind.i64.wrap (lb - 1) = lb - 1 := IntWalk.i64_in _ ⟨by omega, by omega⟩
      cases ho2 : ok2
      · subst ho2
        have Bs : Below w7.heap.size w7 w7.drew := bl_drew w7
        have ks := three_at (BF7.below Bs).cell
        go_wp2_with fail
        refine wp_region_held_drew (S := fun w' => (w'.cell? ⟨F, 0, none⟩ = some (.bool s) ∧ w'.cell? ⟨F, 1, none⟩ = some (.int .i64 n) ∧ w'.cell? ⟨F, 2, none⟩ = some (.int .i64 l))) (by kernel_rfl) ?_ (fun hHeld => ?_)
        · exact ks
        refine wpAnyH_take (i := 0) (oi := _) (v := ?v0) rfl (by kernel_rfl) (by kernel_rfl) (by kernel_rfl) (fun _ _ _ h => h) (Or.inl ⟨by rfl, ?hy0⟩) (by assumption) ?rest0
        case hy0 => (intro w' hSw; (try dsimp only at hSw); go_simp; (try with_reducible rfl))
        try simp only [Act.put, List.setIfInBounds_toArray, List.set_cons_zero, List.set_cons_succ, List.getElem_toArray, List.getElem_cons_succ, List.getElem_cons_zero]
        refine wpAnyH_take (i := 1) (oi := _) (v := ?v1) rfl (by kernel_rfl) (by kernel_rfl) (by kernel_rfl) (fun _ _ _ h => h) (Or.inl ⟨by rfl, ?hy1⟩) (by assumption) ?rest1
        case hy1 => (intro w' hSw; (try dsimp only at hSw); go_simp; (try with_reducible rfl))
        try simp only [Act.put, List.setIfInBounds_toArray, List.set_cons_zero, List.set_cons_succ, List.getElem_toArray, List.getElem_cons_succ, List.getElem_cons_zero]
        refine wpAnyH_take (i := 2) (oi := _) (v := ?v2) rfl (by kernel_rfl) (by kernel_rfl) (by kernel_rfl) (fun _ _ _ h => h) (Or.inl ⟨by rfl, ?hy2⟩) (by assumption) ?rest2
        case hy2 => (intro w' hSw; (try dsimp only at hSw); go_simp; (try with_reducible rfl))
        try simp only [Act.put, List.setIfInBounds_toArray, List.set_cons_zero, List.set_cons_succ, List.getElem_toArray, List.getElem_cons_succ, List.getElem_cons_zero]
        refine wpAnyH_take (i := 3) (oi := _) (v := undef) rfl (by kernel_rfl) (by kernel_rfl) (by kernel_rfl) (fun _ _ _ h => h) (Or.inr ⟨by rfl, rfl⟩) (by assumption) ?_
        try simp only [Act.put, List.setIfInBounds_toArray, List.set_cons_zero, List.set_cons_succ, List.getElem_toArray, List.getElem_cons_succ, List.getElem_cons_zero]
        refine wpAnyH_take (i := 5) (oi := _) (v := undef) rfl (by kernel_rfl) (by kernel_rfl) (by kernel_rfl) (fun _ _ _ h => h) (Or.inr ⟨by rfl, rfl⟩) (by assumption) ?_
        try simp only [Act.put, List.setIfInBounds_toArray, List.set_cons_zero, List.set_cons_succ, List.getElem_toArray, List.getElem_cons_succ, List.getElem_cons_zero]
        refine wpAnyH_ready (rs := [4]) (by kernel_rfl) (by simp) ?_
        refine AllReadyH.cons (o := _) rfl (fun K hK => ?_) AllReadyH.nil
        go_simp
        refine hK.out _ _ hHeld (fun hHeld => ?_)
        clear hK K
        try simp only [Act.put, List.setIfInBounds_toArray, List.set_cons_zero, List.set_cons_succ, List.getElem_toArray, List.getElem_cons_succ, List.getElem_cons_zero]
        refine wpAnyH_take (i := 6) (oi := _) (v := undef) rfl (by kernel_rfl) (by kernel_rfl) (by kernel_rfl) (fun _ _ _ h => h) (Or.inr ⟨by rfl, rfl⟩) (by assumption) ?_
        try simp only [Act.put, List.setIfInBounds_toArray, List.set_cons_zero, List.set_cons_succ, List.getElem_toArray, List.getElem_cons_succ, List.getElem_cons_zero]
        refine wpAnyH_take (i := 7) (oi := _) (v := ?v7) rfl (by kernel_rfl) (by kernel_rfl) (by kernel_rfl) (fun _ _ _ h => h) (Or.inl ⟨by rfl, ?hy7⟩) (by assumption) ?rest7
        case hy7 => (intro w' hSw; (try dsimp only at hSw); go_simp; (try with_reducible rfl))
        try simp only [Act.put, List.setIfInBounds_toArray, List.set_cons_zero, List.set_cons_succ, List.getElem_toArray, List.getElem_cons_succ, List.getElem_cons_zero]
        refine wpAnyH_take (i := 8) (oi := _) (v := ?v8) rfl (by kernel_rfl) (by kernel_rfl) (by kernel_rfl) (fun _ _ _ h => h) (Or.inl ⟨by rfl, ?hy8⟩) (by assumption) ?rest8
        case hy8 => (intro w' hSw; (try dsimp only at hSw); go_simp; (try with_reducible rfl))
        try simp only [Act.put, List.setIfInBounds_toArray, List.set_cons_zero, List.set_cons_succ, List.getElem_toArray, List.getElem_cons_succ, List.getElem_cons_zero]
        refine wpAnyH_take (i := 9) (oi := _) (v := ?v9) rfl (by kernel_rfl) (by kernel_rfl) (by kernel_rfl) (fun _ _ _ h => h) (Or.inl ⟨by rfl, ?hy9⟩) (by assumption) ?rest9
        case hy9 => (intro w' hSw; (try dsimp only at hSw); go_simp; (try with_reducible rfl))
        try simp only [Act.put, List.setIfInBounds_toArray, List.set_cons_zero, List.set_cons_succ, List.getElem_toArray, List.getElem_cons_succ, List.getElem_cons_zero]
        refine wpAnyH_ready (rs := [10]) (by kernel_rfl) (by simp) ?_
        refine AllReadyH.cons (o := _) rfl (fun K hK => ?_) AllReadyH.nil
        go_simp
        refine (HLE.out _).mono ?_
        rintro e u10 ⟨rfl, hbq⟩
        have B1 := bl_step Bs hbq
        clear hbq
        go_wp2_with fail
        refine hK.out _ _ (three_at (BF7.below (B1)).cell) (fun hHeld => ?_)
        clear hK K
        try simp only [Act.put, List.setIfInBounds_toArray, List.set_cons_zero, List.set_cons_succ, List.getElem_toArray, List.getElem_cons_succ, List.getElem_cons_zero]
        refine wpAnyH_take (i := 11) (oi := _) (v := ?v11) rfl (by kernel_rfl) (by kernel_rfl) (by kernel_rfl) (fun _ _ _ h => h) (Or.inl ⟨by rfl, ?hy11⟩) (by assumption) ?rest11
        case hy11 => (intro w' hSw; (try dsimp only at hSw); go_simp; (try with_reducible rfl))
        try simp only [Act.put, List.setIfInBounds_toArray, List.set_cons_zero, List.set_cons_succ, List.getElem_toArray, List.getElem_cons_succ, List.getElem_cons_zero]
        refine wpAnyH_take (i := 12) (oi := _) (v := ?v12) rfl (by kernel_rfl) (by kernel_rfl) (by kernel_rfl) (fun _ _ _ h => h) (Or.inl ⟨by rfl, ?hy12⟩) (by assumption) ?rest12
        case hy12 => (intro w' hSw; (try dsimp only at hSw); go_simp; (try with_reducible rfl))
        try simp only [Act.put, List.setIfInBounds_toArray, List.set_cons_zero, List.set_cons_succ, List.getElem_toArray, List.getElem_cons_succ, List.getElem_cons_zero]
        refine wpAnyH_take (i := 13) (oi := _) (v := ?v13) rfl (by kernel_rfl) (by kernel_rfl) (by kernel_rfl) (fun _ _ _ h => h) (Or.inl ⟨by rfl, ?hy13⟩) (by assumption) ?rest13
        case hy13 => (intro w' hSw; (try dsimp only at hSw); go_simp; (try with_reducible rfl))
        try simp only [Act.put, List.setIfInBounds_toArray, List.set_cons_zero, List.set_cons_succ, List.getElem_toArray, List.getElem_cons_succ, List.getElem_cons_zero]
        refine wpAnyH_take (i := 14) (oi := _) (v := ?v14) rfl (by kernel_rfl) (by kernel_rfl) (by kernel_rfl) (fun _ _ _ h => h) (Or.inl ⟨by rfl, ?hy14⟩) (by assumption) ?rest14
        case hy14 => (intro w' hSw; (try dsimp only at hSw); go_simp; (try with_reducible rfl))
        try simp only [Act.put, List.setIfInBounds_toArray, List.set_cons_zero, List.set_cons_succ, List.getElem_toArray, List.getElem_cons_succ, List.getElem_cons_zero]
        refine wpAnyH_ready (rs := [15]) (by kernel_rfl) (by simp) ?_
        refine AllReadyH.cons (o := _) rfl (fun K hK => ?_) AllReadyH.nil
        go_simp
        refine (HMO.out _).mono ?_
        rintro e u15 ⟨rfl, hbq⟩
        have B2 := bl_step B1 hbq
        clear hbq
        go_wp2_with fail
        refine hK.out _ _ (three_at (BF7.below (B2)).cell) (fun hHeld => ?_)
        clear hK K
        try simp only [Act.put, List.setIfInBounds_toArray, List.set_cons_zero, List.set_cons_succ, List.getElem_toArray, List.getElem_cons_succ, List.getElem_cons_zero]
        refine wpAnyH_take (i := 16) (oi := _) (v := ?v16) rfl (by kernel_rfl) (by kernel_rfl) (by kernel_rfl) (fun _ _ _ h => h) (Or.inl ⟨by rfl, ?hy16⟩) (by assumption) ?rest16
        case hy16 => (intro w' hSw; (try dsimp only at hSw); go_simp; (try with_reducible rfl))
        try simp only [Act.put, List.setIfInBounds_toArray, List.set_cons_zero, List.set_cons_succ, List.getElem_toArray, List.getElem_cons_succ, List.getElem_cons_zero]
        refine wpAnyH_take (i := 17) (oi := _) (v := ?v17) rfl (by kernel_rfl) (by kernel_rfl) (by kernel_rfl) (fun _ _ _ h => h) (Or.inl ⟨by rfl, ?hy17⟩) (by assumption) ?rest17
        case hy17 => (intro w' hSw; (try dsimp only at hSw); go_simp; (try with_reducible rfl))
        try simp only [Act.put, List.setIfInBounds_toArray, List.set_cons_zero, List.set_cons_succ, List.getElem_toArray, List.getElem_cons_succ, List.getElem_cons_zero]
        refine wpAnyH_take (i := 18) (oi := _) (v := ?v18) rfl (by kernel_rfl) (by kernel_rfl) (by kernel_rfl) (fun _ _ _ h => h) (Or.inl ⟨by rfl, ?hy18⟩) (by assumption) ?rest18
        case hy18 => (intro w' hSw; (try dsimp only at hSw); go_simp; (try with_reducible rfl))
        try simp only [Act.put, List.setIfInBounds_toArray, List.set_cons_zero, List.set_cons_succ, List.getElem_toArray, List.getElem_cons_succ, List.getElem_cons_zero]
        refine wpAnyH_take (i := 19) (oi := _) (v := ?v19) rfl (by kernel_rfl) (by kernel_rfl) (by kernel_rfl) (fun _ _ _ h => h) (Or.inl ⟨by rfl, ?hy19⟩) (by assumption) ?rest19
        case hy19 => (intro w' hSw; (try dsimp only at hSw); go_simp; (try with_reducible rfl))
        try simp only [Act.put, List.setIfInBounds_toArray, List.set_cons_zero, List.set_cons_succ, List.getElem_toArray, List.getElem_cons_succ, List.getElem_cons_zero]
        refine wpAnyH_take (i := 20) (oi := _) (v := ?v20) rfl (by kernel_rfl) (by kernel_rfl) (by kernel_rfl) (fun _ _ _ h => h) (Or.inl ⟨by rfl, ?hy20⟩) (by assumption) ?rest20
        case hy20 => (intro w' hSw; (try dsimp only at hSw); go_simp; (try with_reducible rfl))
        try simp only [Act.put, List.setIfInBounds_toArray, List.set_cons_zero, List.set_cons_succ, List.getElem_toArray, List.getElem_cons_succ, List.getElem_cons_zero]
        refine wpAnyH_ready (rs := [21]) (by kernel_rfl) (by simp) ?_
        refine AllReadyH.cons (o := _) rfl (fun K hK => ?_) AllReadyH.nil
        go_simp
        refine (HMO.out _).mono ?_
        rintro e u21 ⟨rfl, hbq⟩
        have B3 := bl_step B2 hbq
        clear hbq
        go_wp2_with fail
        refine hK.out _ _ (three_at (BF7.below (B3)).cell) (fun hHeld => ?_)
        clear hK K
        try simp only [Act.put, List.setIfInBounds_toArray, List.set_cons_zero, List.set_cons_succ, List.getElem_toArray, List.getElem_cons_succ, List.getElem_cons_zero]
        refine wpAnyH_ready (rs := [22]) (by kernel_rfl) (by simp) ?_
        refine AllReadyH.cons (o := _) rfl (fun K hK => ?_) AllReadyH.nil
        go_simp
        refine (HR1.out _).mono ?_
        rintro e u22 ⟨rfl, hbq⟩
        have B4 := bl_step B3 hbq
        clear hbq
        go_wp2_with fail
        refine hK.out _ _ (three_at (BF7.below (B4)).cell) (fun hHeld => ?_)
        clear hK K
        try simp only [Act.put, List.setIfInBounds_toArray, List.set_cons_zero, List.set_cons_succ, List.getElem_toArray, List.getElem_cons_succ, List.getElem_cons_zero]
        refine wpAnyH_take (i := 23) (oi := _) (v := ?v23) rfl (by kernel_rfl) (by kernel_rfl) (by kernel_rfl) (fun _ _ _ h => h) (Or.inl ⟨by rfl, ?hy23⟩) (by assumption) ?rest23
        case hy23 => (intro w' hSw; (try dsimp only at hSw); go_simp; (try with_reducible rfl))
        try simp only [Act.put, List.setIfInBounds_toArray, List.set_cons_zero, List.set_cons_succ, List.getElem_toArray, List.getElem_cons_succ, List.getElem_cons_zero]
        refine wpAnyH_take (i := 24) (oi := _) (v := ?v24) rfl (by kernel_rfl) (by kernel_rfl) (by kernel_rfl) (fun _ _ _ h => h) (Or.inl ⟨by rfl, ?hy24⟩) (by assumption) ?rest24
        case hy24 => (intro w' hSw; (try dsimp only at hSw); go_simp; (try with_reducible rfl))
        try simp only [Act.put, List.setIfInBounds_toArray, List.set_cons_zero, List.set_cons_succ, List.getElem_toArray, List.getElem_cons_succ, List.getElem_cons_zero]
        refine wpAnyH_take (i := 25) (oi := _) (v := ?v25) rfl (by kernel_rfl) (by kernel_rfl) (by kernel_rfl) (fun _ _ _ h => h) (Or.inl ⟨by rfl, ?hy25⟩) (by assumption) ?rest25
        case hy25 => (intro w' hSw; (try dsimp only at hSw); go_simp; (try with_reducible rfl))
        try simp only [Act.put, List.setIfInBounds_toArray, List.set_cons_zero, List.set_cons_succ, List.getElem_toArray, List.getElem_cons_succ, List.getElem_cons_zero]
        refine wpAnyH_take (i := 26) (oi := _) (v := ?v26) rfl (by kernel_rfl) (by kernel_rfl) (by kernel_rfl) (fun _ _ _ h => h) (Or.inl ⟨by rfl, ?hy26⟩) (by assumption) ?rest26
        case hy26 => (intro w' hSw; (try dsimp only at hSw); go_simp; (try with_reducible rfl))
        try simp only [Act.put, List.setIfInBounds_toArray, List.set_cons_zero, List.set_cons_succ, List.getElem_toArray, List.getElem_cons_succ, List.getElem_cons_zero]
        refine wpAnyH_ready (rs := [27]) (by kernel_rfl) (by simp) ?_
        refine AllReadyH.cons (o := _) rfl (fun K hK => ?_) AllReadyH.nil
        go_simp
        refine (HMO.out _).mono ?_
        rintro e u27 ⟨rfl, hbq⟩
        have B5 := bl_step B4 hbq
        clear hbq
        go_wp2_with fail
        refine hK.out _ _ (three_at (BF7.below (B5)).cell) (fun hHeld => ?_)
        clear hK K
        try simp only [Act.put, List.setIfInBounds_toArray, List.set_cons_zero, List.set_cons_succ, List.getElem_toArray, List.getElem_cons_succ, List.getElem_cons_zero]
        refine wpAnyH_take (i := 28) (oi := _) (v := ?v28) rfl (by kernel_rfl) (by kernel_rfl) (by kernel_rfl) (fun _ _ _ h => h) (Or.inl ⟨by rfl, ?hy28⟩) (by assumption) ?rest28
        case hy28 => (intro w' hSw; (try dsimp only at hSw); go_simp; (try with_reducible rfl))
        try simp only [Act.put, List.setIfInBounds_toArray, List.set_cons_zero, List.set_cons_succ, List.getElem_toArray, List.getElem_cons_succ, List.getElem_cons_zero]
        refine wpAnyH_ready (rs := [29]) (by kernel_rfl) (by simp) ?_
        refine AllReadyH.cons (o := _) rfl (fun K hK => ?_) AllReadyH.nil
        go_simp
        refine (HR2.out _).mono ?_
        rintro e u29 ⟨rfl, hbq⟩
        have B6 := bl_step B5 hbq
        clear hbq
        go_wp2_with fail
        refine hK.out _ _ (three_at (BF7.below (B6)).cell) (fun hHeld => ?_)
        clear hK K
        try simp only [Act.put, List.setIfInBounds_toArray, List.set_cons_zero, List.set_cons_succ, List.getElem_toArray, List.getElem_cons_succ, List.getElem_cons_zero]
        refine wpAnyH_take (i := 30) (oi := _) (v := ?v30) rfl (by kernel_rfl) (by kernel_rfl) (by kernel_rfl) (fun _ _ _ h => h) (Or.inl ⟨by rfl, ?hy30⟩) (by assumption) ?rest30
        case hy30 => (intro w' hSw; (try dsimp only at hSw); go_simp; (try with_reducible rfl))
        try simp only [Act.put, List.setIfInBounds_toArray, List.set_cons_zero, List.set_cons_succ, List.getElem_toArray, List.getElem_cons_succ, List.getElem_cons_zero]
        refine wpAnyH_take (i := 31) (oi := _) (v := ?v31) rfl (by kernel_rfl) (by kernel_rfl) (by kernel_rfl) (fun _ _ _ h => h) (Or.inl ⟨by rfl, ?hy31⟩) (by assumption) ?rest31
        case hy31 => (intro w' hSw; (try dsimp only at hSw); go_simp; (try with_reducible rfl))
        try simp only [Act.put, List.setIfInBounds_toArray, List.set_cons_zero, List.set_cons_succ, List.getElem_toArray, List.getElem_cons_succ, List.getElem_cons_zero]
        refine wpAnyH_take (i := 32) (oi := _) (v := ?v32) rfl (by kernel_rfl) (by kernel_rfl) (by kernel_rfl) (fun _ _ _ h => h) (Or.inl ⟨by rfl, ?hy32⟩) (by assumption) ?rest32
        case hy32 => (intro w' hSw; (try dsimp only at hSw); go_simp; (try with_reducible rfl))
        try simp only [Act.put, List.setIfInBounds_toArray, List.set_cons_zero, List.set_cons_succ, List.getElem_toArray, List.getElem_cons_succ, List.getElem_cons_zero]
        refine wpAnyH_take (i := 33) (oi := _) (v := ?v33) rfl (by kernel_rfl) (by kernel_rfl) (by kernel_rfl) (fun _ _ _ h => h) (Or.inl ⟨by rfl, ?hy33⟩) (by assumption) ?rest33
        case hy33 => (intro w' hSw; (try dsimp only at hSw); go_simp; (try with_reducible rfl))
        try simp only [Act.put, List.setIfInBounds_toArray, List.set_cons_zero, List.set_cons_succ, List.getElem_toArray, List.getElem_cons_succ, List.getElem_cons_zero]
        refine wpAnyH_take (i := 34) (oi := _) (v := ?v34) rfl (by kernel_rfl) (by kernel_rfl) (by kernel_rfl) (fun _ _ _ h => h) (Or.inl ⟨by rfl, ?hy34⟩) (by assumption) ?rest34
        case hy34 => (intro w' hSw; (try dsimp only at hSw); go_simp; (try with_reducible rfl))
        try simp only [Act.put, List.setIfInBounds_toArray, List.set_cons_zero, List.set_cons_succ, List.getElem_toArray, List.getElem_cons_succ, List.getElem_cons_zero]
        refine wpAnyH_ready (rs := [35]) (by kernel_rfl) (by simp) ?_
        refine AllReadyH.cons (o := _) rfl (fun K hK => ?_) AllReadyH.nil
        go_simp
        refine (HLE.out _).mono ?_
        rintro e u35 ⟨rfl, hbq⟩
        have B7 := bl_step B6 hbq
        clear hbq
        go_wp2_with fail
        refine hK.out _ _ (three_at (BF7.below (B7)).cell) (fun hHeld => ?_)
        clear hK K
        try simp only [Act.put, List.setIfInBounds_toArray, List.set_cons_zero, List.set_cons_succ, List.getElem_toArray, List.getElem_cons_succ, List.getElem_cons_zero]
        refine wpAnyH_take (i := 36) (oi := _) (v := ?v36) rfl (by kernel_rfl) (by kernel_rfl) (by kernel_rfl) (fun _ _ _ h => h) (Or.inl ⟨by rfl, ?hy36⟩) (by assumption) ?rest36
        case hy36 => (intro w' hSw; (try dsimp only at hSw); go_simp; (try with_reducible rfl))
        try simp only [Act.put, List.setIfInBounds_toArray, List.set_cons_zero, List.set_cons_succ, List.getElem_toArray, List.getElem_cons_succ, List.getElem_cons_zero]
        refine wpAnyH_ready (rs := [37]) (by kernel_rfl) (by simp) ?_
        refine AllReadyH.cons (o := _) rfl (fun K hK => ?_) AllReadyH.nil
        go_simp
        refine (HR3.out _).mono ?_
        rintro e u37 ⟨rfl, hbq⟩
        have B8 := bl_step B7 hbq
        clear hbq
        go_wp2_with fail
        refine hK.out _ _ (three_at (BF7.below (B8)).cell) (fun hHeld => ?_)
        clear hK K
        try simp only [Act.put, List.setIfInBounds_toArray, List.set_cons_zero, List.set_cons_succ, List.getElem_toArray, List.getElem_cons_succ, List.getElem_cons_zero]
        refine wpAnyH_take (i := 38) (oi := _) (v := ?v38) rfl (by kernel_rfl) (by kernel_rfl) (by kernel_rfl) (fun _ _ _ h => h) (Or.inl ⟨by rfl, ?hy38⟩) (by assumption) ?rest38
        case hy38 => (intro w' hSw; (try dsimp only at hSw); go_simp; (try with_reducible rfl))
        try simp only [Act.put, List.setIfInBounds_toArray, List.set_cons_zero, List.set_cons_succ, List.getElem_toArray, List.getElem_cons_succ, List.getElem_cons_zero]
        refine wpAnyH_take (i := 39) (oi := _) (v := ?v39) rfl (by kernel_rfl) (by kernel_rfl) (by kernel_rfl) (fun _ _ _ h => h) (Or.inl ⟨by rfl, ?hy39⟩) (by assumption) ?rest39
        case hy39 => (intro w' hSw; (try dsimp only at hSw); go_simp; (try with_reducible rfl))
        try simp only [Act.put, List.setIfInBounds_toArray, List.set_cons_zero, List.set_cons_succ, List.getElem_toArray, List.getElem_cons_succ, List.getElem_cons_zero]
        refine wpAnyH_take (i := 40) (oi := _) (v := ?v40) rfl (by kernel_rfl) (by kernel_rfl) (by kernel_rfl) (fun _ _ _ h => h) (Or.inl ⟨by rfl, ?hy40⟩) (by assumption) ?rest40
        case hy40 => (intro w' hSw; (try dsimp only at hSw); go_simp; (try with_reducible rfl))
        try simp only [Act.put, List.setIfInBounds_toArray, List.set_cons_zero, List.set_cons_succ, List.getElem_toArray, List.getElem_cons_succ, List.getElem_cons_zero]
        refine wpAnyH_done (by kernel_rfl) ?_ _
        go_wp2
        go_ret
        exact ⟨rfl, bl_step T7 B8⟩
      · subst ho2
        have HTX := HTH0.out rfl
        have HTH := Lib.hid (fun W hW => HFT.out hs hn hl W hW)
        rw [HTX] at HTH
        have hbq2 : (t2.toList == t2.toList) = true := by simp
        have Bs : Below w7.heap.size w7 w7.drew := bl_drew w7
        have ks := And.intro (three_at (BF7.below (Bs)).cell) (three_at (BH7.below (Bs)).cell)
        go_wp2_with fail
        go_region_held3 (fun w' => (w'.cell? ⟨F, 0, none⟩ = some (.bool s) ∧ w'.cell? ⟨F, 1, none⟩ = some (.int .i64 n) ∧ w'.cell? ⟨F, 2, none⟩ = some (.int .i64 l)) ∧ (w'.cell? ⟨Hb, 0, none⟩ = some (.bool hs) ∧ w'.cell? ⟨Hb, 1, none⟩ = some (.int .i64 hn) ∧ w'.cell? ⟨Hb, 2, none⟩ = some (.int .i64 hl)))
          (first | with_reducible exact k8 | with_reducible exact k7 | with_reducible exact k6 | with_reducible exact k5 | with_reducible exact k4 | with_reducible exact k3 | with_reducible exact k2 | with_reducible exact k1 | with_reducible exact k0 | with_reducible exact ks)
          (first
          | (go_at_call 17; have q := B7; refine (HR3.out _).mono ?_; rintro e u8 ⟨rfl, hbq⟩; have B8 := bl_step q hbq; have k8 := And.intro (three_at (BF7.below (B8)).cell) (three_at (BH7.below (B8)).cell))
          | (go_at_call 15; have q := B6; refine (HLE.out _).mono ?_; rintro e u7 ⟨rfl, hbq⟩; have B7 := bl_step q hbq; have k7 := And.intro (three_at (BF7.below (B7)).cell) (three_at (BH7.below (B7)).cell))
          | (go_at_call 17; have q := B5; refine (HR2.out _).mono ?_; rintro e u6 ⟨rfl, hbq⟩; have B6 := bl_step q hbq; have k6 := And.intro (three_at (BF7.below (B6)).cell) (three_at (BH7.below (B6)).cell))
          | (go_at_call 16; have q := B4; refine (HMO.out _).mono ?_; rintro e u5 ⟨rfl, hbq⟩; have B5 := bl_step q hbq; have k5 := And.intro (three_at (BF7.below (B5)).cell) (three_at (BH7.below (B5)).cell))
          | (go_at_call 17; have q := B3; refine (HR1.out _).mono ?_; rintro e u4 ⟨rfl, hbq⟩; have B4 := bl_step q hbq; have k4 := And.intro (three_at (BF7.below (B4)).cell) (three_at (BH7.below (B4)).cell))
          | (go_at_call 16; have q := B2; refine (HMO.out _).mono ?_; rintro e u3 ⟨rfl, hbq⟩; have B3 := bl_step q hbq; have k3 := And.intro (three_at (BF7.below (B3)).cell) (three_at (BH7.below (B3)).cell))
          | (go_at_call 16; have q := B1; refine (HMO.out _).mono ?_; rintro e u2 ⟨rfl, hbq⟩; have B2 := bl_step q hbq; have k2 := And.intro (three_at (BF7.below (B2)).cell) (three_at (BH7.below (B2)).cell))
          | (go_at_call 15; have q := Bf; refine (HLE.out _).mono ?_; rintro e u1 ⟨rfl, hbq⟩; have B1 := bl_step q hbq; have k1 := And.intro (three_at (BF7.below (B1)).cell) (three_at (BH7.below (B1)).cell))
          | (go_at_call 12; have q := Bs; refine (HTH.out _ (bl_step T7 Bs)).mono ?_; rintro e u0 ⟨rfl, hbq⟩; have Bf := bl_step q hbq; have k0 := And.intro (three_at (BF7.below (Bf)).cell) (three_at (BH7.below (Bf)).cell)))
        go_wp2
        go_ret
        exact ⟨rfl, bl_step T7 B8⟩
end Go.Proofs.YtimjfcipkmcgmaaDoor
