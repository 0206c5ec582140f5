/-
  PROVED: contracts of the reading of a format's text, the reference's and the program's; the law on them.
  CONDITIONS: none.
-/
import Derived.Test.YtimjfcipkmcgmaaDoorPtc
import Derived.Test.YtimjfcipkmcgmaaDoorNum
import Derived.Test.YtimjfcipkmcgmaaDoorFmt
namespace Go.Proofs.YtimjfcipkmcgmaaDoor
open Go.ChangeShapes Go.WideShapes Go.ChangeAt Go.RowKit
set_option linter.unusedVariables false
def hasB (b : UInt8) (s : ByteArray) : Bool := Lib.hasPrefix s.data.toList [b]
def cutB (b : UInt8) (s : ByteArray) : ByteArray := ⟨(Lib.trimPrefix s.data.toList [b]).toArray⟩
def fP (s : ByteArray) : List ByteArray := partsB 46 (cutB 81 (cutB 85 s))
def f0 (s : ByteArray) : ByteArray := (fP s).getD 0 ByteArray.empty
def f1 (s : ByteArray) : ByteArray := (fP s).getD 1 ByteArray.empty
def fOk (s : ByteArray) : Bool := hasB 81 (cutB 85 s) && ((fP s).length == 2) && numOk (f0 s) && numOk (f1 s) && fmtOkB (numR (f0 s) + numR (f1 s)) (numR (f1 s))
def fS (s : ByteArray) : Bool := fOk s && !(hasB 85 s)
def fW (s : ByteArray) : Int := if fOk s = true then numR (f0 s) + numR (f1 s) else 0
def fF (s : ByteArray) : Int := if fOk s = true then numR (f1 s) else 0
def fV (s : ByteArray) : Value := .tuple #[.agg #[.bool (fS s), .int .i64 (fW s), .int .i64 (fF s)], .bool (fOk s)]
theorem fV_no {s : ByteArray} (h : fOk s = false) : fV s = .tuple #[.agg #[.bool false, .int .i64 0, .int .i64 0], .bool false] := by
  unfold fV fS fW fF
  rw [h]
  rfl
theorem fV_yes {s : ByteArray} (h : fOk s = true) : fV s = .tuple #[.agg #[.bool (!(hasB 85 s)), .int .i64 (numR (f0 s) + numR (f1 s)), .int .i64 (numR (f1 s))], .bool true] := by
  unfold fV fS fW fF
  rw [h]
  rfl
theorem hasB_yes {b : UInt8} {s : ByteArray} (h : hasB b s = true) : ∃ h0 : 0 < s.size, s[0] = b ∧ cutB b s = s.extract 1 s.size := by
  obtain ⟨⟨l⟩⟩ := s
  cases l with
  | nil => simp [hasB, Lib.hasPrefix] at h
  | cons x r =>
    simp [hasB, Lib.hasPrefix] at h
    subst h
    refine ⟨by simp [ByteArray.size], rfl, ?_⟩
    apply ByteArray.ext
    apply Array.ext'
    simp [cutB, Lib.trimPrefix, Lib.hasPrefix, ByteArray.size]
theorem hasB_no {b : UInt8} {s : ByteArray} (h : hasB b s = false) : cutB b s = s ∧ (s.size = 0 ∨ ∃ h0 : 0 < s.size, ¬ s[0] = b) := by
  obtain ⟨⟨l⟩⟩ := s
  have hc : cutB b ⟨⟨l⟩⟩ = ⟨⟨l⟩⟩ := by
    have h' : Lib.hasPrefix l [b] = false := h
    simp [cutB, Lib.trimPrefix, h']
  refine ⟨hc, ?_⟩
  cases l with
  | nil => exact .inl rfl
  | cons x r =>
    right
    refine ⟨by simp [ByteArray.size], fun e => ?_⟩
    have e' : x = b := e
    simp [hasB, Lib.hasPrefix, e'] at h
theorem hcat_len {p : List UInt8} {L : List (List UInt8)} {n : Nat} (h : ∀ q ∈ L, q.length ≤ n) : ∀ q ∈ hcat p L, q.length ≤ p.length + n := by
  cases L with
  | nil => intro q hq; simp [hcat] at hq; subst hq; omega
  | cons x r =>
    intro q hq
    simp only [hcat, List.mem_cons] at hq
    rcases hq with rfl | hq
    · have := h x (by simp); simp; omega
    · have := h q (by simp [hq]); omega
theorem partsL_size (c : UInt8) : ∀ l, ∀ q ∈ partsL c l, q.length ≤ l.length
  | [], q, hq => by simp [partsL] at hq; subst hq; simp
  | b :: r, q, hq => by
    rw [partsL] at hq
    split at hq
    · rcases List.mem_cons.1 hq with rfl | hq
      · simp
      · have := partsL_size c r q hq; simp; omega
    · have := hcat_len (p := [b]) (partsL_size c r) q hq
      simp at this ⊢; omega
theorem partsB_size (c : UInt8) (s : ByteArray) : ∀ p ∈ partsB c s, p.size ≤ s.size := by
  intro p hp
  have h1 := List.mem_map_of_mem (f := fun x : ByteArray => x.data.toList) hp
  rw [partsB_data] at h1
  have := partsL_size c _ _ h1
  rw [data_len, data_len] at this
  exact this
theorem numR_bd (s : ByteArray) : 0 ≤ numR s ∧ numR s < 1000000 := by
  unfold numR
  split
  · rename_i h
    unfold numOk at h
    simp only [Bool.and_eq_true, decide_eq_true_eq] at h
    have h6 := numV_six s s.size h.1.1.2
    have hfl : s.data.toList.take s.size = s.data.toList := List.take_of_length_le (by rw [data_len]; exact Nat.le_refl _)
    rw [hfl] at h6
    exact h6 h.1.2
  · omega
theorem set3_heap {w : World} {r : Nat} {t : TypeId} {u0 u1 u2 : Value} (h : w.heap[r]? = some (.cells #[u0, u1, u2] t (0, 0))) (x y z : Value) :
    (((w.setCell ⟨r, 0, none⟩ x).setCell ⟨r, 1, none⟩ y).setCell ⟨r, 2, none⟩ z).cell? ⟨r, 0, none⟩ = some x ∧
    (((w.setCell ⟨r, 0, none⟩ x).setCell ⟨r, 1, none⟩ y).setCell ⟨r, 2, none⟩ z).cell? ⟨r, 1, none⟩ = some y ∧
    (((w.setCell ⟨r, 0, none⟩ x).setCell ⟨r, 1, none⟩ y).setCell ⟨r, 2, none⟩ z).cell? ⟨r, 2, none⟩ = some z := by
  have h3 := setCell_block (setCell_block (setCell_block h (i := 0) x) (i := 1) y) (i := 2) z
  exact ⟨cell_of_heap h3 0, cell_of_heap h3 1, cell_of_heap h3 2⟩
theorem set2_heap {w : World} {r : Nat} {t : TypeId} {u0 u1 u2 : Value} (h : w.heap[r]? = some (.cells #[u0, u1, u2] t (0, 0))) (y z : Value) :
    ((w.setCell ⟨r, 1, none⟩ y).setCell ⟨r, 2, none⟩ z).cell? ⟨r, 0, none⟩ = some u0 ∧ ((w.setCell ⟨r, 1, none⟩ y).setCell ⟨r, 2, none⟩ z).cell? ⟨r, 1, none⟩ = some y ∧ ((w.setCell ⟨r, 1, none⟩ y).setCell ⟨r, 2, none⟩ z).cell? ⟨r, 2, none⟩ = some z ∧
    ((w.setCell ⟨r, 1, none⟩ y).setCell ⟨r, 2, none⟩ z).heap[r]? = some (.cells #[u0, y, z] t (0, 0)) := by
  have h3 := setCell_block (setCell_block h (i := 1) y) (i := 2) z
  exact ⟨cell_of_heap h3 0, cell_of_heap h3 1, cell_of_heap h3 2, h3⟩
theorem out_three {w : World} {r : Nat} (x y z : Value) : Out r (r + 1) w (((w.setCell ⟨r, 0, none⟩ x).setCell ⟨r, 1, none⟩ y).setCell ⟨r, 2, none⟩ z) :=
  (((Out.refl r (r + 1) w).setCell (Nat.le_refl _) (Nat.lt_succ_self _) 0 x).setCell (Nat.le_refl _) (Nat.lt_succ_self _) 1 y).setCell (Nat.le_refl _) (Nat.lt_succ_self _) 2 z
theorem sParts46 (t : ByteArray) (w : World) (h : t.size ≤ 1048576) : Calls Tryd.prog 18 #[.string t, .int .u8 46] w (PartsOwn (partsB 46 t) w) := sParts_any t 46 w h
set_option maxRecDepth 100000 in
set_option maxHeartbeats 8000000 in
theorem sFmtOf_any (s : ByteArray) (w : World) (hs : s.size ≤ 1048576) : Calls Tryd.prog 7 #[.string s] w fun e w' => e = .returned (fV s) ∧ Below w.heap.size w w' := by
  cases hU : hasB 85 s
  · obtain ⟨h2, h3⟩ := hasB_no hU
    have HCU := Lib.hid h2
    have HU := Lib.hid hU
    clear h2 hU
    rcases h3 with h0 | ⟨h0, h1⟩
    · have hQ : hasB 81 s = false := by
        have : s.data.toList = [] := List.eq_nil_of_length_eq_zero (by rw [data_len]; exact h0)
        unfold hasB; rw [this]; rfl
      have hno : Hid (fOk s = false) := by show _ = _; unfold fOk; rw [HCU.out, hQ]; rfl
      have HB0 : Hid (Below w.heap.size w ((w.alloc (.cells #[.bool false, .int .i64 0, .int .i64 0] 23)).alloc (.cells #[.bool true, .int .i64 0, .int .i64 0] 23))) := bl_al (bl_alloc _ _) _
      clear hQ
      go_enter Tryd.func7, Tryd.ntmps7
      go_wp2_with fail
      try simp only [Exit.inBlock, Exit.then]
      show bodyPost Tryd.prog Tryd.f7 _ Exit.ret _ _
      refine bodyPost_ret (v := .tuple #[.agg #[.bool false, .int .i64 0, .int .i64 0], .bool false]) (by simp [results, Tryd.results7, go_sem]) rfl ?_
      exact ⟨by rw [fV_no hno.out], HB0.out⟩
    · have hcc : (s[0].toNat == 85) = false := beq_eq_false_iff_ne.2 (fun e => h1 (UInt8.toNat_inj.1 e))
      have hcd : ¬ s[0].toNat = 85 := fun e => h1 (UInt8.toNat_inj.1 e)
      go_enter Tryd.func7, Tryd.ntmps7
      go_upto_region 5 with fail
      clear hcc hcd h1
      have HB0 : Hid (Below w.heap.size w ((w.alloc (.cells #[.bool false, .int .i64 0, .int .i64 0] 23)).alloc (.cells #[.bool true, .int .i64 0, .int .i64 0] 23))) := bl_al (bl_alloc _ _) _
      have hR0 : (((w.alloc (.cells #[.bool false, .int .i64 0, .int .i64 0] 23)).alloc (.cells #[.bool true, .int .i64 0, .int .i64 0] 23))).heap[w.heap.size]? = some (.cells #[.bool false, .int .i64 0, .int .i64 0] 23 (0, 0)) := ((bl_alloc (w.alloc (.cells #[.bool false, .int .i64 0, .int .i64 0] 23)) _).block w.heap.size (by simp)).trans (heap_alloc_new w _)
      have hF0 : (((w.alloc (.cells #[.bool false, .int .i64 0, .int .i64 0] 23)).alloc (.cells #[.bool true, .int .i64 0, .int .i64 0] 23))).heap[w.heap.size + 1]? = some (.cells #[.bool true, .int .i64 0, .int .i64 0] 23 (0, 0)) := by have h := heap_alloc_new (w.alloc (.cells #[.bool false, .int .i64 0, .int .i64 0] 23)) (.cells #[.bool true, .int .i64 0, .int .i64 0] 23); simpa using h
      have HR0 := Lib.hid hR0
      have HF0 := Lib.hid hF0
      clear hR0 hF0
      cases hQ : hasB 81 s
      · have hno : Hid (fOk s = false) := by show _ = _; unfold fOk; rw [HCU.out, hQ]; rfl
        rcases (hasB_no hQ).2 with h0 | ⟨h0, h1⟩
        · exfalso; omega
        · have hsz0 : ((s.size : Int) == 0) = false := beq_eq_false_iff_ne.2 (by omega)
          have hsz1 : ¬ s.size = 0 := by omega
          have hcc : (s[0].toNat == 81) = false := beq_eq_false_iff_ne.2 (fun e => h1 (UInt8.toNat_inj.1 e))
          have hcd : ¬ s[0].toNat = 81 := fun e => h1 (UInt8.toNat_inj.1 e)
          go_wp2_with fail
          try simp only [Exit.inBlock, Exit.then]
          show bodyPost Tryd.prog Tryd.f7 _ Exit.ret _ _
          refine bodyPost_ret (v := .tuple #[.agg #[.bool false, .int .i64 0, .int .i64 0], .bool false]) (by simp [results, Tryd.results7, go_sem]) rfl ?_
          exact ⟨by rw [fV_no hno.out], HB0.out⟩
      · obtain ⟨h0, h1, h2⟩ := hasB_yes hQ
        have hcc : (s[0].toNat == 81) = true := by rw [h1]; rfl
        have hsz0 : ((s.size : Int) == 0) = false := beq_eq_false_iff_ne.2 (by omega)
        have hsz1 : ¬ s.size = 0 := by omega
        have HP : Hid (partsB 46 (s.extract 1 s.size) = fP s) := by show _ = _; unfold fP; rw [HCU.out, h2]
        have HOK : Hid (fOk s = (((fP s).length == 2) && numOk (f0 s) && numOk (f1 s) && fmtOkB (numR (f0 s) + numR (f1 s)) (numR (f1 s)))) := by show _ = _; unfold fOk; rw [HCU.out, hQ]; rfl
        have hez : (s.extract 1 s.size).size ≤ s.size := by rw [ByteArray.size_extract]; omega
        have HSZ := Lib.hid (fun p hp => Nat.le_trans (partsB_size 46 (s.extract 1 s.size) p hp) hez)
        have HC := Lib.hid (fun W : World => sParts46 (s.extract 1 s.size) W (by omega))
        rw [HP.out] at HC HSZ
        have HL0 : Hid (f0 s = (fP s).getD 0 ByteArray.empty) := rfl
        have HL1 : Hid (f1 s = (fP s).getD 1 ByteArray.empty) := rfl
        clear h1 h2 hez HP
        generalize fP s = L at *
        go_wp2_with fail
        refine (HC.out _).mono ?_
        rintro e w1 ⟨a, c, rfl, ho, hb⟩
        have hst := ho.row
        clear ho
        have hR1 := (hb.block w.heap.size (by simp <;> omega)).trans HR0.out
        have hF1 := (hb.block (w.heap.size + 1) (by simp <;> omega)).trans HF0.out
        have HR1 := Lib.hid hR1
        have HF1 := Lib.hid hF1
        by_cases hl : L.length = 2
        · obtain ⟨p0, p1, rfl⟩ : ∃ x y, L = [x, y] := by
            match L, hl with
            | [x, y], _ => exact ⟨x, y, rfl⟩
          have e0 : f0 s = p0 := HL0.out
          have e1 : f1 s = p1 := HL1.out
          have hz0 := HSZ.out p0 (by simp)
          have hz1 := HSZ.out p1 (by simp)
          rw [e0, e1] at HOK
          have HOK2 : Hid (fOk s = (numOk p0 && numOk p1 && fmtOkB (numR p0 + numR p1) (numR p1))) := by show _ = _; rw [HOK.out]; rfl
          have HY : Hid (fOk s = true → fV s = .tuple #[.agg #[.bool true, .int .i64 (numR p0 + numR p1), .int .i64 (numR p1)], .bool true]) := by
            intro h; rw [fV_yes h, e0, e1, HU.out]; rfl
          clear HOK HL0 HL1 HSZ HC e0 e1 hl
          rcases hst with hst | ⟨b, off, rfl, hlt, hcell⟩
          · cases hst
          have c0 : w1.cell? ⟨b, off, none⟩ = some (.string p0) := hcell 0 (by simp)
          have c1 : w1.cell? ⟨b, off + 1, none⟩ = some (.string p1) := hcell 1 (by simp)
          clear hcell hR1 hF1
          obtain ⟨n00, n01⟩ := numR_bd p0
          obtain ⟨n10, n11⟩ := numR_bd p1
          have HC0 := Lib.hid (fun W : World => sNumber_any p0 W (by omega))
          have HC1 := Lib.hid (fun W : World => sNumber_any p1 W (by omega))
          generalize numR p0 = v0 at *
          generalize numR p1 = v1 at *
          generalize numOk p0 = o0 at *
          generalize numOk p1 = o1 at *
          go_wp2_with fail
          refine (HC0.out _).mono ?_
          rintro e w2 ⟨rfl, hb2⟩
          have c2 : w2.cell? ⟨b, off + 1, none⟩ = some (.string p1) := (hb2.cell (p := ⟨b, off + 1, none⟩) hlt).trans c1
          go_wp2_with fail
          refine (HC1.out _).mono ?_
          rintro e w3 ⟨rfl, hb3⟩
          have hb23 := bl_step hb2 hb3
          have hR3 := (hb23.block w.heap.size (lt_of_heap HR1.out)).trans HR1.out
          have hF3 := (hb23.block (w.heap.size + 1) (lt_of_heap HF1.out)).trans HF1.out
          replace hb := bl_step hb hb23
          clear hb2 hb3 hb23 c0 c1 c2 hlt
          have rc3 := cell_of_heap hR3
          have rf3 := free_of_heap hR3
          have fc3 := cell_of_heap hF3
          have ff3 := free_of_heap hF3
          have hlt3 := lt_of_heap hR3
          have HR3 := Lib.hid hR3
          have HF3 := Lib.hid hF3
          cases o0
          · have hno : Hid (fOk s = false) := by show _ = _; rw [HOK2.out]; rfl
            clear HOK2 hF3
            cases o1
            all_goals
              go_wp2_with fail
              obtain ⟨g0, g1, g2⟩ := set3_heap hR3 (.bool false) (.int .i64 0) (.int .i64 0)
              try simp only [Exit.inBlock, Exit.then]
              show bodyPost Tryd.prog Tryd.f7 _ Exit.ret _ _
              refine bodyPost_ret (v := .tuple #[.agg #[.bool false, .int .i64 0, .int .i64 0], .bool false]) (by simp [results, Tryd.results7, go_sem, g0, g1, g2]) rfl ?_
              exact ⟨by rw [fV_no hno.out], below_out (bl_step HB0.out hb) (out_three (w := w3) (r := w.heap.size) _ _ _) (Nat.le_refl _)⟩
          · cases o1
            · have hno : Hid (fOk s = false) := by show _ = _; rw [HOK2.out]; rfl
              clear HOK2 hF3
              go_wp2_with fail
              obtain ⟨g0, g1, g2⟩ := set3_heap hR3 (.bool false) (.int .i64 0) (.int .i64 0)
              try simp only [Exit.inBlock, Exit.then]
              show bodyPost Tryd.prog Tryd.f7 _ Exit.ret _ _
              refine bodyPost_ret (v := .tuple #[.agg #[.bool false, .int .i64 0, .int .i64 0], .bool false]) (by simp [results, Tryd.results7, go_sem, g0, g1, g2]) rfl ?_
              exact ⟨by rw [fV_no hno.out], below_out (bl_step HB0.out hb) (out_three (w := w3) (r := w.heap.size) _ _ _) (Nat.le_refl _)⟩
            · have HOK3 : Hid (fOk s = fmtOkB (v0 + v1) v1) := by show _ = _; rw [HOK2.out]; rfl
              clear HOK2
              obtain ⟨q0, q1, q2, hF4⟩ := set2_heap hF3 (.int .i64 (v0 + v1)) (.int .i64 v1)
              have HF4 := Lib.hid hF4
              have HR4 : Hid (((w3.setCell ⟨w.heap.size + 1, 1, none⟩ (.int .i64 (v0 + v1))).setCell ⟨w.heap.size + 1, 2, none⟩ (.int .i64 v1)).heap[w.heap.size]? = some (.cells #[.bool false, .int .i64 0, .int .i64 0] 23 (0, 0))) := (Below.heap_setCell _ _ _ _ (by simp)).trans ((Below.heap_setCell _ _ _ _ (by simp)).trans HR3.out)
              have HB4 : Hid (Below w.heap.size w ((w3.setCell ⟨w.heap.size + 1, 1, none⟩ (.int .i64 (v0 + v1))).setCell ⟨w.heap.size + 1, 2, none⟩ (.int .i64 v1))) := below_out (bl_step HB0.out hb) (((Out.refl (w.heap.size + 1) (w.heap.size + 2) w3).setCell (Nat.le_refl _) (by omega) 1 _).setCell (Nat.le_refl _) (by omega) 2 _) (by omega)
              have HFO := Lib.hid (fun W : World => sfmtOk_any true (v0 + v1) v1 W)
              clear hR3 hF3 hF4 hb rc3 rf3
              go_wp2_with fail
              refine (HFO.out _).mono ?_
              rintro e w5 ⟨rfl, hb5⟩
              have hR5 := (hb5.block w.heap.size (lt_of_heap HR4.out)).trans HR4.out
              have hF5 := (hb5.block (w.heap.size + 1) (lt_of_heap HF4.out)).trans HF4.out
              have rc5 := cell_of_heap hR5
              have rf5 := free_of_heap hR5
              have fc5 := cell_of_heap hF5
              cases hfo : fmtOkB (v0 + v1) v1
              · have hno : Hid (fOk s = false) := by show _ = _; rw [HOK3.out, hfo]
                go_wp2_with fail
                obtain ⟨g0, g1, g2⟩ := set3_heap hR5 (.bool false) (.int .i64 0) (.int .i64 0)
                try simp only [Exit.inBlock, Exit.then]
                show bodyPost Tryd.prog Tryd.f7 _ Exit.ret _ _
                refine bodyPost_ret (v := .tuple #[.agg #[.bool false, .int .i64 0, .int .i64 0], .bool false]) (by simp [results, Tryd.results7, go_sem, g0, g1, g2]) rfl ?_
                exact ⟨by rw [fV_no hno.out], below_out (bl_step HB4.out hb5) (out_three (w := w5) (r := w.heap.size) _ _ _) (Nat.le_refl _)⟩
              · have hyes : Hid (fOk s = true) := by show _ = _; rw [HOK3.out, hfo]
                go_wp2_with fail
                obtain ⟨g0, g1, g2⟩ := set3_heap hR5 (.bool true) (.int .i64 (v0 + v1)) (.int .i64 v1)
                try simp only [Exit.inBlock, Exit.then]
                show bodyPost Tryd.prog Tryd.f7 _ Exit.ret _ _
                refine bodyPost_ret (v := .tuple #[.agg #[.bool true, .int .i64 (v0 + v1), .int .i64 v1], .bool true]) (by simp [results, Tryd.results7, go_sem, g0, g1, g2]) rfl ?_
                exact ⟨by rw [HY.out hyes.out], below_out (bl_step HB4.out hb5) (out_three (w := w5) (r := w.heap.size) _ _ _) (Nat.le_refl _)⟩
        · have hno : Hid (fOk s = false) := by
            show _ = _
            rw [HOK.out]
            rw [beq_eq_false_iff_ne.2 hl]; rfl
          have hl2 : ¬ ((L.length : Nat) : Int) = 2 := by omega
          have rc1 := cell_of_heap hR1
          have rf1 := free_of_heap hR1
          clear hst
          go_wp2_with fail
          obtain ⟨g0, g1, g2⟩ := set3_heap hR1 (.bool false) (.int .i64 0) (.int .i64 0)
          try simp only [Exit.inBlock, Exit.then]
          show bodyPost Tryd.prog Tryd.f7 _ Exit.ret _ _
          refine bodyPost_ret (v := .tuple #[.agg #[.bool false, .int .i64 0, .int .i64 0], .bool false]) (by simp [results, Tryd.results7, go_sem, g0, g1, g2]) rfl ?_
          exact ⟨by rw [fV_no hno.out], below_out (bl_step HB0.out hb) (out_three (w := w1) (r := w.heap.size) _ _ _) (Nat.le_refl _)⟩
  · obtain ⟨h0, h1, h2⟩ := hasB_yes hU
    have HCU := Lib.hid h2
    have HU := Lib.hid hU
    clear h2 hU
    have hcc : (s[0].toNat == 85) = true := by rw [h1]; rfl
    have hrs : (s.extract 1 s.size).size ≤ 1048576 := by rw [ByteArray.size_extract]; omega
    go_enter Tryd.func7, Tryd.ntmps7
    go_upto_region 5 with fail
    clear hcc h1
    generalize s.extract 1 s.size = r at *
    clear h0
    have HB0 : Hid (Below w.heap.size w ((w.alloc (.cells #[.bool false, .int .i64 0, .int .i64 0] 23)).alloc (.cells #[.bool false, .int .i64 0, .int .i64 0] 23))) := bl_al (bl_alloc _ _) _
    have hR0 : (((w.alloc (.cells #[.bool false, .int .i64 0, .int .i64 0] 23)).alloc (.cells #[.bool false, .int .i64 0, .int .i64 0] 23))).heap[w.heap.size]? = some (.cells #[.bool false, .int .i64 0, .int .i64 0] 23 (0, 0)) := ((bl_alloc (w.alloc (.cells #[.bool false, .int .i64 0, .int .i64 0] 23)) _).block w.heap.size (by simp)).trans (heap_alloc_new w _)
    have hF0 : (((w.alloc (.cells #[.bool false, .int .i64 0, .int .i64 0] 23)).alloc (.cells #[.bool false, .int .i64 0, .int .i64 0] 23))).heap[w.heap.size + 1]? = some (.cells #[.bool false, .int .i64 0, .int .i64 0] 23 (0, 0)) := by have h := heap_alloc_new (w.alloc (.cells #[.bool false, .int .i64 0, .int .i64 0] 23)) (.cells #[.bool false, .int .i64 0, .int .i64 0] 23); simpa using h
    have HR0 := Lib.hid hR0
    have HF0 := Lib.hid hF0
    clear hR0 hF0
    cases hQ : hasB 81 r
    · have hno : Hid (fOk s = false) := by show _ = _; unfold fOk; rw [HCU.out, hQ]; rfl
      rcases (hasB_no hQ).2 with h0 | ⟨h0, h1⟩
      · go_wp2_with fail
        try simp only [Exit.inBlock, Exit.then]
        show bodyPost Tryd.prog Tryd.f7 _ Exit.ret _ _
        refine bodyPost_ret (v := .tuple #[.agg #[.bool false, .int .i64 0, .int .i64 0], .bool false]) (by simp [results, Tryd.results7, go_sem]) rfl ?_
        exact ⟨by rw [fV_no hno.out], HB0.out⟩
      · have hsz0 : ((r.size : Int) == 0) = false := beq_eq_false_iff_ne.2 (by omega)
        have hsz1 : ¬ r.size = 0 := by omega
        have hcc : (r[0].toNat == 81) = false := beq_eq_false_iff_ne.2 (fun e => h1 (UInt8.toNat_inj.1 e))
        have hcd : ¬ r[0].toNat = 81 := fun e => h1 (UInt8.toNat_inj.1 e)
        go_wp2_with fail
        try simp only [Exit.inBlock, Exit.then]
        show bodyPost Tryd.prog Tryd.f7 _ Exit.ret _ _
        refine bodyPost_ret (v := .tuple #[.agg #[.bool false, .int .i64 0, .int .i64 0], .bool false]) (by simp [results, Tryd.results7, go_sem]) rfl ?_
        exact ⟨by rw [fV_no hno.out], HB0.out⟩
    · obtain ⟨h0, h1, h2⟩ := hasB_yes hQ
      have hcc : (r[0].toNat == 81) = true := by rw [h1]; rfl
      have hsz0 : ((r.size : Int) == 0) = false := beq_eq_false_iff_ne.2 (by omega)
      have hsz1 : ¬ r.size = 0 := by omega
      have HP : Hid (partsB 46 (r.extract 1 r.size) = fP s) := by show _ = _; unfold fP; rw [HCU.out, h2]
      have HOK : Hid (fOk s = (((fP s).length == 2) && numOk (f0 s) && numOk (f1 s) && fmtOkB (numR (f0 s) + numR (f1 s)) (numR (f1 s)))) := by show _ = _; unfold fOk; rw [HCU.out, hQ]; rfl
      have hez : (r.extract 1 r.size).size ≤ r.size := by rw [ByteArray.size_extract]; omega
      have HSZ := Lib.hid (fun p hp => Nat.le_trans (partsB_size 46 (r.extract 1 r.size) p hp) hez)
      have HC := Lib.hid (fun W : World => sParts46 (r.extract 1 r.size) W (by omega))
      rw [HP.out] at HC HSZ
      have HL0 : Hid (f0 s = (fP s).getD 0 ByteArray.empty) := rfl
      have HL1 : Hid (f1 s = (fP s).getD 1 ByteArray.empty) := rfl
      clear h1 h2 hez HP
      generalize fP s = L at *
      go_wp2_with fail
      refine (HC.out _).mono ?_
      rintro e w1 ⟨a, c, rfl, ho, hb⟩
      have hst := ho.row
      clear ho
      have hR1 := (hb.block w.heap.size (by simp <;> omega)).trans HR0.out
      have hF1 := (hb.block (w.heap.size + 1) (by simp <;> omega)).trans HF0.out
      have HR1 := Lib.hid hR1
      have HF1 := Lib.hid hF1
      by_cases hl : L.length = 2
      · obtain ⟨p0, p1, rfl⟩ : ∃ x y, L = [x, y] := by
          match L, hl with
          | [x, y], _ => exact ⟨x, y, rfl⟩
        have e0 : f0 s = p0 := HL0.out
        have e1 : f1 s = p1 := HL1.out
        have hz0 := HSZ.out p0 (by simp)
        have hz1 := HSZ.out p1 (by simp)
        rw [e0, e1] at HOK
        have HOK2 : Hid (fOk s = (numOk p0 && numOk p1 && fmtOkB (numR p0 + numR p1) (numR p1))) := by show _ = _; rw [HOK.out]; rfl
        have HY : Hid (fOk s = true → fV s = .tuple #[.agg #[.bool false, .int .i64 (numR p0 + numR p1), .int .i64 (numR p1)], .bool true]) := by
          intro h; rw [fV_yes h, e0, e1, HU.out]; rfl
        clear HOK HL0 HL1 HSZ HC e0 e1 hl
        rcases hst with hst | ⟨b, off, rfl, hlt, hcell⟩
        · cases hst
        have c0 : w1.cell? ⟨b, off, none⟩ = some (.string p0) := hcell 0 (by simp)
        have c1 : w1.cell? ⟨b, off + 1, none⟩ = some (.string p1) := hcell 1 (by simp)
        clear hcell hR1 hF1
        obtain ⟨n00, n01⟩ := numR_bd p0
        obtain ⟨n10, n11⟩ := numR_bd p1
        have HC0 := Lib.hid (fun W : World => sNumber_any p0 W (by omega))
        have HC1 := Lib.hid (fun W : World => sNumber_any p1 W (by omega))
        generalize numR p0 = v0 at *
        generalize numR p1 = v1 at *
        generalize numOk p0 = o0 at *
        generalize numOk p1 = o1 at *
        go_wp2_with fail
        refine (HC0.out _).mono ?_
        rintro e w2 ⟨rfl, hb2⟩
        have c2 : w2.cell? ⟨b, off + 1, none⟩ = some (.string p1) := (hb2.cell (p := ⟨b, off + 1, none⟩) hlt).trans c1
        go_wp2_with fail
        refine (HC1.out _).mono ?_
        rintro e w3 ⟨rfl, hb3⟩
        have hb23 := bl_step hb2 hb3
        have hR3 := (hb23.block w.heap.size (lt_of_heap HR1.out)).trans HR1.out
        have hF3 := (hb23.block (w.heap.size + 1) (lt_of_heap HF1.out)).trans HF1.out
        replace hb := bl_step hb hb23
        clear hb2 hb3 hb23 c0 c1 c2 hlt
        have rc3 := cell_of_heap hR3
        have rf3 := free_of_heap hR3
        have fc3 := cell_of_heap hF3
        have ff3 := free_of_heap hF3
        have hlt3 := lt_of_heap hR3
        have HR3 := Lib.hid hR3
        have HF3 := Lib.hid hF3
        cases o0
        · have hno : Hid (fOk s = false) := by show _ = _; rw [HOK2.out]; rfl
          clear HOK2 hF3
          cases o1
          all_goals
            go_wp2_with fail
            obtain ⟨g0, g1, g2⟩ := set3_heap hR3 (.bool false) (.int .i64 0) (.int .i64 0)
            try simp only [Exit.inBlock, Exit.then]
            show bodyPost Tryd.prog Tryd.f7 _ Exit.ret _ _
            refine bodyPost_ret (v := .tuple #[.agg #[.bool false, .int .i64 0, .int .i64 0], .bool false]) (by simp [results, Tryd.results7, go_sem, g0, g1, g2]) rfl ?_
            exact ⟨by rw [fV_no hno.out], below_out (bl_step HB0.out hb) (out_three (w := w3) (r := w.heap.size) _ _ _) (Nat.le_refl _)⟩
        · cases o1
          · have hno : Hid (fOk s = false) := by show _ = _; rw [HOK2.out]; rfl
            clear HOK2 hF3
            go_wp2_with fail
            obtain ⟨g0, g1, g2⟩ := set3_heap hR3 (.bool false) (.int .i64 0) (.int .i64 0)
            try simp only [Exit.inBlock, Exit.then]
            show bodyPost Tryd.prog Tryd.f7 _ Exit.ret _ _
            refine bodyPost_ret (v := .tuple #[.agg #[.bool false, .int .i64 0, .int .i64 0], .bool false]) (by simp [results, Tryd.results7, go_sem, g0, g1, g2]) rfl ?_
            exact ⟨by rw [fV_no hno.out], below_out (bl_step HB0.out hb) (out_three (w := w3) (r := w.heap.size) _ _ _) (Nat.le_refl _)⟩
          · have HOK3 : Hid (fOk s = fmtOkB (v0 + v1) v1) := by show _ = _; rw [HOK2.out]; rfl
            clear HOK2
            obtain ⟨q0, q1, q2, hF4⟩ := set2_heap hF3 (.int .i64 (v0 + v1)) (.int .i64 v1)
            have HF4 := Lib.hid hF4
            have HR4 : Hid (((w3.setCell ⟨w.heap.size + 1, 1, none⟩ (.int .i64 (v0 + v1))).setCell ⟨w.heap.size + 1, 2, none⟩ (.int .i64 v1)).heap[w.heap.size]? = some (.cells #[.bool false, .int .i64 0, .int .i64 0] 23 (0, 0))) := (Below.heap_setCell _ _ _ _ (by simp)).trans ((Below.heap_setCell _ _ _ _ (by simp)).trans HR3.out)
            have HB4 : Hid (Below w.heap.size w ((w3.setCell ⟨w.heap.size + 1, 1, none⟩ (.int .i64 (v0 + v1))).setCell ⟨w.heap.size + 1, 2, none⟩ (.int .i64 v1))) := below_out (bl_step HB0.out hb) (((Out.refl (w.heap.size + 1) (w.heap.size + 2) w3).setCell (Nat.le_refl _) (by omega) 1 _).setCell (Nat.le_refl _) (by omega) 2 _) (by omega)
            have HFO := Lib.hid (fun W : World => sfmtOk_any false (v0 + v1) v1 W)
            clear hR3 hF3 hF4 hb rc3 rf3
            go_wp2_with fail
            refine (HFO.out _).mono ?_
            rintro e w5 ⟨rfl, hb5⟩
            have hR5 := (hb5.block w.heap.size (lt_of_heap HR4.out)).trans HR4.out
            have hF5 := (hb5.block (w.heap.size + 1) (lt_of_heap HF4.out)).trans HF4.out
            have rc5 := cell_of_heap hR5
            have rf5 := free_of_heap hR5
            have fc5 := cell_of_heap hF5
            cases hfo : fmtOkB (v0 + v1) v1
            · have hno : Hid (fOk s = false) := by show _ = _; rw [HOK3.out, hfo]
              go_wp2_with fail
              obtain ⟨g0, g1, g2⟩ := set3_heap hR5 (.bool false) (.int .i64 0) (.int .i64 0)
              try simp only [Exit.inBlock, Exit.then]
              show bodyPost Tryd.prog Tryd.f7 _ Exit.ret _ _
              refine bodyPost_ret (v := .tuple #[.agg #[.bool false, .int .i64 0, .int .i64 0], .bool false]) (by simp [results, Tryd.results7, go_sem, g0, g1, g2]) rfl ?_
              exact ⟨by rw [fV_no hno.out], below_out (bl_step HB4.out hb5) (out_three (w := w5) (r := w.heap.size) _ _ _) (Nat.le_refl _)⟩
            · have hyes : Hid (fOk s = true) := by show _ = _; rw [HOK3.out, hfo]
              go_wp2_with fail
              obtain ⟨g0, g1, g2⟩ := set3_heap hR5 (.bool false) (.int .i64 (v0 + v1)) (.int .i64 v1)
              try simp only [Exit.inBlock, Exit.then]
              show bodyPost Tryd.prog Tryd.f7 _ Exit.ret _ _
              refine bodyPost_ret (v := .tuple #[.agg #[.bool false, .int .i64 (v0 + v1), .int .i64 v1], .bool true]) (by simp [results, Tryd.results7, go_sem, g0, g1, g2]) rfl ?_
              exact ⟨by rw [HY.out hyes.out], below_out (bl_step HB4.out hb5) (out_three (w := w5) (r := w.heap.size) _ _ _) (Nat.le_refl _)⟩
      · have hno : Hid (fOk s = false) := by
          show _ = _
          rw [HOK.out]
          rw [beq_eq_false_iff_ne.2 hl]; rfl
        have hl2 : ¬ ((L.length : Nat) : Int) = 2 := by omega
        have rc1 := cell_of_heap hR1
        have rf1 := free_of_heap hR1
        clear hst
        go_wp2_with fail
        obtain ⟨g0, g1, g2⟩ := set3_heap hR1 (.bool false) (.int .i64 0) (.int .i64 0)
        try simp only [Exit.inBlock, Exit.then]
        show bodyPost Tryd.prog Tryd.f7 _ Exit.ret _ _
        refine bodyPost_ret (v := .tuple #[.agg #[.bool false, .int .i64 0, .int .i64 0], .bool false]) (by simp [results, Tryd.results7, go_sem, g0, g1, g2]) rfl ?_
        exact ⟨by rw [fV_no hno.out], below_out (bl_step HB0.out hb) (out_three (w := w1) (r := w.heap.size) _ _ _) (Nat.le_refl _)⟩
end Go.Proofs.YtimjfcipkmcgmaaDoor
