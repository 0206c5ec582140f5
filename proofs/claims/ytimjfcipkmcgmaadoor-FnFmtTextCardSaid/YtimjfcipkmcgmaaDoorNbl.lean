/-
  PROVED: the walk of the law of numbers and of texts that are parted.
  CONDITIONS: none.
-/
import Derived.Test.YtimjfcipkmcgmaaDoorNbs
namespace Go.Proofs.YtimjfcipkmcgmaaDoor
open Go.ChangeShapes Go.WideShapes Go.ChangeAt Go.RowKit
set_option linter.unusedVariables false
theorem iPutNum_nil (n : Int) (w : World) (h : inR n 0 2147483647 = false) : Calls Tryd.prog 24 #[.int .i64 n] w fun e w' => e = .returned (.slice none 0 0) ∧ w = w' := by
  go_enter Tryd.func24, Tryd.ntmps24
  go_wp2_with (go_at_call 39; refine (inRange_any _ _ _ _).mono ?_; rintro e w' ⟨rfl, rfl⟩)
  go_ret
  exact ⟨rfl, rfl⟩
theorem base_alN {wr : World} {n : Nat} (h : n ≤ wr.heap.size) (o : Obj) : n ≤ (wr.alloc o).heap.size := Nat.le_trans h (by simp)
set_option maxRecDepth 100000 in
set_option maxHeartbeats 2000000 in
theorem walkFnNumbers (a0 : Option Addr) (len0 cap0 : Nat) (z0 : List Int) (w : World) (w0 : IsRow .u8 w a0 len0 cap0 z0) (mx : Int) (hmx : w.cell? ⟨0, 0, none⟩ = some (.int .i64 mx)) :
    Calls Tryd.prog 6 #[.slice a0 len0 cap0] w fun e w' => e = .returned (.bool true) ∧ Below w.heap.size w w' := by
  have HML := Lib.hid (lt_of_cell hmx)
  have HMX := Lib.hid hmx
  clear hmx
  obtain ⟨ha, hlen, hwf⟩ := w0.rowAt
  have hby : ∀ z ∈ z0.take len0, 0 ≤ z ∧ z ≤ 255 := fun z hz => bounds_u8 (hwf z hz)
  clear w0 hwf
  generalize z0.take len0 = z0 at *
  by_cases hbg : (len0 : Int) > 1048576
  · have hd : decide ((len0 : Int) > 1048576) = true := decide_eq_true hbg
    clear ha hby
    go_enter Tryd.func6, Tryd.ntmps6
    go_wp2_with fail
    refine (big_any _ _ _ _).mono ?_
    rintro e w1 ⟨rfl, rfl⟩
    rw [hd]
    go_wp2
    go_ret
    exact ⟨rfl, Below.refl _ _⟩
  · have hd : decide ((len0 : Int) > 1048576) = false := decide_eq_false hbg
    obtain ⟨S, rfl, rfl, rfl, rfl⟩ : ∃ S : Src, S.a = a0 ∧ S.n = len0 ∧ S.c = cap0 ∧ S.l = z0 := ⟨⟨a0, len0, cap0, z0, hlen, by omega, hby⟩, rfl, rfl, rfl, rfl⟩
    have HA := Lib.hid ha
    clear ha hby hlen hbg
    go_enter Tryd.func6, Tryd.ntmps6
    go_wp2_with fail
    refine (big_any _ _ _ _).mono ?_
    rintro e w1 ⟨rfl, rfl⟩
    rw [hd]
    clear hd
    go_wp2_with fail
    refine (drawPutNum_any S w HA.out).mono ?_
    rintro e w1 ⟨n, rfl, hm, hb1⟩
    obtain ⟨i0, hi, hz0, hz1, hz2⟩ := info_parts info8n
    have HI := Lib.hid hi; clear hi
    cases hin : inR n 0 2147483647
    · have HSP := Lib.hid (fun W : World => sPutNum_any n W)
      rw [put_out hin] at HSP
      have HIP0 := Lib.hid (fun W : World => iPutNum_nil n W hin)
      clear hm hin
      go_wp2_with fail
      refine (HIP0.out _).mono ?_
      rintro e w2 ⟨rfl, hw⟩
      subst hw
      have HO2 := Lib.hid ((own_seven w1).alloc (.cells #[.int .u8 9] 5))
      have HCN : Hid (∀ j u, [Value.int .u8 9][j]? = some u → ((w1.alloc (.cells #[.int .u8 7] 5)).alloc (.cells #[.int .u8 9] 5)).cell? ((⟨w1.heap.size + 1, 0, none⟩ : Addr).add j) = some u) := by
        intro j u hj
        have h := cell_one_new (w1.alloc (.cells #[.int .u8 7] 5)) (.int .u8 9) 5 j u hj
        have e : (w1.alloc (.cells #[.int .u8 7] 5)).heap.size = w1.heap.size + 1 := by simp
        rw [e] at h
        exact h
      go_wp2_with (first
        | (at_builtin; refine wpList_append_own_none rfl _ _ 28 rfl w1.heap.size 5 i0 1 Tryd.underlying28 HI.out _ 1 _ rfl (own_seven w1) rfl ?_)
        | (at_builtin; refine wpList_append_own _ rfl _ _ 28 rfl w1.heap.size 5 i0 (.int .u8 0) 1 1 Tryd.underlying28 HI.out hz0 hz1 hz2 rfl (by decide) _ 1 _ rfl HO2.out ⟨w1.heap.size + 1, 0, none⟩ 1 1 [.int .u8 9] rfl rfl HCN.out (one8 _) (by unfold maxLen; omega) (by omega) (by simp; omega) ?_))
      intro v2 w4 hown2 hgrow1 _
      have T : Below w.heap.size w w4 := (bl_al (bl_al hb1 _) _).grown hgrow1 (by have := hb1.size; simp; omega) (fun q hq => by have := own_from HO2.out q hq; have := hb1.size; omega)
      obtain ⟨a', c', rfl, hoa⟩ := own_of_row (hi := w4.heap.size) (zs := [7, 9]) hown2 rfl (Nat.le_refl _)
      clear hown2 hgrow1 hb1 hoa
      go_wp2_with fail
      refine (HSP.out _).mono ?_
      rintro e w5 ⟨a5, c5, rfl, _, hb5⟩
      replace T := bl_step T hb5
      clear hb5
      go_wp2_with fail
      refine (drawParts_any S _ (HA.out.below T)).mono ?_
      rintro e wA ⟨s, c, rfl, hsz, hb⟩
      replace T := bl_step T hb
      have HJ := Lib.hid (join_partsB c s)
      have hlp : 0 < (partsB c s).length := by rw [partsB_len]; omega
      have hlq := partsB_le c s
      have HIP := Lib.hid (iParts_any s c mx wA (by omega) ((T.cell (p := ⟨0, 0, none⟩) HML.out).trans HMX.out) (Nat.lt_of_lt_of_le HML.out T.size))
      generalize partsB c s = L at *
      clear hb
      go_wp2_with fail
      refine HIP.out.mono ?_
      rintro e wB ⟨pa, pc, rfl, hop, hb⟩
      replace T := bl_step T hb
      have hst := hop.row
      clear hop hb HIP
      rcases hst with hst | ⟨b, off, rfl, hblt, hcell⟩
      · exfalso; rw [hst] at hlp; simp at hlp
      have c0 : wB.cell? ⟨b, off, none⟩ = some (.string (L.getD 0 ByteArray.empty)) := hcell 0 hlp
      have HCELL := Lib.hid hcell
      clear hcell
      have hdl := data_len s
      have HDL := Lib.hid hdl
      clear hdl
      generalize hp0 : L.getD 0 ByteArray.empty = p0 at *
      clear hp0
      go_wp2_with fail
      go_loopw [12, 13] (fun o i wr => ∃ (j : Nat) (acc : List UInt8), i = .int .i64 j ∧ 1 ≤ j ∧ j ≤ L.length ∧ o = .string ⟨acc.toArray⟩ ∧ Hid (acc ++ tailJ c ((L.drop j).map (·.data.toList)) = s.data.toList) ∧ Below wB.heap.size wB wr) (fun _ i _ => L.length - (intOf i).toNat)
      case atStart => exact ⟨1, p0.data.toList, rfl, by omega, by omega, by simp, HJ, Below.refl _ _⟩
      case round =>
        obtain ⟨j, acc, rfl, hj1, hj, rfl, HA2, hB⟩ := hrel
        by_cases hlt : j < L.length
        · have hck : wr.cell? ⟨b, off + j, none⟩ = some (.string (L.getD j ByteArray.empty)) := (hB.cell (p := ⟨b, off + j, none⟩) hblt).trans (HCELL.out j hlt)
          have HD : Hid (L.drop j = L.getD j ByteArray.empty :: L.drop (j + 1)) := by show _ = _; rw [List.drop_eq_getElem_cons hlt]; simp [List.getD_eq_getElem?_getD, List.getElem?_eq_getElem hlt]
          generalize L.getD j ByteArray.empty = p at *
          have HA3 : Hid ((acc ++ c :: p.data.toList) ++ tailJ c ((L.drop (j + 1)).map (·.data.toList)) = s.data.toList) := by show _ = _; rw [← HA2.out, HD.out]; simp [tailJ]
          have hlen := congrArg List.length HA3.out
          rw [HDL.out] at hlen
          simp only [List.length_append, List.length_cons] at hlen
          have hps : p.size = p.data.toList.length := (data_len p).symm
          have ha6 : acc.length ≤ 6 := by omega
          have hp6 : p.size ≤ 6 := by omega
          clear hlen hps
          have hx0 : (0 : Int) ≤ (j : Int) := by omega
          have hx1 : (j : Int) < (L.length : Int) := by omega
          have hcv : (convert 28 9 (.slice (some ⟨wr.heap.size, 0, none⟩) 1 1)).run Tryd.prog (wr.alloc (.cells #[.int .u8 (c.toNat : Int)] 5)).drew = .ok (.string ⟨#[c]⟩) (wr.alloc (.cells #[.int .u8 (c.toNat : Int)] 5)).drew := cv_byte wr.drew c
          have hcv1 := cv_byte wr c
          have hbwr : b < wr.heap.size := Nat.lt_of_lt_of_le hblt hB.size
          have kA : ∀ o, (wr.alloc o).drew.cell? ⟨b, off + j, none⟩ = some (.string p) := fun o => ((bl_alloc wr o).cell (p := ⟨b, off + j, none⟩) hbwr).trans hck
          have k0 : wr.drew.cell? ⟨b, off + j, none⟩ = some (.string p) := hck
          have HCAT : Hid ((⟨acc.toArray⟩ : ByteArray) ++ ⟨#[c]⟩ ++ p = ⟨(acc ++ c :: p.data.toList).toArray⟩) := by
            show _ = _
            apply ByteArray.ext
            apply Array.ext'
            simp [ByteArray.data_append]
          go_wp2_with fail
          go_region
          all_goals (try go_wp2)
          go_roundw
          case rel => exact ⟨j + 1, acc ++ c :: p.data.toList, by go_num, by omega, by omega, by first | exact congrArg Value.string HCAT.out | rfl, HA3, by first | exact bl_step hB (bl_alloc _ _).drew | exact bl_step hB (bl_dr (bl_alloc _ _))⟩
          case measure => simp [intOf]; omega
        · obtain rfl : j = L.length := by omega
          have HF : Hid (acc = s.data.toList) := by
            show _ = _
            have := HA2.out
            rw [List.drop_length] at this
            simpa [tailJ] using this
          have hne : (acc == s.toList) = true := by rw [HF.out, ByteArray.toList_eq]; simp
          have hne2 : ((⟨acc.toArray⟩ : ByteArray).toList == s.toList) = true := by rw [ByteArray.toList_eq]; exact hne
          go_wp2_with fail
          go_ret
          exact ⟨rfl, bl_step T hB⟩
    · obtain ⟨hlen, hget, hby⟩ := get_put n hm hin
      have hl6 := putL_len n
      have HGET := Lib.hid hget
      have H8 := Lib.hid hby
      clear hget hby hm hin
      have HSP := Lib.hid (fun W : World => sPutNum_any n W)
      have HIP0 := Lib.hid (fun W : World => iPutNum_any n W)
      generalize putL n = zs at *
      go_wp2_with fail
      refine (HIP0.out _).mono ?_
      rintro e w2 ⟨a, cp, rfl, ho, hb2⟩
      rcases ho with ⟨_, h⟩ | ⟨B, cs, E, rfl, h1, h2, hh, hcs, hcc⟩
      · exfalso; rw [h] at hlen; simp at hlen
      have HN : Hid (∀ j u, (zs.map (Value.int .u8))[j]? = some u → (w2.alloc (.cells #[.int .u8 7] 5)).cell? ((⟨B, 0, none⟩ : Addr).add j) = some u) := by
        intro j u hj
        have hjn : j < zs.length := by
          have := (List.getElem?_eq_some_iff.1 hj).1
          simpa using this
        rw [Addr.add_lit, Nat.zero_add, (bl_alloc w2 _).cell (p := ⟨B, j, none⟩) h2, cell_of_heap hh, hcc j hjn]
        have e : (zs.map (Value.int .u8))[j]? = some (Value.int .u8 (zs.getD j 0)) := by simp [List.getD, List.getElem?_eq_getElem hjn]
        rw [e] at hj
        exact hj
      have HL : Hid ((zs.map (Value.int .u8)).length = zs.length * 1) := by show _ = _; simp
      have H1 : Hid (∀ u ∈ zs.map (Value.int .u8), u.oneCell' = true) := by intro u hu; obtain ⟨x, _, rfl⟩ := List.mem_map.1 hu; rfl
      have H63 : Hid (1 + zs.length ≤ maxLen) := by show _ ≤ _; unfold maxLen; omega
      have HBY : Hid ((1 + zs.length) * 1 ≤ 140737488355328) := by show _ ≤ _; omega
      have H63b : Hid (1 + zs.length + 1 ≤ maxLen) := by show _ ≤ _; unfold maxLen; omega
      have HBYb : Hid ((1 + zs.length + 1) * 1 ≤ 140737488355328) := by show _ ≤ _; omega
      have hT2 := bl_step hb1 hb2
      clear hcc hh hcs h1 h2 hb1 hb2
      go_wp2_with (at_builtin; refine wpList_append_own _ rfl _ _ 28 rfl w2.heap.size 5 i0 (.int .u8 0) 1 1 Tryd.underlying28 HI.out hz0 hz1 hz2 rfl (by decide) _ 1 _ rfl (own_seven w2) ⟨B, 0, none⟩ zs.length cp (zs.map (Value.int .u8)) rfl HL.out HN.out H1.out H63.out HBY.out (bl_alloc w2 _).size ?_)
      intro v1 w3 hown1 hgrow1 _
      have T3 : Below w.heap.size w w3 := (bl_al hT2 _).grown hgrow1 (by have := hT2.size; simp; omega) (fun q hq => by have := own_from (own_seven w2) q hq; have := hT2.size; omega)
      have HB3 : Hid (w2.heap.size ≤ w3.heap.size) := by show _ ≤ _; have := hgrow1.size; simp at this; omega
      have HOWN1 := Lib.hid hown1
      clear hown1
      go_wp2_with (at_builtin; refine wpList_append_own _ rfl _ _ 28 rfl w2.heap.size 5 i0 (.int .u8 0) 1 1 Tryd.underlying28 HI.out hz0 hz1 hz2 rfl (by decide) _ (1 + zs.length) _ rfl (HOWN1.out.alloc _) ⟨w3.heap.size, 0, none⟩ 1 1 [.int .u8 9] rfl rfl (cell_one_new _ _ _) (one8 _) H63b.out HBYb.out (base_alN HB3.out _) ?_)
      intro v2 w4 hown2 hgrow2 _
      have T : Below w.heap.size w w4 := (bl_al T3 _).grown hgrow2 (by have := T3.size; simp; omega) (fun q hq => by have := own_from HOWN1.out q hq; have := hT2.size; omega)
      obtain ⟨N, hN⟩ : ∃ N, N = 1 + zs.length + 1 := ⟨_, rfl⟩
      have hzN : (7 :: (zs ++ [9]) : List Int).length = N := by rw [hN]; simp; omega
      have hown3 : w4.ownsRow w2.heap.size 5 1 v2 N ((7 :: (zs ++ [9])).map (Value.int .u8)) := by
        rw [hN]; simpa using hown2
      obtain ⟨a', c', rfl, hoa⟩ := own_of_row (hi := w4.heap.size) hown3 hzN (Nat.le_refl _)
      have H8b : Hid (∀ z ∈ (7 :: (zs ++ [9]) : List Int), 0 ≤ z ∧ z ≤ 255) := by
        intro z hz
        rcases List.mem_cons.1 hz with rfl | hz
        · omega
        · rcases List.mem_append.1 hz with hz | hz
          · exact H8.out z hz
          · obtain rfl := List.mem_singleton.1 hz; omega
      have hrow := hoa.row
      have hbl : N ≤ 1048576 := by omega
      clear hown2 hown3 hgrow1 hgrow2 hT2 T3 hoa
      have HGB := Lib.hid (fun (W : World) (hW : Below w4.heap.size w4 W) => iGetNum_any a' N c' 1 (7 :: (zs ++ [9])) W hzN hbl H8b.out (hrow.below hW))
      rw [HGET.out] at HGB
      clear hrow hbl hzN hN
      go_wp2_with fail
      refine (HSP.out _).mono ?_
      rintro e w5 ⟨a5, c5, rfl, _, hb5⟩
      go_wp2_with fail
      refine (HGB.out _ hb5).mono ?_
      rintro e w6 ⟨rfl, rfl⟩
      replace T := bl_step T hb5
      clear hb5
      go_wp2_with fail
      refine (drawParts_any S _ (HA.out.below T)).mono ?_
      rintro e wA ⟨s, c, rfl, hsz, hb⟩
      replace T := bl_step T hb
      have HJ := Lib.hid (join_partsB c s)
      have hlp : 0 < (partsB c s).length := by rw [partsB_len]; omega
      have hlq := partsB_le c s
      have HIP := Lib.hid (iParts_any s c mx wA (by omega) ((T.cell (p := ⟨0, 0, none⟩) HML.out).trans HMX.out) (Nat.lt_of_lt_of_le HML.out T.size))
      generalize partsB c s = L at *
      clear hb
      go_wp2_with fail
      refine HIP.out.mono ?_
      rintro e wB ⟨pa, pc, rfl, hop, hb⟩
      replace T := bl_step T hb
      have hst := hop.row
      clear hop hb HIP
      rcases hst with hst | ⟨b, off, rfl, hblt, hcell⟩
      · exfalso; rw [hst] at hlp; simp at hlp
      have c0 : wB.cell? ⟨b, off, none⟩ = some (.string (L.getD 0 ByteArray.empty)) := hcell 0 hlp
      have HCELL := Lib.hid hcell
      clear hcell
      have hdl := data_len s
      have HDL := Lib.hid hdl
      clear hdl
      generalize hp0 : L.getD 0 ByteArray.empty = p0 at *
      clear hp0
      go_wp2_with fail
      go_loopw [12, 13] (fun o i wr => ∃ (j : Nat) (acc : List UInt8), i = .int .i64 j ∧ 1 ≤ j ∧ j ≤ L.length ∧ o = .string ⟨acc.toArray⟩ ∧ Hid (acc ++ tailJ c ((L.drop j).map (·.data.toList)) = s.data.toList) ∧ Below wB.heap.size wB wr) (fun _ i _ => L.length - (intOf i).toNat)
      case atStart => exact ⟨1, p0.data.toList, rfl, by omega, by omega, by simp, HJ, Below.refl _ _⟩
      case round =>
        obtain ⟨j, acc, rfl, hj1, hj, rfl, HA2, hB⟩ := hrel
        by_cases hlt : j < L.length
        · have hck : wr.cell? ⟨b, off + j, none⟩ = some (.string (L.getD j ByteArray.empty)) := (hB.cell (p := ⟨b, off + j, none⟩) hblt).trans (HCELL.out j hlt)
          have HD : Hid (L.drop j = L.getD j ByteArray.empty :: L.drop (j + 1)) := by show _ = _; rw [List.drop_eq_getElem_cons hlt]; simp [List.getD_eq_getElem?_getD, List.getElem?_eq_getElem hlt]
          generalize L.getD j ByteArray.empty = p at *
          have HA3 : Hid ((acc ++ c :: p.data.toList) ++ tailJ c ((L.drop (j + 1)).map (·.data.toList)) = s.data.toList) := by show _ = _; rw [← HA2.out, HD.out]; simp [tailJ]
          have hlen := congrArg List.length HA3.out
          rw [HDL.out] at hlen
          simp only [List.length_append, List.length_cons] at hlen
          have hps : p.size = p.data.toList.length := (data_len p).symm
          have ha6 : acc.length ≤ 6 := by omega
          have hp6 : p.size ≤ 6 := by omega
          clear hlen hps
          have hx0 : (0 : Int) ≤ (j : Int) := by omega
          have hx1 : (j : Int) < (L.length : Int) := by omega
          have hcv : (convert 28 9 (.slice (some ⟨wr.heap.size, 0, none⟩) 1 1)).run Tryd.prog (wr.alloc (.cells #[.int .u8 (c.toNat : Int)] 5)).drew = .ok (.string ⟨#[c]⟩) (wr.alloc (.cells #[.int .u8 (c.toNat : Int)] 5)).drew := cv_byte wr.drew c
          have hcv1 := cv_byte wr c
          have hbwr : b < wr.heap.size := Nat.lt_of_lt_of_le hblt hB.size
          have kA : ∀ o, (wr.alloc o).drew.cell? ⟨b, off + j, none⟩ = some (.string p) := fun o => ((bl_alloc wr o).cell (p := ⟨b, off + j, none⟩) hbwr).trans hck
          have k0 : wr.drew.cell? ⟨b, off + j, none⟩ = some (.string p) := hck
          have HCAT : Hid ((⟨acc.toArray⟩ : ByteArray) ++ ⟨#[c]⟩ ++ p = ⟨(acc ++ c :: p.data.toList).toArray⟩) := by
            show _ = _
            apply ByteArray.ext
            apply Array.ext'
            simp [ByteArray.data_append]
          go_wp2_with fail
          go_region
          all_goals (try go_wp2)
          go_roundw
          case rel => exact ⟨j + 1, acc ++ c :: p.data.toList, by go_num, by omega, by omega, by first | exact congrArg Value.string HCAT.out | rfl, HA3, by first | exact bl_step hB (bl_alloc _ _).drew | exact bl_step hB (bl_dr (bl_alloc _ _))⟩
          case measure => simp [intOf]; omega
        · obtain rfl : j = L.length := by omega
          have HF : Hid (acc = s.data.toList) := by
            show _ = _
            have := HA2.out
            rw [List.drop_length] at this
            simpa [tailJ] using this
          have hne : (acc == s.toList) = true := by rw [HF.out, ByteArray.toList_eq]; simp
          have hne2 : ((⟨acc.toArray⟩ : ByteArray).toList == s.toList) = true := by rw [ByteArray.toList_eq]; exact hne
          go_wp2_with fail
          go_ret
          exact ⟨rfl, bl_step T hB⟩
end Go.Proofs.YtimjfcipkmcgmaaDoor
