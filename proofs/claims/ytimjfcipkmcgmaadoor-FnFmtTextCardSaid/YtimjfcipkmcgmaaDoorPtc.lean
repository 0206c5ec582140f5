/-
  PROVED: contracts of the parting of a text, the reference's and the program's.
  CONDITIONS: none.
-/
import Derived.Test.YtimjfcipkmcgmaaDoorPts
import Derived.Test.YtimjfcipkmcgmaaDoorDig
import Derived.Test.YtimjfcipkmcgmaaDoorShelf
import Derived.Maps.AppendAt
namespace Go.Proofs.YtimjfcipkmcgmaaDoor
open Go.ChangeShapes Go.WideShapes Go.ChangeAt Go.RowKit
set_option linter.unusedVariables false
/-- a row of texts -/
def StrAt (w : World) (a : Option Addr) (L : List ByteArray) : Prop := L = [] ∨ ∃ b off, a = some ⟨b, off, none⟩ ∧ b < w.heap.size ∧ ∀ i, i < L.length → w.cell? ⟨b, off + i, none⟩ = some (.string (L.getD i ByteArray.empty))
def OwnS (w : World) (lo hi : Nat) (a : Option Addr) (L : List ByteArray) : Prop :=
  (a = none ∧ L = []) ∨ ∃ B cs E, a = some ⟨B, 0, none⟩ ∧ lo ≤ B ∧ B < hi ∧ w.heap[B]? = some (.cells cs E (0, 0)) ∧ L.length ≤ cs.size ∧ ∀ i, i < L.length → cs[i]? = some (.string (L.getD i ByteArray.empty))
theorem StrAt.below {w w' : World} {a : Option Addr} {L : List ByteArray} (h : StrAt w a L) (hb : Below w.heap.size w w') : StrAt w' a L := by
  rcases h with h | ⟨b, off, ha, hl, hc⟩
  · exact .inl h
  · exact .inr ⟨b, off, ha, Nat.lt_of_lt_of_le hl hb.size, fun i hi => (hb.cell (p := ⟨b, off + i, none⟩) hl).trans (hc i hi)⟩
theorem OwnS.row {w : World} {lo hi : Nat} {a : Option Addr} {L : List ByteArray} (h : OwnS w lo hi a L) : StrAt w a L := by
  rcases h with ⟨_, h⟩ | ⟨B, cs, E, ha, _, _, hh, _, hc⟩
  · exact .inl h
  · refine .inr ⟨B, 0, ha, lt_of_heap hh, fun i hi => ?_⟩
    rw [Nat.zero_add, ← hc i hi]
    simp [World.cell?, hh]
theorem OwnS.below {w w' : World} {lo hi : Nat} {a : Option Addr} {L : List ByteArray} (h : OwnS w lo hi a L) (hb : Below w.heap.size w w') : OwnS w' lo hi a L := by
  rcases h with h | ⟨B, cs, E, ha, h1, h2, hh, h3, hc⟩
  · exact .inl h
  · exact .inr ⟨B, cs, E, ha, h1, h2, (hb.block B (lt_of_heap hh)).trans hh, h3, hc⟩
theorem OwnS.out {w w' : World} {lo hi lo' hi' : Nat} {a : Option Addr} {L : List ByteArray} (h : OwnS w lo hi a L) (ho : Out lo' hi' w w') (hd : hi ≤ lo' ∨ hi' ≤ lo) : OwnS w' lo hi a L := by
  rcases h with h | ⟨B, cs, E, ha, h1, h2, hh, h3, hc⟩
  · exact .inl h
  · exact .inr ⟨B, cs, E, ha, h1, h2, (ho.block B (lt_of_heap hh) (by omega)).trans hh, h3, hc⟩
theorem OwnS.wide {w : World} {lo hi lo' hi' : Nat} {a : Option Addr} {L : List ByteArray} (h : OwnS w lo hi a L) (h1 : lo' ≤ lo) (h2 : hi ≤ hi') : OwnS w lo' hi' a L := by
  rcases h with h | ⟨B, cs, E, ha, b1, b2, r⟩
  · exact .inl h
  · exact .inr ⟨B, cs, E, ha, by omega, by omega, r⟩
theorem ownS_of_row {L : List ByteArray} {w : World} {lo hi : Nat} {E : TypeId} {v : Value} {n : Nat} (h : w.ownsRow lo E 1 v n (L.map Value.string)) (hz : L.length = n) (hhi : w.heap.size ≤ hi) : ∃ a c, v = .slice a n c ∧ OwnS w lo hi a L := by
  obtain ⟨hl, h⟩ := h
  rcases h with ⟨rfl, rfl⟩ | ⟨g, cap, cur, rfl, hg, hh, hn, hc, hcs, ht⟩
  · exact ⟨none, 0, rfl, .inl ⟨rfl, List.eq_nil_of_length_eq_zero hz⟩⟩
  · refine ⟨_, cap, rfl, .inr ⟨g, cur, E, rfl, hg, by have := lt_of_heap hh; omega, hh, by rw [hcs]; omega, fun i hi => ?_⟩⟩
    have h1 : (cur.toList.take (n * 1))[i]? = (L.map Value.string)[i]? := by rw [ht]
    rw [List.getElem?_take, if_pos (by omega)] at h1
    rw [← Array.getElem?_toList, h1]
    simp [List.getElem?_eq_getElem hi, List.getD_eq_getElem?_getD]
theorem ownS_alloc (L : List ByteArray) (w : World) (E : TypeId) : OwnS (w.alloc (.cells (L.map Value.string).toArray E)) w.heap.size (w.alloc (.cells (L.map Value.string).toArray E)).heap.size (some ⟨w.heap.size, 0, none⟩) L := by
  refine .inr ⟨w.heap.size, (L.map Value.string).toArray, E, rfl, Nat.le_refl _, by simp, ?_, by simp, fun i hi => ?_⟩
  · show (w.heap.push _)[w.heap.size]? = _
    simp
  · simp [List.getElem?_eq_getElem hi, List.getD_eq_getElem?_getD]
def PartsOwn (L : List ByteArray) (w : World) : Ending → World → Prop := fun e w' =>
  ∃ a c, e = .returned (.slice a L.length c) ∧ OwnS w' w.heap.size w'.heap.size a L ∧ Below w.heap.size w w'
theorem own_fromS {w : World} {b : Nat} {e : TypeId} {v : Value} {n : Nat} {xs : List Value} (h : w.ownsRow b e 1 v n xs) : ∀ k, v.ownBlock = some k → b ≤ k := by
  intro k hk
  rcases h.2 with ⟨rfl, _⟩ | ⟨g, cap, cur, rfl, hg, _⟩
  · simp [Value.ownBlock] at hk
  · simp [Value.ownBlock] at hk
    omega
theorem oneS (x : ByteArray) : ∀ u ∈ [Value.string x], u.oneCell' = true := by
  intro u hu
  obtain rfl := List.mem_singleton.1 hu
  rfl
theorem maxS {n : Nat} (h : n ≤ 1048577) : n + 1 ≤ maxLen := by unfold maxLen; omega
theorem bytS {n : Nat} (h : n ≤ 1048577) : (n + 1) * 16 ≤ 140737488355328 := by omega
theorem baseS {w wr : World} (h : Below w.heap.size w wr) (o : Obj) : w.heap.size ≤ (wr.alloc o).heap.size := (bl_al h o).size
theorem infoS : (Tryd.prog.info? 9).map (fun i => (i.zero, i.size, i.bytes)) = some (some (.string ByteArray.empty), 1, 16) := by kernel_rfl
theorem byte_ne {a b : UInt8} (h : ¬ a = b) : ¬ (a.toNat : Int) = (b.toNat : Int) := fun e => h (UInt8.toNat_inj.1 (by omega))
set_option maxRecDepth 100000 in
set_option maxHeartbeats 2000000 in
theorem sParts_any (s : ByteArray) (c : UInt8) (w : World) (hs : s.size ≤ 1048576) : Calls Tryd.prog 18 #[.string s, .int .u8 (c.toNat : Int)] w (PartsOwn (partsB c s) w) := by
  have HALL := Lib.hid (pF_all c s)
  obtain ⟨i0, hi, hz0, hz1, hz2⟩ := info_parts infoS
  have HI := Lib.hid hi; clear hi
  go_enter Tryd.func18, Tryd.ntmps18
  go_wp2_with fail
  go_loopw [5, 6, 7] (fun v f i wr => ∃ (acc : List ByteArray) (fr k : Nat), f = .int .i64 fr ∧ i = .int .i64 k ∧ fr ≤ k ∧ k ≤ s.size + 1 ∧ acc.length ≤ k ∧ wr.ownsRow w.heap.size 9 1 v acc.length (acc.map Value.string) ∧ Below w.heap.size w wr ∧ Hid ((k ≤ s.size → acc ++ pF c s fr (s.size - k) = partsB c s) ∧ (k = s.size + 1 → acc = partsB c s))) (fun _ _ i _ => s.size + 1 - (intOf i).toNat)
  case atStart => exact ⟨[], 0, 0, rfl, rfl, by omega, by omega, by simp, World.ownsRow_made (e := 9) (size := 1) w #[] 0 (Nat.le_refl _) (Nat.zero_le _) rfl, bl_alloc _ _, Lib.hid ⟨fun _ => by rw [List.nil_append, Nat.sub_zero]; exact HALL.out, fun h => by omega⟩⟩
  case round =>
    obtain ⟨acc, fr, k, rfl, rfl, hfr, hk, hal, hown, hB, HA⟩ := hrel
    have HOWN := Lib.hid hown; clear hown
    have hal2 : acc.length ≤ 1048577 := by omega
    by_cases hk1 : k ≤ s.size
    · have HA1 := Lib.hid (HA.out.1 hk1)
      by_cases hk2 : k < s.size
      · by_cases hc : s[k] = c
        · have HS := Lib.hid (pF_hit (fr := fr) hk2 hc)
          have hcc : (s[k].toNat == c.toNat) = true := by rw [hc]; simp
          have hcd : ((s[k].toNat : Int) == (c.toNat : Int)) = true := by rw [hc]; simp
          clear hc
          go_wp2_with (at_builtin; refine wpList_append_own _ rfl _ _ 36 rfl w.heap.size 9 i0 (.string ByteArray.empty) 1 16 Tryd.underlying36 HI.out hz0 hz1 hz2 rfl (by decide) _ _ _ rfl (HOWN.out.alloc _) ⟨wr.heap.size, 0, none⟩ 1 1 [.string (s.extract fr k)] rfl rfl (cell_one_new _ _ _) (oneS _) (maxS hal2) (bytS hal2) (baseS hB _) ?_)
          intro v1 w1 hown1 hgrow1 _
          have hB1 : Below w.heap.size w w1 := (bl_al hB _).grown hgrow1 (by have := hB.size; simp; omega) (own_fromS HOWN.out)
          have HOWN1 := Lib.hid hown1
          clear hown1
          go_wp2
          go_roundw
          case rel => exact ⟨acc ++ [s.extract fr k], k + 1, k + 1, by go_num, by go_num, by omega, by omega, by simp; omega, by have := HOWN1.out; simpa using this, hB1, Lib.hid ⟨fun _ => by rw [← HA1.out, HS.out]; simp, fun h => by omega⟩⟩
          case measure => simp [intOf]; omega
        · have HS := Lib.hid (pF_miss (fr := fr) hk2 hc)
          have hcc : (s[k].toNat == c.toNat) = false := beq_eq_false_iff_ne.2 (fun e => hc (UInt8.toNat_inj.1 e))
          have hcd : ((s[k].toNat : Int) == (c.toNat : Int)) = false := beq_eq_false_iff_ne.2 (byte_ne hc)
          go_wp2_with fail
          go_roundw
          case rel => exact ⟨acc, fr, k + 1, rfl, by go_num, by omega, by omega, by omega, HOWN.out, hB, Lib.hid ⟨fun _ => by rw [← HS.out]; exact HA1.out, fun h => by omega⟩⟩
          case measure => simp [intOf]; omega
      · obtain rfl : k = s.size := by omega
        have HS := Lib.hid (pF_end (c := c) (s := s) (fr := fr) (i := s.size) (by omega))
        go_wp2_with (at_builtin; refine wpList_append_own _ rfl _ _ 36 rfl w.heap.size 9 i0 (.string ByteArray.empty) 1 16 Tryd.underlying36 HI.out hz0 hz1 hz2 rfl (by decide) _ _ _ rfl (HOWN.out.alloc _) ⟨wr.heap.size, 0, none⟩ 1 1 [.string (s.extract fr s.size)] rfl rfl (cell_one_new _ _ _) (oneS _) (maxS hal2) (bytS hal2) (baseS hB _) ?_)
        intro v1 w1 hown1 hgrow1 _
        have hB1 : Below w.heap.size w w1 := (bl_al hB _).grown hgrow1 (by have := hB.size; simp; omega) (own_fromS HOWN.out)
        have HOWN1 := Lib.hid hown1
        clear hown1
        go_wp2
        go_roundw
        case rel => exact ⟨acc ++ [s.extract fr s.size], s.size + 1, s.size + 1, by go_num, by go_num, by omega, by omega, by simp; omega, by have := HOWN1.out; simpa using this, hB1, Lib.hid ⟨fun h => by omega, fun _ => by rw [← HA1.out, HS.out]⟩⟩
        case measure => simp [intOf]
    · obtain rfl : k = s.size + 1 := by omega
      have HF := Lib.hid (HA.out.2 rfl)
      have hown2 := HOWN.out
      rw [HF.out] at hown2
      obtain ⟨a', c', rfl, hoa⟩ := ownS_of_row (hi := wr.heap.size) hown2 rfl (Nat.le_refl _)
      clear hown2
      go_wp2
      go_ret
      exact ⟨a', c', rfl, hoa, hB⟩
theorem cv_byte (w : World) (c : UInt8) : (convert 28 9 (.slice (some ⟨w.heap.size, 0, none⟩) 1 1)).run Tryd.prog (w.alloc (.cells #[.int .u8 (c.toNat : Int)] 5)) = .ok (.string ⟨#[c]⟩) (w.alloc (.cells #[.int .u8 (c.toNat : Int)] 5)) := cv_one w _ c rfl
theorem split_one (s : ByteArray) (c : UInt8) (m : Int) (w : World) (hs : s.size ≤ 1048576) (hm : w.cell? ⟨0, 0, none⟩ = some (.int .i64 m)) :
    Calls Tryd.prog 40 #[.string s, .string ⟨#[c]⟩] w fun e w' => e = .returned (.slice (some ⟨w.heap.size, 0, none⟩) (partsB c s).length (partsB c s).length) ∧ w' = w.alloc (.cells ((partsB c s).map Value.string).toArray 9) := by
  rw [partsB_len]
  exact Tryd.strings_Split s ⟨#[c]⟩ m w (by omega) hm (by simp [ByteArray.size])
set_option maxHeartbeats 1000000 in
theorem iParts_any (s : ByteArray) (c : UInt8) (m : Int) (w : World) (hs : s.size ≤ 1048576) (hm : w.cell? ⟨0, 0, none⟩ = some (.int .i64 m)) (hml : 0 < w.heap.size) : Calls Tryd.prog 19 #[.string s, .int .u8 (c.toNat : Int)] w (PartsOwn (partsB c s) w) := by
  have hcv := cv_byte w c
  have HM : Hid ((w.alloc (.cells #[.int .u8 (c.toNat : Int)] 5)).cell? ⟨0, 0, none⟩ = some (.int .i64 m)) := ((bl_alloc w _).cell (p := ⟨0, 0, none⟩) hml).trans hm
  clear hm
  go_enter Tryd.func19, Tryd.ntmps19
  go_wp2_with fail
  refine (split_one s c m _ hs HM.out).mono ?_
  rintro e w1 ⟨rfl, rfl⟩
  go_wp2
  go_ret
  refine ⟨_, _, rfl, ?_, bl_step (bl_alloc _ _) (bl_alloc _ _)⟩
  have ho := (ownS_alloc (partsB c s) (w.alloc (.cells #[.int .u8 (c.toNat : Int)] 5)) 9).wide (bl_alloc w _).size (Nat.le_refl _)
  simpa using ho
end Go.Proofs.YtimjfcipkmcgmaaDoor
