/-
  PROVED: contracts of the marks on rows of texts; the walk of the law of the parting of a text.
  CONDITIONS: none.
-/
import Derived.Test.YtimjfcipkmcgmaaDoorPtc
import Derived.Test.YtimjfcipkmcgmaaDoorShp
import Derived.Deep.RegionHeld3
namespace Go.Proofs.YtimjfcipkmcgmaaDoor
open Go.ChangeShapes Go.WideShapes Go.ChangeAt Go.RowKit
set_option linter.unusedVariables false
def mkT (k : Int) : ByteArray := ⟨(109 :: Lib.decDigits k.toNat).toArray⟩
set_option maxRecDepth 100000 in
set_option maxHeartbeats 1000000 in
theorem markText_any (k : Int) (w : World) (h0 : 0 < k) (h1 : k ≤ 9223372036854775807) :
    Calls Tryd.prog 41 #[.int .i64 k] w fun e w' => e = .returned (.string (mkT k)) ∧ Below w.heap.size w w' := by
  obtain ⟨N, rfl⟩ := Int.eq_ofNat_of_zero_le (show 0 ≤ k by omega)
  have HT : Hid (mkT (N : Int) = ⟨(109 :: Lib.decDigits N).toArray⟩) := rfl
  have hN0 : 0 < N := by omega
  have hN1 : N ≤ 9223372036854775808 := by omega
  have hn1 : decide ((N : Int) ≤ 0) = false := by rw [decide_eq_false_iff_not]; omega
  go_enter Tryd.func41, Tryd.ntmps41
  go_wp2_with fail
  go_loopw [0, 3] (fun nv o wr => ∃ (c : Nat) (l : List UInt8), nv = .int .i64 (c : Int) ∧ c ≤ 9223372036854775807 ∧ o = .string ⟨l.toArray⟩ ∧ Hid (dd c ++ l = Lib.decDigits N) ∧ Below w.heap.size w wr) (fun nv _ _ => (intOf nv).toNat)
  case atStart => exact ⟨N, [], rfl, by omega, rfl, Lib.hid (by rw [dd_pos hN0]; simp), Below.refl _ _⟩
  case round =>
    obtain ⟨c, l, rfl, hc, rfl, HL, hB⟩ := hrel
    have hll : l.length ≤ 20 := by have h2 := dec_len hN0 hN1; have := congrArg List.length HL.out; rw [List.length_append] at this; omega
    by_cases hz : c = 0
    · subst hz
      have HLL : Hid (l = Lib.decDigits N) := by have := HL.out; rwa [dd_zero] at this
      have HCT := Lib.hid (ba_cat [109] l)
      go_wp2
      go_ret
      exact ⟨ret_str (by rw [HT.out, ← HLL.out]; exact HCT.out), hB⟩
    · have hm0 : (0 : Int) ≤ (c : Int) % 10 := by omega
      have hm1 : (c : Int) % 10 < 10 := by omega
      have hp : (0 : Int) < (c : Int) := by omega
      clear hz
      have HL2 : Hid (dd (c / 10) ++ (UInt8.ofNat (48 + c % 10) :: l) = Lib.decDigits N) := by show _ = _; rw [← HL.out, dd_step (c := c) (by omega)]; simp
      have hby := dig_byte c
      generalize UInt8.ofNat (48 + c % 10) = b at *
      have hcv := cv_one wr _ _ hby
      have HCT := Lib.hid (ba_cat [b] l)
      go_wp2_with fail
      go_roundw
      case rel => exact ⟨c / 10, b :: l, by go_num, by omega, by first | rfl | (congr 1; exact HCT.out), HL2, bl_al hB _⟩
      case measure => simp [intOf]; omega
theorem Out.trans_below {lo hi : Nat} {w w1 w2 : World} (h : Out lo hi w w1) (hb : Below w1.heap.size w1 w2) : Out lo hi w w2 :=
  ⟨hb.os.trans h.os, hb.tape.trans h.tape, hb.output.trans h.output, Nat.le_trans h.size hb.size, fun b h1 h2 => (hb.block b (Nat.lt_of_lt_of_le h1 h.size)).trans (h.block b h1 h2)⟩
def HalfS (k : Int) (cs : Array Value) (L : List ByteArray) (j n : Nat) : Prop :=
  n ≤ cs.size ∧ ∀ i, i < n → cs[i]? = some (.string (if i < j then mkT (k + i) else L.getD i ByteArray.empty))
theorem HalfS.step {k : Int} {cs : Array Value} {L : List ByteArray} {j n : Nat} (h : HalfS k cs L j n) (hj : j < n) : HalfS k (cs.setIfInBounds j (.string (mkT (k + j)))) L (j + 1) n := by
  obtain ⟨h1, h2⟩ := h
  refine ⟨by simpa using h1, fun i hi => ?_⟩
  rw [Array.getElem?_setIfInBounds]
  by_cases hij : j = i
  · subst hij
    rw [if_pos rfl, if_pos (by omega), if_pos (by omega)]
  · rw [if_neg hij, h2 i hi]
    by_cases hlt : i < j
    · rw [if_pos hlt, if_pos (by omega)]
    · rw [if_neg hlt, if_neg (by omega)]
theorem HalfS.get {k : Int} {cs : Array Value} {L : List ByteArray} {j n : Nat} (h : HalfS k cs L j n) (hj : j < n) : ∃ x, cs[j]? = some (.string x) := ⟨_, h.2 j hj⟩
def marksT (k : Int) (n : Nat) : List ByteArray := (List.range n).map fun i : Nat => mkT (k + (i : Int))
theorem marksT_len (k : Int) (n : Nat) : (marksT k n).length = n := by simp [marksT]
theorem marksT_get (k : Int) (n i : Nat) (h : i < n) : (marksT k n).getD i ByteArray.empty = mkT (k + i) := by
  simp [marksT, List.getD_eq_getElem?_getD, h]
set_option maxHeartbeats 1000000 in
theorem markStringS_any (a : Option Addr) (n cap : Nat) (k : Int) (L : List ByteArray) (lo hi : Nat) (w : World) (hz : L.length = n) (hn0 : 0 < n) (hn : n ≤ 4194304) (hk : 0 < k) (hk2 : k ≤ 1099511627776) (ha : OwnS w lo hi a L) :
    Calls Tryd.prog 21 #[.slice a n cap, .int .i64 k] w fun e w' => e = .returned (.int .i64 (k + n)) ∧ OwnS w' lo hi a (marksT k n) ∧ Out lo hi w w' := by
  have HZ := Lib.hid hz; clear hz
  rcases ha with ⟨_, h⟩ | ⟨B, cs, E, rfl, hB1, hB2, hh, hcs, hcc⟩
  · exfalso; rw [h] at HZ; have := HZ.out; simp at this; omega
  · have HH : Hid (HalfS k cs L 0 n) := ⟨by rw [← HZ.out]; exact hcs, fun i hi => by rw [if_neg (by omega)]; exact hcc i (by rw [HZ.out]; exact hi)⟩
    clear hcs hcc
    go_enter Tryd.func21, Tryd.ntmps21
    go_wp2_with fail
    go_loopw [1, 5] (fun q i wr => ∃ (j : Nat) (cs' : Array Value), j ≤ n ∧ q = .int .i64 (k + j) ∧ i = .int .i64 j ∧ HalfS k cs' L j n ∧ wr.heap[B]? = some (.cells cs' E (0, 0)) ∧ Out lo hi w wr) (fun _ i _ => n - (intOf i).toNat)
    case atStart => exact ⟨0, cs, by omega, by simp, rfl, HH.out, hh, Out.refl _ _ _⟩
    case round =>
      obtain ⟨j, cs', hj, rfl, rfl, hM, hhr, hO⟩ := hrel
      have HM := Lib.hid hM; clear hM
      have HHR := Lib.hid hhr; clear hhr hh
      by_cases hlt : j < n
      · obtain ⟨x, hx⟩ := HM.out.get hlt
        have HX := Lib.hid hx
        clear hx
        go_wp2_with fail
        refine (markText_any _ _ (by omega) (by omega)).mono ?_
        rintro e w2 ⟨rfl, hb2⟩
        have hh2 := (hb2.block B (lt_of_heap HHR.out)).trans HHR.out
        have HH2 := Lib.hid hh2
        have hcell : w2.cell? ⟨B, j, none⟩ = some (.string x) := (cell_of_heap hh2 j).trans HX.out
        have hfree : w2.frozen? ⟨B, j, none⟩ = false := free_of_heap hh2 j
        clear hh2
        have hO2 := Out.trans_below hO hb2
        have HST := Lib.hid (HM.out.step hlt)
        generalize mkT (k + (j : Int)) = y at *
        go_wp2_with fail
        go_roundw
        case rel => exact ⟨j + 1, cs'.setIfInBounds j (.string y), by omega, by first | go_num | (congr 1; omega), by go_num, HST.out, setCell_block HH2.out _, hO2.setCell hB1 hB2 _ _⟩
        case measure => simp [intOf]; omega
      · obtain rfl : j = n := by omega
        go_wp2_with fail
        go_ret
        refine ⟨rfl, .inr ⟨B, cs', E, rfl, hB1, hB2, HHR.out, by rw [marksT_len]; exact HM.out.1, fun i hi => ?_⟩, hO⟩
        rw [marksT_len] at hi
        rw [marksT_get _ _ _ hi, HM.out.2 i hi, if_pos hi]
set_option maxHeartbeats 1000000 in
theorem heldStringS_any (a : Option Addr) (n cap : Nat) (k : Int) (w : World) (hn0 : 0 < n) (hn : n ≤ 4194304) (hk : 0 < k) (hk2 : k ≤ 1099511627776) (ha : StrAt w a (marksT k n)) :
    Calls Tryd.prog 22 #[.slice a n cap, .int .i64 k] w fun e w' => e = .returned (.int .i64 (k + n)) ∧ Below w.heap.size w w' := by
  rcases ha with h | ⟨b, off, rfl, hb, hc⟩
  · exfalso; have := marksT_len k n; rw [h] at this; simp at this; omega
  · have HC : Hid (∀ i, i < n → w.cell? ⟨b, off + i, none⟩ = some (.string (mkT (k + i)))) := fun i hi => by rw [hc i (by rw [marksT_len]; exact hi), marksT_get _ _ _ hi]
    clear hc
    go_enter Tryd.func22, Tryd.ntmps22
    go_wp2_with fail
    go_loopw [1, 5] (fun q i wr => ∃ j : Nat, j ≤ n ∧ q = .int .i64 (k + j) ∧ i = .int .i64 j ∧ Below w.heap.size w wr) (fun _ i _ => n - (intOf i).toNat)
    case atStart => exact ⟨0, by omega, by simp, rfl, Below.refl _ _⟩
    case round =>
      obtain ⟨j, hj, rfl, rfl, hB⟩ := hrel
      by_cases hlt : j < n
      · have hblt : b < wr.heap.size := Nat.lt_of_lt_of_le hb hB.size
        have hck : wr.cell? ⟨b, off + j, none⟩ = some (.string (mkT (k + j))) := (hB.cell (p := ⟨b, off + j, none⟩) hb).trans (HC.out j hlt)
        have HCT := Lib.hid (fun W : World => markText_any (k + (j : Int)) W (by omega) (by omega))
        generalize mkT (k + (j : Int)) = y at *
        have hx0 : (0 : Int) ≤ (j : Int) := by omega
        have hx1 : (j : Int) < (n : Int) := by omega
        have hb0 : Below wr.heap.size wr wr.drew := bl_drew wr
        have k0 : wr.drew.cell? ⟨b, off + j, none⟩ = some (.string y) := hck
        go_wp2_with fail
        go_region_held3 (fun w' => w'.cell? ⟨b, off + j, none⟩ = some (.string y))
          (first | with_reducible exact k1 | with_reducible exact k0)
          (first | (go_at_call 41; refine (HCT.out _).mono ?_; rintro e w2 ⟨rfl, hb2⟩; have k1 : w2.cell? ⟨b, off + j, none⟩ = some (.string y) := (hb2.cell (p := ⟨b, off + j, none⟩) hblt).trans k0; have hbF := bl_step hb0 hb2))
        go_wp2
        go_roundw
        case rel => exact ⟨j + 1, by omega, by first | go_num | (congr 1; omega), by go_num, bl_step hB hbF⟩
        case measure => simp [intOf]; omega
      · obtain rfl : j = n := by omega
        go_wp2_with fail
        go_ret
        exact ⟨rfl, hB⟩
set_option maxHeartbeats 1000000 in
theorem eqStringS_refl (a a' : Option Addr) (n cap cap' : Nat) (L : List ByteArray) (w : World) (hz : L.length = n) (hn0 : 0 < n) (hn : n ≤ 4194304) (ha : StrAt w a L) (ha' : StrAt w a' L) :
    Calls Tryd.prog 20 #[.slice a n cap, .slice a' n cap'] w fun e w' => e = .returned (.bool true) ∧ Below w.heap.size w w' := by
  have HZ := Lib.hid hz; clear hz
  rcases ha with h | ⟨b, off, rfl, hb, hc⟩
  · exfalso; rw [h] at HZ; have := HZ.out; simp at this; omega
  · rcases ha' with h | ⟨b', off', rfl, hb', hc'⟩
    · exfalso; rw [h] at HZ; have := HZ.out; simp at this; omega
    · have HC := Lib.hid hc; clear hc
      have HC' := Lib.hid hc'; clear hc'
      go_enter Tryd.func20, Tryd.ntmps20
      go_wp2_with fail
      go_loopw [5] (fun i wr => ∃ j : Nat, j ≤ n ∧ i = .int .i64 j ∧ Below w.heap.size w wr) (fun i _ => n - (intOf i).toNat)
      case atStart => exact ⟨0, by omega, rfl, Below.refl _ _⟩
      case round =>
        obtain ⟨j, hj, rfl, hB⟩ := hrel
        by_cases hlt : j < n
        · have hci : wr.cell? ⟨b, off + j, none⟩ = some (.string (L.getD j ByteArray.empty)) := (hB.cell (p := ⟨b, off + j, none⟩) hb).trans (HC.out j (by rw [HZ.out]; exact hlt))
          have hci' : wr.cell? ⟨b', off' + j, none⟩ = some (.string (L.getD j ByteArray.empty)) := (hB.cell (p := ⟨b', off' + j, none⟩) hb').trans (HC'.out j (by rw [HZ.out]; exact hlt))
          have hi1 : (j : Int) < (n : Int) := by omega
          have hi0 : (0 : Int) ≤ (j : Int) := by omega
          generalize L.getD j ByteArray.empty = x at *
          go_wp2_with fail
          go_quiet (fail)
          go_wp2
          go_roundw
          case rel => exact ⟨j + 1, by omega, by go_num, bl_step hB (bl_drewN _ _)⟩
          case measure => simp [intOf]; omega
        · obtain rfl : j = n := by omega
          go_wp2_with fail
          go_ret
          exact ⟨rfl, hB⟩
set_option maxHeartbeats 2000000 in
theorem walkFnExactParts (a0 : ByteArray) (a1 : Int) (w : World) (w0 : a0.size ≤ maxLen) (w1 : (Lit.int .u8 a1).wf = true) (mx : Int) (hmx : w.cell? ⟨0, 0, none⟩ = some (.int .i64 mx)) :
    Calls Tryd.prog 5 #[.string a0, .int .u8 a1] w fun e w' => e = .returned (.bool true) ∧ Below w.heap.size w w' := by
  obtain ⟨hb0, hb1⟩ := bounds_u8 w1
  obtain ⟨c, rfl⟩ : ∃ c : UInt8, a1 = (c.toNat : Int) := ⟨UInt8.ofNat a1.toNat, by rw [UInt8.toNat_ofNat']; omega⟩
  have HML := Lib.hid (lt_of_cell hmx)
  have HMX := Lib.hid hmx
  clear hmx w1
  by_cases hbig : (a0.size : Int) > 1048576
  · go_enter Tryd.func5, Tryd.ntmps5
    go_wp2
    go_ret
    exact ⟨rfl, Below.refl _ _⟩
  · have hs : a0.size ≤ 1048576 := by omega
    clear w0 hb0 hb1
    have hl0 : 0 < (partsB c a0).length := by rw [partsB_len]; omega
    have hl := partsB_le c a0
    have HS := Lib.hid (sParts_any a0 c w hs)
    have HI := Lib.hid (fun (W : World) (hW : Below w.heap.size w W) => iParts_any a0 c mx W hs ((hW.cell (p := ⟨0, 0, none⟩) HML.out).trans HMX.out) (Nat.lt_of_lt_of_le HML.out hW.size))
    generalize partsB c a0 = L at *
    have T := Below.refl w.heap.size w
    go_enter Tryd.func5, Tryd.ntmps5
    go_wp2_with fail
    refine HS.out.mono ?_
    rintro e wv1 ⟨a3, c3, rfl, o_3, hb⟩
    have hs1 : _ ≤ wv1.heap.size := hb.size
    replace T := bl_step T hb
    go_wp2_with fail
    refine (HI.out _ T).mono ?_
    rintro e wv2 ⟨a4, c4, rfl, o_4, hb⟩
    have hs2 : _ ≤ wv2.heap.size := hb.size
    replace o_3 := o_3.below hb
    replace T := bl_step T hb
    go_wp2_with fail
    refine (eqStringS_refl _ _ _ _ _ L _ rfl hl0 (by omega) o_4.row o_3.row).mono ?_
    rintro e wv3 ⟨rfl, hb⟩
    have hs3 : _ ≤ wv3.heap.size := hb.size
    replace o_3 := o_3.below hb
    replace o_4 := o_4.below hb
    replace T := bl_step T hb
    go_wp2_with fail
    refine (markStringS_any _ _ _ _ L _ _ _ rfl hl0 (by omega) (by omega) (by omega) o_4).mono ?_
    rintro e wv4 ⟨rfl, o_4', ho⟩
    replace o_3 := o_3.out ho (by omega)
    replace T := below_out T ho (by omega)
    have hs4 := ho.size
    replace o_4 := o_4'
    go_wp2_with fail
    refine (heldStringS_any _ _ _ _ _ hl0 (by omega) (by omega) (by omega) o_4.row).mono ?_
    rintro e wv5 ⟨rfl, hb⟩
    have hs5 : _ ≤ wv5.heap.size := hb.size
    replace o_3 := o_3.below hb
    replace o_4 := o_4.below hb
    replace T := bl_step T hb
    go_wp2_with fail
    refine (HI.out _ T).mono ?_
    rintro e wv6 ⟨a7, c7, rfl, o_7, hb⟩
    have hs6 : _ ≤ wv6.heap.size := hb.size
    replace o_3 := o_3.below hb
    replace o_4 := o_4.below hb
    replace T := bl_step T hb
    go_wp2_with fail
    refine (eqStringS_refl _ _ _ _ _ L _ rfl hl0 (by omega) o_7.row o_3.row).mono ?_
    rintro e wv7 ⟨rfl, hb⟩
    have hs7 : _ ≤ wv7.heap.size := hb.size
    replace o_4 := o_4.below hb
    replace T := bl_step T hb
    go_wp2_with fail
    refine (heldStringS_any _ _ _ _ _ hl0 (by omega) (by omega) (by omega) o_4.row).mono ?_
    rintro e wv8 ⟨rfl, hb⟩
    replace T := bl_step T hb
    go_wp2_with fail
    go_ret
    exact ⟨rfl, T⟩
end Go.Proofs.YtimjfcipkmcgmaaDoor
