/-
  PROVED: contracts of the bits of a raw number as text, and the law on them.
  CONDITIONS: none.
-/
import Derived.Test.YtldidbejieekcaaRaw
import Derived.Test.YtldidbejieekcaaOwn
import Derived.Test.YtldidbejieekcaaDig
import Derived.Maps.AppendAt
namespace Go.Proofs.Ytldidbejieekcaa
open Go.ChangeShapes Go.WideShapes Go.ChangeAt Go.RowKit
set_option linter.unusedVariables false
/-- a row of bytes, converted to a string -/
theorem conv_rowB {P : Program} {w : World} {src dst e : TypeId} (hs : P.underlying src = some (.slice e)) (he : P.underlying e = some (.int .u8)) (hd : P.underlying dst = some .string) {a : Option Addr} {n : Nat} (cap : Nat) {zs : List Int} (hz : zs.length = n) (ha : RowAt .u8 w a zs) :
    (convert src dst (.slice a n cap)).run P w = .ok (.string (strOfNums zs)) w := by
  rcases ha with h | ⟨b, off, rfl, hb, hc⟩
  · subst h
    obtain rfl : n = 0 := hz.symm
    cases a with
    | none => exact run_convert_bytes_nil w src e hs he 0 cap dst hd
    | some a =>
      rw [run_convert_bytes_string w src dst e _ 0 cap hs he hd, run_bytesToString w a 0 cap [] (by have := run_loadCells_list (P := P) w a [] (fun j v hj => by simp at hj); simpa using this)]
      rfl
  · exact run_convert_bytes_arg w src e hs he b off n cap zs hz (fun i hi => hc i (by omega)) dst hd
def bitC (x : Int) (k : Nat) : UInt8 := if x / 2 ^ k % 2 = 0 then 48 else 49
def dotL (l : Int) (k : Nat) : List UInt8 := if (k : Int) = l - 1 then [46] else []
def bitsL (x l : Int) : Nat → List UInt8
  | 0 => []
  | k + 1 => dotL l k ++ bitC x k :: bitsL x l k
def bitsT (s : Bool) (n l v : Int) : List UInt8 := if rawOkB s n l v = true then bitsL (wordB s n l v) l n.toNat else []
theorem dotL_yes {l : Int} {k : Nat} (h : (k : Int) = l - 1) : dotL l k = [46] := if_pos h
theorem dotL_no {l : Int} {k : Nat} (h : ¬ (k : Int) = l - 1) : dotL l k = [] := if_neg h
theorem pw_le {n m : Int} (h : n ≤ m) : pw n ≤ pw m := by
  have h1 : (2 : Nat) ^ n.toNat ≤ 2 ^ m.toNat := Nat.pow_le_pow_right (by omega) (by omega)
  have h2 : pw n = ((2 ^ n.toNat : Nat) : Int) := by unfold pw; simp
  have h3 : pw m = ((2 ^ m.toNat : Nat) : Int) := by unfold pw; simp
  rw [h2, h3]; omega
theorem wordB_no {s : Bool} {n l v : Int} (h : rawOkB s n l v = false) : wordB s n l v = -1 := by unfold wordB; rw [if_neg (by simp [h])]
theorem wordB_bd {s : Bool} {n l v : Int} (h : rawOkB s n l v = true) : 0 ≤ wordB s n l v ∧ wordB s n l v < pw n := by
  have h1 := h
  unfold rawOkB at h1
  simp only [Bool.and_eq_true] at h1
  obtain ⟨hf, hv⟩ := h1
  obtain ⟨⟨h2, h3⟩, h4, h5⟩ := (fmtOkB_iff n l).1 hf
  obtain ⟨h6, h7⟩ := (inR_iff _ _ _).1 hv
  have h8 := pw_le (show n - 1 ≤ n by omega)
  have h9 := pw_bd (n - 1) (by omega)
  unfold leastB at h6
  unfold mostB at h7
  rw [if_pos hf] at h7
  unfold wordB
  rw [if_pos h]
  cases s
  · rw [if_neg (by simp)] at h6 h7
    split <;> omega
  · rw [if_pos ⟨hf, rfl⟩] at h6
    rw [if_pos rfl] at h7
    split <;> omega
theorem bitsT_no {s : Bool} {n l v : Int} (h : rawOkB s n l v = false) : bitsT s n l v = [] := by unfold bitsT; rw [if_neg (by simp [h])]
theorem bitsT_yes {s : Bool} {n l v : Int} (h : rawOkB s n l v = true) : bitsT s n l v = bitsL (wordB s n l v) l n.toNat := by unfold bitsT; rw [if_pos h]
theorem bit_two (x : Int) (k : Nat) : (x / 2 ^ k % 2 = 0 ∧ bitC x k = 48) ∨ (x / 2 ^ k % 2 = 1 ∧ bitC x k = 49) := by
  unfold bitC
  rcases Int.emod_two_eq (x / 2 ^ k) with h | h
  · exact .inl ⟨h, if_pos h⟩
  · exact .inr ⟨h, if_neg (by omega)⟩
theorem sDig0 (W : World) : Calls Try.prog 49 #[.int .i64 0] W fun e w' => e = .returned (.string ⟨#[48]⟩) ∧ Below W.heap.size W w' := by
  have := sDigits_any 0 W (by omega) (by omega)
  rwa [show Lib.itoa 0 = [48] from by have := Lib.itoa_nonneg 0; rw [Lib.decDigits_one (by omega)] at this; exact this] at this
theorem sDig1 (W : World) : Calls Try.prog 49 #[.int .i64 1] W fun e w' => e = .returned (.string ⟨#[49]⟩) ∧ Below W.heap.size W w' := by
  have := sDigits_any 1 W (by omega) (by omega)
  rwa [show Lib.itoa 1 = [49] from by have := Lib.itoa_nonneg 1; rw [Lib.decDigits_one (by omega)] at this; exact this] at this
theorem sDigBit (x : Int) (k : Nat) (W : World) : Calls Try.prog 49 #[.int .i64 (x / 2 ^ k % 2)] W fun e w' => e = .returned (.string ⟨#[bitC x k]⟩) ∧ Below W.heap.size W w' := by
  rcases bit_two x k with ⟨h1, h2⟩ | ⟨h1, h2⟩
  · rw [h1, h2]; exact sDig0 W
  · rw [h1, h2]; exact sDig1 W
theorem sDigBitT (x : Int) (k : Nat) (hx : 0 ≤ x) (W : World) : Calls Try.prog 49 #[.int .i64 ((x / 2 ^ k).tmod 2)] W fun e w' => e = .returned (.string ⟨#[bitC x k]⟩) ∧ Below W.heap.size W w' := by
  rw [Int.tmod_eq_emod_of_nonneg (Int.ediv_nonneg hx (by have := (Int.pow_pos (n := (2 : Int)) (m := k) (by omega)); omega))]
  exact sDigBit x k W
theorem three_box {w : World} {b : Nat} {c0 c1 c2 : Value} (h : BoxAt w b #[c0, c1, c2]) : w.cell? ⟨b, 0, none⟩ = some c0 ∧ w.cell? ⟨b, 1, none⟩ = some c1 ∧ w.cell? ⟨b, 2, none⟩ = some c2 := ⟨h.cell 0, h.cell 1, h.cell 2⟩
set_option maxHeartbeats 2000000 in
theorem sBitsText_any (s : Bool) (n l v : Int) (w : World) : Calls Try.prog 30 #[.agg #[.bool s, .int .i64 n, .int .i64 l], .int .i64 v] w fun e w' => e = .returned (.string ⟨(bitsT s n l v).toArray⟩) ∧ Below w.heap.size w w' := by
  have hB := Below.refl (w.alloc (.cells #[.bool s, .int .i64 n, .int .i64 l] 27)).heap.size (w.alloc (.cells #[.bool s, .int .i64 n, .int .i64 l] 27))
  cases hr : rawOkB s n l v
  · rw [bitsT_no hr]
    have HW := Lib.hid (wordB_no hr)
    clear hr
    go_enter Try.func30, Try.ntmps30
    go_wp2_with (go_at_call 28; refine (sWordOf_any _ _ _ _ _).mono ?_; rintro e w1 ⟨rfl, hb⟩; rw [HW.out]; have hB := bl_step hB hb; clear hb)
    go_ret
    exact ⟨rfl, bl_step (bl_alloc _ _) hB⟩
  · rw [bitsT_yes hr]
    obtain ⟨hx0, hx1⟩ := wordB_bd hr
    have hf : (2 ≤ n ∧ n ≤ 60) ∧ 0 ≤ l ∧ l ≤ n := by
      unfold rawOkB at hr
      simp only [Bool.and_eq_true] at hr
      exact (fmtOkB_iff n l).1 hr.1
    obtain ⟨⟨hn2, hn60⟩, hl0, hl1⟩ := hf
    have HC := Lib.hid (fun W : World => sWordOf_any s n l v W)
    generalize wordB s n l v = x at *
    clear hr
    have hpb := (pw_bd n (by omega)).2
    have hx2 : x ≤ 4611686018427387903 := by omega
    clear hx1 hpb
    obtain ⟨N, rfl⟩ := Int.eq_ofNat_of_zero_le (show 0 ≤ n by omega)
    simp only [Int.toNat_natCast]
    go_enter Try.func30, Try.ntmps30
    go_wp2_with (go_at_call 28; refine (HC.out _).mono ?_; rintro e w1 ⟨rfl, hb⟩; replace hB := bl_step hB hb; have hbx := (BoxAt.new w #[.bool s, .int .i64 N, .int .i64 l] 27).below hb; obtain ⟨hc0, hc1, hc2⟩ := three_box hbx; clear hb)
    have HBX := Lib.hid hbx
    clear hbx hc0 hc1 hc2
    go_loopw [6, 7] (fun o kv wr => ∃ (K : Nat) (acc : List UInt8), kv = .int .i64 ((K : Int) - 1) ∧ K ≤ N ∧ o = .string ⟨acc.toArray⟩ ∧ Hid (acc ++ bitsL x l K = bitsL x l N) ∧ acc.length + 2 * K ≤ 120 ∧ BoxAt wr w.heap.size #[.bool s, .int .i64 N, .int .i64 l] ∧ Below (w.alloc (.cells #[.bool s, .int .i64 N, .int .i64 l] 27)).heap.size (w.alloc (.cells #[.bool s, .int .i64 N, .int .i64 l] 27)) wr) (fun _ kv _ => (intOf kv + 1).toNat)
    case atStart => exact ⟨N, [], rfl, Nat.le_refl _, rfl, Lib.hid rfl, by simp; omega, HBX.out, hB⟩
    case round =>
      obtain ⟨K, acc, rfl, hK, rfl, HA, hal, hbx, hB2⟩ := hrel
      have HBW := Lib.hid hbx
      obtain ⟨hc0, hc1, hc2⟩ := three_box hbx
      clear hbx hB
      cases K with
      | zero =>
        have HF : Hid (acc = bitsL x l N) := by show acc = _; have := HA.out; simpa [bitsL] using this
        go_wp2
        go_ret
        exact ⟨ret_str (by rw [HF.out]), bl_step (bl_alloc _ _) hB2⟩
      | succ k =>
        have e1 : ((k + 1 : Nat) : Int) - 1 = k := by omega
        rw [e1]
        have HQ := Lib.hid (sDigBitT x k hx0)
        have hdd := pow_le62 k (by omega)
        have hpw := pw_nat k
        obtain ⟨hd1, hd2⟩ := hdd
        have HP := Lib.hid (fun W : World => l2Pow_any (k : Int) W (by omega))
        rw [hpw] at HP
        clear hpw e1
        generalize hD : (2 : Int) ^ k = D at *
        have HBC := Lib.hid (ba_cat acc [46])
        have HCC := Lib.hid (ba_cat acc [bitC x k])
        have HCD := Lib.hid (ba_cat (acc ++ [46]) [bitC x k])
        by_cases hdot : (k : Int) = l - 1
        · have HDT := Lib.hid (dotL_yes hdot)
          obtain ⟨hle, hge⟩ : (k : Int) ≤ l - 1 ∧ l - 1 ≤ (k : Int) := ⟨by omega, by omega⟩
          clear hdot
          go_wp2_with fail
          refine (HP.out _).mono ?_
          rintro e w2 ⟨rfl, rfl⟩
          go_wp2_with fail
          refine (HQ.out _).mono ?_
          rintro e w3 ⟨rfl, hb3⟩
          go_wp2_with fail
          go_roundw
          case rel => exact ⟨k, acc ++ [46] ++ [bitC x k], rfl, by omega, congrArg Value.string ((congrArg (· ++ (⟨[bitC x k].toArray⟩ : ByteArray)) HBC.out).trans HCD.out), Lib.hid (by rw [← HA.out, bitsL, HDT.out]; simp), by simp; omega, HBW.out.below hb3, bl_step hB2 hb3⟩
          case measure => simp [intOf]
        · have HDT := Lib.hid (dotL_no hdot)
          go_wp2_with fail
          refine (HP.out _).mono ?_
          rintro e w2 ⟨rfl, rfl⟩
          go_wp2_with fail
          refine (HQ.out _).mono ?_
          rintro e w3 ⟨rfl, hb3⟩
          go_wp2_with fail
          go_roundw
          case rel => exact ⟨k, acc ++ [bitC x k], rfl, by omega, congrArg Value.string HCC.out, Lib.hid (by rw [← HA.out, bitsL, HDT.out]; simp), by simp; omega, HBW.out.below hb3, bl_step hB2 hb3⟩
          case measure => simp [intOf]
theorem and_one {y : Int} (h0 : 0 ≤ y) (h1 : y ≤ 4611686018427387903) : bits BinOp.and IntKind.i64 y 1 = y % 2 := by
  have e63 : (2 : Int) ^ 63 = 9223372036854775808 := by decide
  have e := bits_mask .i64 63 (by decide) (fun n h0 h1 => IntWalk.i64_in n ⟨by omega, by omega⟩) 1 (by decide) y (by omega) (by omega)
  have e1 : ((2 : Int) ^ 1 - 1) = 1 := by decide
  have e2 : ((2 : Int) ^ 1) = 2 := by decide
  rw [e1, e2] at e
  exact e
theorem bit_i (x : Int) (k : Nat) (h0 : 0 ≤ x) (h1 : x ≤ 4611686018427387903) : wrap64 (48 + bits BinOp.and IntKind.i64 (x / 2 ^ k) 1) % 256 = ((bitC x k).toNat : Int) := by
  have hp : (0 : Int) < 2 ^ k := Int.pow_pos (by omega)
  have h2 : 0 ≤ x / 2 ^ k := Int.ediv_nonneg h0 (by omega)
  have h3 : x / 2 ^ k ≤ x := Int.ediv_le_self _ h0
  rw [and_one h2 (by omega)]
  rcases bit_two x k with ⟨h1, h2⟩ | ⟨h1, h2⟩
  · rw [h1, h2, IntWalk.wrap64_in _ ⟨by omega, by omega⟩]; rfl
  · rw [h1, h2, IntWalk.wrap64_in _ ⟨by omega, by omega⟩]; rfl
theorem base_al {wr : World} {n : Nat} (h : n ≤ wr.heap.size) (o : Obj) : n ≤ (wr.alloc o).heap.size := Nat.le_trans h (by simp)
theorem own_from {w : World} {b : Nat} {e : TypeId} {v : Value} {n : Nat} {xs : List Value} (h : w.ownsRow b e 1 v n xs) : ∀ k, v.ownBlock = some k → b ≤ k := by
  intro k hk
  rcases h.2 with ⟨rfl, _⟩ | ⟨g, cap, cur, rfl, hg, _⟩
  · simp [Value.ownBlock] at hk
  · simp [Value.ownBlock] at hk
    omega
def numL (l : List UInt8) : List Int := l.map fun b => (b.toNat : Int)
theorem numL_snoc (acc : List UInt8) (b : UInt8) : (numL acc).map (Value.int .u8) ++ [.int .u8 (b.toNat : Int)] = (numL (acc ++ [b])).map (Value.int .u8) := by simp [numL]
theorem numL_str (l : List UInt8) : strOfNums (numL l) = ⟨l.toArray⟩ := by
  unfold strOfNums numL
  apply ByteArray.ext
  simp [List.map_map, Function.comp_def]
theorem max128 {n : Nat} (h : n ≤ 128) : n + 1 ≤ maxLen := by unfold maxLen; omega
theorem byt128 {n : Nat} (h : n ≤ 128) : (n + 1) * 1 ≤ 140737488355328 := by omega
theorem info8b : (Try.prog.info? 5).map (fun i => (i.zero, i.size, i.bytes)) = some (some (.int .u8 0), 1, 1) := by kernel_rfl
theorem one8b (x : Int) : ∀ u ∈ [Value.int .u8 x], u.oneCell' = true := by
  intro u hu
  obtain rfl := List.mem_singleton.1 hu
  rfl
set_option maxHeartbeats 2000000 in
theorem iBitsText_any (s : Bool) (n l v : Int) (w : World) : Calls Try.prog 31 #[.agg #[.bool s, .int .i64 n, .int .i64 l], .int .i64 v] w fun e w' => e = .returned (.string ⟨(bitsT s n l v).toArray⟩) ∧ Below w.heap.size w w' := by
  have hB := Below.refl (w.alloc (.cells #[.bool s, .int .i64 n, .int .i64 l] 27)).heap.size (w.alloc (.cells #[.bool s, .int .i64 n, .int .i64 l] 27))
  cases hr : rawOkB s n l v
  · rw [bitsT_no hr]
    have HR := Lib.hid (fun W : World => iRawOk_any s n l v W)
    rw [hr] at HR
    clear hr
    go_enter Try.func31, Try.ntmps31
    go_wp2_with (go_at_call 22; refine (HR.out _).mono ?_; rintro e w1 ⟨rfl, hb⟩; have hB := bl_step hB hb; clear hb)
    go_ret
    exact ⟨rfl, bl_step (bl_alloc _ _) hB⟩
  · rw [bitsT_yes hr]
    have HR := Lib.hid (fun W : World => iRawOk_any s n l v W)
    rw [hr] at HR
    obtain ⟨hx0, hx1⟩ := wordB_bd hr
    have hf : (2 ≤ n ∧ n ≤ 60) ∧ 0 ≤ l ∧ l ≤ n := by
      unfold rawOkB at hr
      simp only [Bool.and_eq_true] at hr
      exact (fmtOkB_iff n l).1 hr.1
    obtain ⟨⟨hn2, hn60⟩, hl0, hl1⟩ := hf
    have HC := Lib.hid (fun W : World => iWordOf_any s n l v W)
    generalize wordB s n l v = x at *
    clear hr
    have hpb := (pw_bd n (by omega)).2
    have hx2 : x ≤ 4611686018427387903 := by omega
    clear hx1 hpb
    obtain ⟨N, rfl⟩ := Int.eq_ofNat_of_zero_le (show 0 ≤ n by omega)
    simp only [Int.toNat_natCast]
    obtain ⟨i0, hi, hz0, hz1, hz2⟩ := info_parts info8b
    have HI := Lib.hid hi; clear hi
    go_enter Try.func31, Try.ntmps31
    go_wp2_with (first
      | (go_at_call 22; refine (HR.out _).mono ?_; rintro e w1 ⟨rfl, hb⟩; replace hB := bl_step hB hb; have hbx := (BoxAt.new w #[.bool s, .int .i64 N, .int .i64 l] 27).below hb; obtain ⟨hc0, hc1, hc2⟩ := three_box hbx; clear hb)
      | (go_at_call 29; refine (HC.out _).mono ?_; rintro e w2 ⟨rfl, hb⟩; replace hB := bl_step hB hb; replace hbx := hbx.below hb; obtain ⟨hc0, hc1, hc2⟩ := three_box hbx; clear hb))
    have HBX := Lib.hid hbx
    clear hbx
    go_loopw [6, 7] (fun o kv wr => ∃ (K : Nat) (acc : List UInt8), kv = .int .i64 ((K : Int) - 1) ∧ K ≤ N ∧ wr.ownsRow (w.heap.size + 1) 5 1 o acc.length ((numL acc).map (Value.int .u8)) ∧ Hid (acc ++ bitsL x l K = bitsL x l N) ∧ acc.length + 2 * K ≤ 120 ∧ Below (w.alloc (.cells #[.bool s, .int .i64 N, .int .i64 l] 27)).heap.size (w.alloc (.cells #[.bool s, .int .i64 N, .int .i64 l] 27)) wr) (fun _ kv _ => (intOf kv + 1).toNat)
    case atStart => exact ⟨N, [], rfl, Nat.le_refl _, ⟨rfl, .inl ⟨rfl, rfl⟩⟩, Lib.hid rfl, by simp; omega, hB⟩
    case round =>
      obtain ⟨K, acc, rfl, hK, hown, HA, hal, hB2⟩ := hrel
      have hbx := (BoxAt.new w #[.bool s, .int .i64 N, .int .i64 l] 27).below hB2
      have HOWN := Lib.hid hown; clear hown
      obtain ⟨hc0, hc1, hc2⟩ := three_box hbx
      clear hbx hB
      cases K with
      | zero =>
        have HF : Hid (acc = bitsL x l N) := by show acc = _; have := HA.out; simpa [bitsL] using this
        obtain ⟨a', c', rfl, hoa⟩ := own_of_row (hi := wr.heap.size) HOWN.out (by simp [numL]) (Nat.le_refl _)
        have hcv := conv_rowB (P := Try.prog) (w := wr) Try.underlying51 Try.underlying5 Try.underlying9 c' (show (numL acc).length = acc.length by simp [numL]) hoa.row
        rw [numL_str] at hcv
        go_wp2
        go_ret
        exact ⟨ret_str (by rw [HF.out]), bl_step (bl_alloc _ _) hB2⟩
      | succ k =>
        have e1 : ((k + 1 : Nat) : Int) - 1 = k := by omega
        rw [e1]
        clear e1
        have HBI := Lib.hid (bit_i x k hx0 hx2)
        have hsz : w.heap.size + 1 ≤ wr.heap.size := by have := hB2.size; simp at this; omega
        have ha1 : acc.length ≤ 128 := by omega
        have hk60 : k ≤ 60 := by omega
        by_cases hdot : (k : Int) = l - 1
        · have HDT := Lib.hid (dotL_yes hdot)
          obtain ⟨hle, hge⟩ : (k : Int) ≤ l - 1 ∧ l - 1 ≤ (k : Int) := ⟨by omega, by omega⟩
          clear hdot
          go_wp2_with (at_builtin; refine wpList_append_own _ rfl _ _ 51 rfl (w.heap.size + 1) 5 i0 (.int .u8 0) 1 1 Try.underlying51 HI.out hz0 hz1 hz2 rfl (by decide) _ _ _ rfl (HOWN.out.alloc _) ⟨wr.heap.size, 0, none⟩ 1 1 [.int .u8 (46)] rfl rfl (cell_one_new _ _ _) (one8b _) (max128 ha1) (byt128 ha1) (base_al hsz _) ?_)
          intro v1 w1 hown1 hgrow1 _
          have hB3 := (bl_al hB2 _).grown hgrow1 (by have := hB2.size; simp at this ⊢; omega) (fun q hq => by have := own_from HOWN.out q hq; simp; omega)
          have HOWN1 : Hid (w1.ownsRow (w.heap.size + 1) 5 1 v1 (acc.length + 1) ((numL (acc ++ [46])).map (Value.int .u8))) := by
            show World.ownsRow _ _ _ _ _ _ _
            rw [← numL_snoc]; exact hown1
          clear hown1
          have hsz1 : w.heap.size + 1 ≤ w1.heap.size := by have := hB3.size; simp at this; omega
          have ha2 : acc.length + 1 ≤ 128 := by omega
          go_wp2_with (at_builtin; refine wpList_append_own _ rfl _ _ 51 rfl (w.heap.size + 1) 5 i0 (.int .u8 0) 1 1 Try.underlying51 HI.out hz0 hz1 hz2 rfl (by decide) _ _ _ rfl (HOWN1.out.alloc _) ⟨w1.heap.size, 0, none⟩ 1 1 [.int .u8 (wrap64 (48 + bits BinOp.and IntKind.i64 (x / 2 ^ k) 1) % 256)] rfl rfl (cell_one_new _ _ _) (one8b _) (max128 ha2) (byt128 ha2) (base_al hsz1 _) ?_)
          intro v2 w2 hown2 hgrow2 _
          have hB4 := (bl_al hB3 _).grown hgrow2 (by have := hB3.size; simp at this ⊢; omega) (fun q hq => by have := own_from HOWN1.out q hq; simp; omega)
          have HOWN2 : Hid (w2.ownsRow (w.heap.size + 1) 5 1 v2 (acc ++ [46] ++ [bitC x k]).length ((numL (acc ++ [46] ++ [bitC x k])).map (Value.int .u8))) := by
            show World.ownsRow _ _ _ _ _ _ _
            rw [← numL_snoc, ← HBI.out]
            simpa using hown2
          clear hown2
          go_wp2
          go_roundw
          case rel => exact ⟨k, acc ++ [46] ++ [bitC x k], rfl, by omega, HOWN2.out, Lib.hid (by rw [← HA.out, bitsL, HDT.out]; simp), by simp; omega, hB4⟩
          case measure => simp [intOf]
        · have HDT := Lib.hid (dotL_no hdot)
          go_wp2_with (at_builtin; refine wpList_append_own _ rfl _ _ 51 rfl (w.heap.size + 1) 5 i0 (.int .u8 0) 1 1 Try.underlying51 HI.out hz0 hz1 hz2 rfl (by decide) _ _ _ rfl (HOWN.out.alloc _) ⟨wr.heap.size, 0, none⟩ 1 1 [.int .u8 (wrap64 (48 + bits BinOp.and IntKind.i64 (x / 2 ^ k) 1) % 256)] rfl rfl (cell_one_new _ _ _) (one8b _) (max128 ha1) (byt128 ha1) (base_al hsz _) ?_)
          intro v1 w1 hown1 hgrow1 _
          have hB3 := (bl_al hB2 _).grown hgrow1 (by have := hB2.size; simp at this ⊢; omega) (fun q hq => by have := own_from HOWN.out q hq; simp; omega)
          have HOWN1 : Hid (w1.ownsRow (w.heap.size + 1) 5 1 v1 (acc ++ [bitC x k]).length ((numL (acc ++ [bitC x k])).map (Value.int .u8))) := by
            show World.ownsRow _ _ _ _ _ _ _
            rw [← numL_snoc, ← HBI.out]
            simpa using hown1
          clear hown1
          go_wp2
          go_roundw
          case rel => exact ⟨k, acc ++ [bitC x k], rfl, by omega, HOWN1.out, Lib.hid (by rw [← HA.out, bitsL, HDT.out]; simp), by simp; omega, hB3⟩
          case measure => simp [intOf]
set_option maxHeartbeats 1000000 in
theorem walkFnExactBitsText (a0 : Bool) (a1 : Int) (a2 : Int) (a3 : Int) (w : World) (w1 : (Lit.int .i64 a1).wf = true) (w2 : (Lit.int .i64 a2).wf = true) (w3 : (Lit.int .i64 a3).wf = true) :
    Calls Try.prog 9 #[.agg #[.bool a0, .int .i64 a1, .int .i64 a2], .int .i64 a3] w fun e w' => e = .returned (.bool true) ∧ Below w.heap.size w w' := by
  clear w1 w2 w3
  have hB := Below.refl (w.alloc (.cells #[.bool a0, .int .i64 a1, .int .i64 a2] 23)).heap.size (w.alloc (.cells #[.bool a0, .int .i64 a1, .int .i64 a2] 23))
  go_enter Try.func9, Try.ntmps9
  go_wp2_with (first
    | (go_at_call 21; refine (toFmt_any _ _ _ _).mono ?_; rintro e w1 ⟨rfl, hb⟩; have hB := bl_step hB hb; obtain ⟨hc, hz⟩ := kept_box hB; clear hb)
    | (go_at_call 30; refine (sBitsText_any _ _ _ _ _).mono ?_; rintro e w1 ⟨rfl, hb⟩; have hB := bl_step hB hb; obtain ⟨hc, hz⟩ := kept_box hB; clear hb)
    | (go_at_call 31; refine (iBitsText_any _ _ _ _ _).mono ?_; rintro e w1 ⟨rfl, hb⟩; have hB := bl_step hB hb; obtain ⟨hc, hz⟩ := kept_box hB; clear hb))
  go_ret
  exact ⟨rfl, bl_step (bl_alloc _ _) hB⟩
end Go.Proofs.Ytldidbejieekcaa
