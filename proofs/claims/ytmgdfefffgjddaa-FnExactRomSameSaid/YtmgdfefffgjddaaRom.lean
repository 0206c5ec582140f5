/-
  PROVED: contracts of the functions of slices of whole numbers.
  CONDITIONS: none.
-/
import Derived.Test.YtmgdfefffgjddaaWhole
import Derived.Test.YtmgdfefffgjddaaOwn
import Derived.Test.YtmgdfefffgjddaaWhs
import Derived.Deep.RegionHeld3
namespace Go.Proofs.Ytmgdfefffgjddaa
open Go.ChangeShapes Go.WideShapes Go.ChangeAt Go.RowKit
set_option linter.unusedVariables false
/-- at a lie the whole numbers pl, two cells each -/
def WholesAt (w : World) (a : Option Addr) (pl : List (Bool × List Int)) : Prop :=
  pl = [] ∨ ∃ b off, a = some ⟨b, off, none⟩ ∧ b < w.heap.size ∧ ∀ i (h : i < pl.length), ∃ x c, w.cell? ⟨b, off + i * 2, none⟩ = some (.bool pl[i].1) ∧ w.cell? ⟨b, off + i * 2 + 1, none⟩ = some (.slice x pl[i].2.length c) ∧ RowAt .i64 w x pl[i].2
theorem WholesAt.below {w w' : World} {a : Option Addr} {pl : List (Bool × List Int)} (h : WholesAt w a pl) (hb : Below w.heap.size w w') : WholesAt w' a pl := by
  rcases h with h | ⟨b, off, ha, hl, hc⟩
  · exact .inl h
  · refine .inr ⟨b, off, ha, Nat.lt_of_lt_of_le hl hb.size, fun i hi => ?_⟩
    obtain ⟨x, c, h1, h2, h3⟩ := hc i hi
    exact ⟨x, c, (hb.cell (p := ⟨b, off + i * 2, none⟩) hl).trans h1, (hb.cell (p := ⟨b, off + i * 2 + 1, none⟩) hl).trans h2, h3.below hb⟩
def szL : Int → List (Bool × List Int) → Int
  | left, [] => left
  | left, p :: r => if szB left p.2.length < 0 then -1 else szL (szB left p.2.length) r
def szWS (left : Int) (pl : List (Bool × List Int)) : Int := if left - pl.length < 0 then -1 else szL (left - pl.length) pl
theorem szL_fits : ∀ {left : Int} {pl : List (Bool × List Int)}, ¬ szL left pl < 0 → szL left pl ≤ left ∧ ∀ p ∈ pl, (p.2.length : Int) ≤ left
  | left, [], h => ⟨Int.le_refl _, by simp⟩
  | left, p :: r, h => by
    unfold szL at h ⊢
    split at h
    · omega
    · rename_i h1
      obtain ⟨h2, h3⟩ := szB_fits h1
      obtain ⟨h4, h5⟩ := szL_fits h
      rw [if_neg h1]
      refine ⟨by omega, fun q hq => ?_⟩
      rcases List.mem_cons.1 hq with rfl | hq
      · exact h2
      · have := h5 q hq; omega
theorem szWS_fits {left : Int} {pl : List (Bool × List Int)} (h : ¬ szWS left pl < 0) : (pl.length : Int) ≤ left ∧ szWS left pl ≤ left ∧ ∀ p ∈ pl, (p.2.length : Int) ≤ left := by
  unfold szWS at h ⊢
  split at h
  · omega
  · rename_i h1
    obtain ⟨h2, h3⟩ := szL_fits h
    rw [if_neg h1]
    exact ⟨by omega, by omega, fun p hp => by have := h3 p hp; omega⟩
theorem szL_neg {L : Int} {p : Bool × List Int} {r : List (Bool × List Int)} (h : szB L p.2.length < 0) : szL L (p :: r) = -1 := by unfold szL; rw [if_pos h]
theorem szL_pos {L : Int} {p : Bool × List Int} {r : List (Bool × List Int)} (h : ¬ szB L p.2.length < 0) : szL L (p :: r) = szL (szB L p.2.length) r := by rw [szL]; rw [if_neg h]
set_option maxHeartbeats 1000000 in
theorem szWholeS_any (a : Option Addr) (n cap : Nat) (pl : List (Bool × List Int)) (left : Int) (w : World) (hz : pl.length = n) (hn : n ≤ 9223372036854775807) (hp : ∀ p ∈ pl, p.2.length ≤ 9223372036854775807) (hl : 0 ≤ left) (hl2 : left ≤ 1048576) (ha : WholesAt w a pl) :
    Calls Try.prog 66 #[.slice a n cap, .int .i64 left] w fun e w' => e = .returned (.int .i64 (szWS left pl)) ∧ Below w.heap.size w w' := by
  have HZ := Lib.hid hz; clear hz
  have HP := Lib.hid hp; clear hp
  by_cases h : left - (n : Int) < 0
  · have hs : szWS left pl = -1 := by unfold szWS; rw [HZ.out, if_pos h]
    rw [hs]; clear hs
    go_enter Try.func66, Try.ntmps66
    go_wp2
    go_ret
    exact ⟨rfl, Below.refl _ _⟩
  · have hs : szWS left pl = szL (left - n) pl := by unfold szWS; rw [HZ.out, if_neg h]
    rw [hs]; clear hs
    by_cases h0 : n = 0
    · subst h0
      rw [List.length_eq_zero_iff.1 HZ.out, show szL (left - ((0 : Nat) : Int)) [] = left by show left - ((0 : Nat) : Int) = left; omega]
      go_enter Try.func66, Try.ntmps66
      go_wp2
      go_loop [1, 5] (fun l i => l = .int .i64 left ∧ i = .int .i64 0) (fun _ _ => 0)
      case atStart => exact ⟨rfl, rfl⟩
      case round =>
        obtain ⟨rfl, rfl⟩ := hrel
        go_wp2
        go_ret
        exact ⟨rfl, Below.refl _ _⟩
    · rcases ha with h1 | ⟨b, off, rfl, hb, hc⟩
      · exfalso; rw [h1] at HZ; exact h0 HZ.out.symm
      · have HC := Lib.hid hc; clear hc
        go_enter Try.func66, Try.ntmps66
        go_wp2
        go_loopw [1, 5] (fun l i wr => ∃ (j : Nat) (L : Int), j ≤ n ∧ l = .int .i64 L ∧ i = .int .i64 j ∧ 0 ≤ L ∧ L ≤ 1048576 ∧ szL L (pl.drop j) = szL (left - n) pl ∧ Below w.heap.size w wr) (fun _ i _ => n - (intOf i).toNat)
        case atStart => exact ⟨0, left - n, by omega, rfl, rfl, by omega, by omega, rfl, Below.refl _ _⟩
        case round =>
          obtain ⟨j, L, hj, rfl, rfl, hL0, hL1, hL, hB⟩ := hrel
          have HL := Lib.hid hL; clear hL
          by_cases hlt : j < n
          · have hlz : j < pl.length := by rw [HZ.out]; exact hlt
            obtain ⟨x, c, hc0, hc1, hr⟩ := HC.out j hlz
            have hq0 : wr.cell? ⟨b, off + j * 2, none⟩ = some (.bool pl[j].1) := (hB.cell (p := ⟨b, off + j * 2, none⟩) hb).trans hc0
            have hq1 : wr.cell? ⟨b, off + j * 2 + 1, none⟩ = some (.slice x pl[j].2.length c) := (hB.cell (p := ⟨b, off + j * 2 + 1, none⟩) hb).trans hc1
            clear hc0 hc1 hr
            have hpl := HP.out _ (List.getElem_mem hlz)
            have HD := Lib.hid (List.drop_eq_getElem_cons hlz)
            generalize pl[j] = p at *
            clear hlz
            have hg := szB_ge L p.2.length
            have hle := szB_le L p.2.length
            by_cases hn2 : szB L p.2.length < 0
            · have HS := Lib.hid (szL_neg (r := pl.drop (j + 1)) hn2)
              go_wp2_with fail
              refine (szWhole_any _ _ _ _ _ _ hpl hL0 hL1).mono ?_
              rintro e w2 ⟨rfl, hb2⟩
              go_wp2_with fail
              go_ret
              exact ⟨ret_int (by rw [← HL.out, HD.out, HS.out]), bl_step hB hb2⟩
            · have HS := Lib.hid (szL_pos (r := pl.drop (j + 1)) hn2)
              go_wp2_with fail
              refine (szWhole_any _ _ _ _ _ _ hpl hL0 hL1).mono ?_
              rintro e w2 ⟨rfl, hb2⟩
              go_wp2_with fail
              go_roundw
              case rel => exact ⟨j + 1, _, by omega, rfl, by go_num, by omega, by omega, by rw [← HS.out, ← HD.out, HL.out], bl_step hB hb2⟩
              case measure => simp [intOf]; omega
          · obtain rfl : j = n := by omega
            have hL := HL.out
            rw [List.drop_eq_nil_of_le (by rw [HZ.out]; omega)] at hL
            have HM := Lib.hid (show L = _ from hL); clear hL
            go_wp2
            go_ret
            exact ⟨ret_int HM.out, hB⟩
end Go.Proofs.Ytmgdfefffgjddaa
