/-
  DERIVED. GIVEN WITH THE SEED: THE CARDS: each row of YtimjfcipkmcgmaaDoorRows.lean that lists a variable, with what it lists TIED to the program's text (the seventh form; the later family's looks); each row that meets fmt, with fmt's text TOLD by the authors' own Lean function (tested against real Go, not proved from fmt's source: count such statements apart). THE CARD IS WHAT COUNTS. Prove the row's statement (the work); the ties are given (YtimjfcipkmcgmaaDoorTie.lean); close each card by the builder's one call (the guide's Derived/Test/ToyasCard.lean, 'card_holds'). Laid BY PROGRAM, IN A SANDBOX (cutbox-door.mjs). By AI agents, Wed Nov 11 2026. No macro, syntax, notation, axiom, sorry.
-/
import Derived.Test.YtimjfcipkmcgmaaDoorRows
import GoSem.ClaimSeven
namespace Go.Proofs.YtimjfcipkmcgmaaDoor
namespace Rows

/-- THE TIED CARD OF 'laws.FnExactFmtOf'. -/
def fnExactFmtOfCard : Claim7 := { stood := { row := fnExactFmtOfRow, standIns := [], harness := (true, "c3cb96ec9581b5948febf5926b04b58670b8c997d3db0f3b50a957cc02cc75b6"), looks := false }, kinds := [], alts := [], laidByText := true, laidKinds := [.data, .data, .data, .data, .pinned], laidTests := true, laidLooks := .later }
def FnExactFmtOfCardSaid : Prop := Claim7.holds Tryd.pinned (.plain (OpenSpec.ofChange fnExactFmtOfSpec)) fnExactFmtOfCard

/-- THE TIED CARD OF 'laws.FnFmtText'. -/
def fnFmtTextCard : Claim7 := { stood := { row := fnFmtTextRow, standIns := [], harness := (true, "c3cb96ec9581b5948febf5926b04b58670b8c997d3db0f3b50a957cc02cc75b6"), looks := false }, kinds := [], alts := [], laidByText := true, laidKinds := [.data, .data, .data, .data, .pinned], laidTests := true, laidLooks := .later }
def FnFmtTextCardSaid : Prop := Claim7.holds Tryd.pinned (.plain (OpenSpec.ofChange fnFmtTextSpec)) fnFmtTextCard

/-- THE TIED CARD OF 'laws.FnExactParts'. -/
def fnExactPartsCard : Claim7 := { stood := { row := fnExactPartsRow, standIns := [], harness := (true, "c3cb96ec9581b5948febf5926b04b58670b8c997d3db0f3b50a957cc02cc75b6"), looks := false }, kinds := [], alts := [], laidByText := true, laidKinds := [.data, .pinned], laidTests := true, laidLooks := .later }
def FnExactPartsCardSaid : Prop := Claim7.holds Tryd.pinned (.plain (OpenSpec.ofChange fnExactPartsSpec)) fnExactPartsCard

/-- THE TIED CARD OF 'laws.FnNumbers'. -/
def fnNumbersCard : Claim7 := { stood := { row := fnNumbersRow, standIns := [], harness := (true, "c3cb96ec9581b5948febf5926b04b58670b8c997d3db0f3b50a957cc02cc75b6"), looks := false }, kinds := [], alts := [], laidByText := true, laidKinds := [.data, .pinned], laidTests := true, laidLooks := .later }
def FnNumbersCardSaid : Prop := Claim7.holds Tryd.pinned (.plain (OpenSpec.ofChange fnNumbersSpec)) fnNumbersCard

/-- THE SECOND FORM's CARD OF 'laws.FnExactFmtOf'. -/
def fnExactFmtOfUptoCard : Claim7 := { stood := { row := fnExactFmtOfUptoRow, standIns := [], harness := (true, "c3cb96ec9581b5948febf5926b04b58670b8c997d3db0f3b50a957cc02cc75b6"), looks := false }, kinds := [], alts := [], laidByText := true, laidKinds := [.data, .data, .data, .data, .pinned], laidTests := true, laidLooks := .later }
def FnExactFmtOfUptoCardSaid : Prop := Claim7.holds Tryd.pinned (.plain (OpenSpec.upto fnExactFmtOfSpec)) fnExactFmtOfUptoCard

/-- THE SECOND FORM's CARD OF 'laws.FnFmtText'. -/
def fnFmtTextUptoCard : Claim7 := { stood := { row := fnFmtTextUptoRow, standIns := [], harness := (true, "c3cb96ec9581b5948febf5926b04b58670b8c997d3db0f3b50a957cc02cc75b6"), looks := false }, kinds := [], alts := [], laidByText := true, laidKinds := [.data, .data, .data, .data, .pinned], laidTests := true, laidLooks := .later }
def FnFmtTextUptoCardSaid : Prop := Claim7.holds Tryd.pinned (.plain (OpenSpec.upto fnFmtTextSpec)) fnFmtTextUptoCard

/-- THE SECOND FORM's CARD OF 'laws.FnExactParts'. -/
def fnExactPartsUptoCard : Claim7 := { stood := { row := fnExactPartsUptoRow, standIns := [], harness := (true, "c3cb96ec9581b5948febf5926b04b58670b8c997d3db0f3b50a957cc02cc75b6"), looks := false }, kinds := [], alts := [], laidByText := true, laidKinds := [.data, .pinned], laidTests := true, laidLooks := .later }
def FnExactPartsUptoCardSaid : Prop := Claim7.holds Tryd.pinned (.plain (OpenSpec.upto fnExactPartsSpec)) fnExactPartsUptoCard

/-- THE SECOND FORM's CARD OF 'laws.FnNumbers'. -/
def fnNumbersUptoCard : Claim7 := { stood := { row := fnNumbersUptoRow, standIns := [], harness := (true, "c3cb96ec9581b5948febf5926b04b58670b8c997d3db0f3b50a957cc02cc75b6"), looks := false }, kinds := [], alts := [], laidByText := true, laidKinds := [.data, .pinned], laidTests := true, laidLooks := .later }
def FnNumbersUptoCardSaid : Prop := Claim7.holds Tryd.pinned (.plain (OpenSpec.upto fnNumbersSpec)) fnNumbersUptoCard
end Rows
end Go.Proofs.YtimjfcipkmcgmaaDoor
