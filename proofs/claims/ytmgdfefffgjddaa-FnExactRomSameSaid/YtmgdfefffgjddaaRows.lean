/-
  No cell of these rows narrows 'for every input' (looked for: loops, veiled, ifaces, maps, wideKeys, modest, calm, conditions, laid).
  DERIVED. THE GIVEN ROWS OF THIS SEAT. 10 by the template 'for every input the law returns true; each argument reads behind the call as it read before'; 0 by the template 'total and deterministic' (their statements: YtmgdfefffgjddaaTotals.lean).
  GIVEN WITH THE SEED: the statements are not yours to turn. If you find one false, say at which input.
  Laid BY PROGRAM, IN A SANDBOX (cutbox-rows.mjs): the forced cells as the released guide's own fill.sh prints them over the translation f71659fc9e021cbd… (all of the seat's roots in one cut). By AI agents, Wed Nov 11 2026. No macro, syntax, notation, axiom, sorry.
-/
import Derived.Test.YtmgdfefffgjddaaChecked
import GoSem.Claim
import GoSem.ClaimJoined
import GoSem.ClaimMapViews
import Derived.JoinedTies
import Derived.KernelRfl
namespace Go.Proofs.Ytmgdfefffgjddaa
/- THE CELL 'sum', in the pinned program and in every row, IS THE sha256 OF THE DUMP (.gsa) THAT YtmgdfefffgjddaaProg.lean LOADS. Nothing in Lean hashes anything: it is a label: what it is worth is what the hold of that sum in a sandbox is worth. -/
noncomputable def Try.pinned : Pinned := { name := "ytmgdfefffgjddaa", sum := "f71659fc9e021cbd2223effd70bcbf421921d39d7491b8b29791815ff11811c9", checked := Try.checked }
namespace Rows
def none {H : Type} : Left H := { results := [], args := [] }

/-- 'laws.FnExactAdler': WHATEVER THE INPUT: true; the input reads as it did. -/
def fnExactAdlerSpec : ChangeSpec := { name := "fnExactAdler", fn := fun _ => fun
  | [d] => { results := [.lit (.bool true)], args := [d] }
  | _ => none }
def fnExactAdlerRow : OpenClaim := { program := "ytmgdfefffgjddaa", sum := "f71659fc9e021cbd2223effd70bcbf421921d39d7491b8b29791815ff11811c9", func := "loop.example/g00481/laws.FnExactAdler", spec := "fnExactAdler", apart := false }
def FnExactAdlerSaid : Prop := fnExactAdlerRow.holds Try.pinned (OpenSpec.ofChange fnExactAdlerSpec)

/-- ITS FALSE NEIGHBOUR: 'it returns false'. Refute it at one input. -/
def fnExactAdlerWrong : ChangeSpec := { name := "fnExactAdler", fn := fun _ => fun
  | [d] => { results := [.lit (.bool false)], args := [d] }
  | _ => none }
def FnExactAdlerWrongFalsely : Prop := fnExactAdlerRow.holds Try.pinned (OpenSpec.ofChange fnExactAdlerWrong)

/-- 'laws.FnExactNatOk': WHATEVER THE INPUT: true; the input reads as it did. -/
def fnExactNatOkSpec : ChangeSpec := { name := "fnExactNatOk", fn := fun _ => fun
  | [d] => { results := [.lit (.bool true)], args := [d] }
  | _ => none }
def fnExactNatOkRow : OpenClaim := { program := "ytmgdfefffgjddaa", sum := "f71659fc9e021cbd2223effd70bcbf421921d39d7491b8b29791815ff11811c9", func := "loop.example/g00481/laws.FnExactNatOk", spec := "fnExactNatOk", apart := false }
def FnExactNatOkSaid : Prop := fnExactNatOkRow.holds Try.pinned (OpenSpec.ofChange fnExactNatOkSpec)

/-- ITS FALSE NEIGHBOUR: 'it returns false'. Refute it at one input. -/
def fnExactNatOkWrong : ChangeSpec := { name := "fnExactNatOk", fn := fun _ => fun
  | [d] => { results := [.lit (.bool false)], args := [d] }
  | _ => none }
def FnExactNatOkWrongFalsely : Prop := fnExactNatOkRow.holds Try.pinned (OpenSpec.ofChange fnExactNatOkWrong)

/-- 'laws.FnExactGetNum': WHATEVER THE INPUT: true; the input reads as it did. -/
def fnExactGetNumSpec : ChangeSpec := { name := "fnExactGetNum", fn := fun _ => fun
  | [d1, d2] => { results := [.lit (.bool true)], args := [d1, d2] }
  | _ => none }
def fnExactGetNumRow : OpenClaim := { program := "ytmgdfefffgjddaa", sum := "f71659fc9e021cbd2223effd70bcbf421921d39d7491b8b29791815ff11811c9", func := "loop.example/g00481/laws.FnExactGetNum", spec := "fnExactGetNum", apart := false }
def FnExactGetNumSaid : Prop := fnExactGetNumRow.holds Try.pinned (OpenSpec.ofChange fnExactGetNumSpec)

/-- ITS FALSE NEIGHBOUR: 'it returns false'. Refute it at one input. -/
def fnExactGetNumWrong : ChangeSpec := { name := "fnExactGetNum", fn := fun _ => fun
  | [d1, d2] => { results := [.lit (.bool false)], args := [d1, d2] }
  | _ => none }
def FnExactGetNumWrongFalsely : Prop := fnExactGetNumRow.holds Try.pinned (OpenSpec.ofChange fnExactGetNumWrong)

/-- 'laws.FnExactPutNum': WHATEVER THE INPUT: true; the input reads as it did. -/
def fnExactPutNumSpec : ChangeSpec := { name := "fnExactPutNum", fn := fun _ => fun
  | [d] => { results := [.lit (.bool true)], args := [d] }
  | _ => none }
def fnExactPutNumRow : OpenClaim := { program := "ytmgdfefffgjddaa", sum := "f71659fc9e021cbd2223effd70bcbf421921d39d7491b8b29791815ff11811c9", func := "loop.example/g00481/laws.FnExactPutNum", spec := "fnExactPutNum", apart := false }
def FnExactPutNumSaid : Prop := fnExactPutNumRow.holds Try.pinned (OpenSpec.ofChange fnExactPutNumSpec)

/-- ITS FALSE NEIGHBOUR: 'it returns false'. Refute it at one input. -/
def fnExactPutNumWrong : ChangeSpec := { name := "fnExactPutNum", fn := fun _ => fun
  | [d] => { results := [.lit (.bool false)], args := [d] }
  | _ => none }
def FnExactPutNumWrongFalsely : Prop := fnExactPutNumRow.holds Try.pinned (OpenSpec.ofChange fnExactPutNumWrong)

/-- 'laws.FnExactWholeOk': WHATEVER THE INPUT: true; the input reads as it did. -/
def fnExactWholeOkSpec : ChangeSpec := { name := "fnExactWholeOk", fn := fun _ => fun
  | [d] => { results := [.lit (.bool true)], args := [d] }
  | _ => none }
def fnExactWholeOkRow : OpenClaim := { program := "ytmgdfefffgjddaa", sum := "f71659fc9e021cbd2223effd70bcbf421921d39d7491b8b29791815ff11811c9", func := "loop.example/g00481/laws.FnExactWholeOk", spec := "fnExactWholeOk", apart := false }
def FnExactWholeOkSaid : Prop := fnExactWholeOkRow.holds Try.pinned (OpenSpec.ofChange fnExactWholeOkSpec)

/-- ITS FALSE NEIGHBOUR: 'it returns false'. Refute it at one input. -/
def fnExactWholeOkWrong : ChangeSpec := { name := "fnExactWholeOk", fn := fun _ => fun
  | [d] => { results := [.lit (.bool false)], args := [d] }
  | _ => none }
def FnExactWholeOkWrongFalsely : Prop := fnExactWholeOkRow.holds Try.pinned (OpenSpec.ofChange fnExactWholeOkWrong)

/-- 'laws.FnExactAnswerSame': WHATEVER THE INPUT: true; the input reads as it did. -/
def fnExactAnswerSameSpec : ChangeSpec := { name := "fnExactAnswerSame", fn := fun _ => fun
  | [d1, d2] => { results := [.lit (.bool true)], args := [d1, d2] }
  | _ => none }
def fnExactAnswerSameRow : OpenClaim := { program := "ytmgdfefffgjddaa", sum := "f71659fc9e021cbd2223effd70bcbf421921d39d7491b8b29791815ff11811c9", func := "loop.example/g00481/laws.FnExactAnswerSame", spec := "fnExactAnswerSame", apart := false }
def FnExactAnswerSameSaid : Prop := fnExactAnswerSameRow.holds Try.pinned (OpenSpec.ofChange fnExactAnswerSameSpec)

/-- ITS FALSE NEIGHBOUR: 'it returns false'. Refute it at one input. -/
def fnExactAnswerSameWrong : ChangeSpec := { name := "fnExactAnswerSame", fn := fun _ => fun
  | [d1, d2] => { results := [.lit (.bool false)], args := [d1, d2] }
  | _ => none }
def FnExactAnswerSameWrongFalsely : Prop := fnExactAnswerSameRow.holds Try.pinned (OpenSpec.ofChange fnExactAnswerSameWrong)

/-- 'laws.FnExactSpinOk': WHATEVER THE INPUT: true; the input reads as it did. -/
def fnExactSpinOkSpec : ChangeSpec := { name := "fnExactSpinOk", fn := fun _ => fun
  | [d] => { results := [.lit (.bool true)], args := [d] }
  | _ => none }
def fnExactSpinOkRow : OpenClaim := { program := "ytmgdfefffgjddaa", sum := "f71659fc9e021cbd2223effd70bcbf421921d39d7491b8b29791815ff11811c9", func := "loop.example/g00481/laws.FnExactSpinOk", spec := "fnExactSpinOk", apart := false }
def FnExactSpinOkSaid : Prop := fnExactSpinOkRow.holds Try.pinned (OpenSpec.ofChange fnExactSpinOkSpec)

/-- ITS FALSE NEIGHBOUR: 'it returns false'. Refute it at one input. -/
def fnExactSpinOkWrong : ChangeSpec := { name := "fnExactSpinOk", fn := fun _ => fun
  | [d] => { results := [.lit (.bool false)], args := [d] }
  | _ => none }
def FnExactSpinOkWrongFalsely : Prop := fnExactSpinOkRow.holds Try.pinned (OpenSpec.ofChange fnExactSpinOkWrong)

/-- 'laws.FnExactWholeNeg': WHATEVER THE INPUT: true; the input reads as it did. -/
def fnExactWholeNegSpec : ChangeSpec := { name := "fnExactWholeNeg", fn := fun _ => fun
  | [d] => { results := [.lit (.bool true)], args := [d] }
  | _ => none }
def fnExactWholeNegRow : OpenClaim := { program := "ytmgdfefffgjddaa", sum := "f71659fc9e021cbd2223effd70bcbf421921d39d7491b8b29791815ff11811c9", func := "loop.example/g00481/laws.FnExactWholeNeg", spec := "fnExactWholeNeg", apart := false }
def FnExactWholeNegSaid : Prop := fnExactWholeNegRow.holds Try.pinned (OpenSpec.ofChange fnExactWholeNegSpec)

/-- ITS FALSE NEIGHBOUR: 'it returns false'. Refute it at one input. -/
def fnExactWholeNegWrong : ChangeSpec := { name := "fnExactWholeNeg", fn := fun _ => fun
  | [d] => { results := [.lit (.bool false)], args := [d] }
  | _ => none }
def FnExactWholeNegWrongFalsely : Prop := fnExactWholeNegRow.holds Try.pinned (OpenSpec.ofChange fnExactWholeNegWrong)

/-- 'laws.FnExactIvOf': WHATEVER THE INPUT: true; the input reads as it did. -/
def fnExactIvOfSpec : ChangeSpec := { name := "fnExactIvOf", fn := fun _ => fun
  | [d] => { results := [.lit (.bool true)], args := [d] }
  | _ => none }
def fnExactIvOfRow : OpenClaim := { program := "ytmgdfefffgjddaa", sum := "f71659fc9e021cbd2223effd70bcbf421921d39d7491b8b29791815ff11811c9", func := "loop.example/g00481/laws.FnExactIvOf", spec := "fnExactIvOf", apart := false }
def FnExactIvOfSaid : Prop := fnExactIvOfRow.holds Try.pinned (OpenSpec.ofChange fnExactIvOfSpec)

/-- ITS FALSE NEIGHBOUR: 'it returns false'. Refute it at one input. -/
def fnExactIvOfWrong : ChangeSpec := { name := "fnExactIvOf", fn := fun _ => fun
  | [d] => { results := [.lit (.bool false)], args := [d] }
  | _ => none }
def FnExactIvOfWrongFalsely : Prop := fnExactIvOfRow.holds Try.pinned (OpenSpec.ofChange fnExactIvOfWrong)

/-- 'laws.FnExactRomSame': WHATEVER THE INPUT: true; the input reads as it did. -/
def fnExactRomSameSpec : ChangeSpec := { name := "fnExactRomSame", fn := fun _ => fun
  | [d1, d2] => { results := [.lit (.bool true)], args := [d1, d2] }
  | _ => none }
def fnExactRomSameRow : OpenClaim := { program := "ytmgdfefffgjddaa", sum := "f71659fc9e021cbd2223effd70bcbf421921d39d7491b8b29791815ff11811c9", func := "loop.example/g00481/laws.FnExactRomSame", spec := "fnExactRomSame", unfollowed := true, recurses := true, apart := false }
def FnExactRomSameSaid : Prop := fnExactRomSameRow.holds Try.pinned (OpenSpec.ofChange fnExactRomSameSpec)

/-- ITS FALSE NEIGHBOUR: 'it returns false'. Refute it at one input. -/
def fnExactRomSameWrong : ChangeSpec := { name := "fnExactRomSame", fn := fun _ => fun
  | [d1, d2] => { results := [.lit (.bool false)], args := [d1, d2] }
  | _ => none }
def FnExactRomSameWrongFalsely : Prop := fnExactRomSameRow.holds Try.pinned (OpenSpec.ofChange fnExactRomSameWrong)

/- THE SECOND FORM. 'bulk': how many values and letters a reading holds, each counted each time it is reached (what is shared counts as often as it is met; a slice's spare places count too). A statement '..UptoSaid' is the law's where the arguments, and the package variables that the reading takes, are together of bulk at most 1048576: NARROWER than '..Said'. Prove '..Said' where nothing that the law and all that it calls make is longer than what came in: it says more and counts as full. Else prove '..UptoSaid'. A law counts once. -/
mutual
def uptoBulk {H : Type} : DataW H → Nat
  | .lit (.string bytes) => bytes.length + 1
  | .lit _ => 1
  | .nil => 1
  | .ptr d => uptoBulk d + 1
  | .slice elems spare => uptoBulkAll elems + uptoBulkAll spare + 1
  | .agg parts => uptoBulkAll parts + 1
  | .iface _ d => uptoBulk d + 1
  | .map entries => uptoBulkEntries entries + 1
  | .held _ => 1
def uptoBulkAll {H : Type} : List (DataW H) → Nat
  | [] => 0
  | d :: r => uptoBulk d + uptoBulkAll r
def uptoBulkEntries {H : Type} : List (Lit × DataW H) → Nat
  | [] => 0
  | x :: r => uptoBulkEntry x + uptoBulkEntries r
def uptoBulkEntry {H : Type} : Lit × DataW H → Nat
  | (.string bytes, d) => bytes.length + uptoBulk d + 1
  | (_, d) => uptoBulk d + 1
 end
def uptoSmall : (H : Type) → List (DataW H) → Bool := fun _ ds => decide (uptoBulkAll ds ≤ 1048576)
def OpenSpec.upto (s : _root_.Go.ChangeSpec) : _root_.Go.OpenSpec := { _root_.Go.OpenSpec.ofChange s with cond := some uptoSmall }

/-- 'laws.FnExactAdler', WHERE WHAT IT READS IS OF BULK AT MOST 1048576: true; the input reads as it did. -/
def fnExactAdlerUptoRow : OpenClaim := { program := "ytmgdfefffgjddaa", sum := "f71659fc9e021cbd2223effd70bcbf421921d39d7491b8b29791815ff11811c9", func := "loop.example/g00481/laws.FnExactAdler", spec := "fnExactAdler", apart := false, narrowed := true }
def FnExactAdlerUptoSaid : Prop := fnExactAdlerUptoRow.holds Try.pinned (OpenSpec.upto fnExactAdlerSpec)

/-- 'laws.FnExactNatOk', WHERE WHAT IT READS IS OF BULK AT MOST 1048576: true; the input reads as it did. -/
def fnExactNatOkUptoRow : OpenClaim := { program := "ytmgdfefffgjddaa", sum := "f71659fc9e021cbd2223effd70bcbf421921d39d7491b8b29791815ff11811c9", func := "loop.example/g00481/laws.FnExactNatOk", spec := "fnExactNatOk", apart := false, narrowed := true }
def FnExactNatOkUptoSaid : Prop := fnExactNatOkUptoRow.holds Try.pinned (OpenSpec.upto fnExactNatOkSpec)

/-- 'laws.FnExactGetNum', WHERE WHAT IT READS IS OF BULK AT MOST 1048576: true; the input reads as it did. -/
def fnExactGetNumUptoRow : OpenClaim := { program := "ytmgdfefffgjddaa", sum := "f71659fc9e021cbd2223effd70bcbf421921d39d7491b8b29791815ff11811c9", func := "loop.example/g00481/laws.FnExactGetNum", spec := "fnExactGetNum", apart := false, narrowed := true }
def FnExactGetNumUptoSaid : Prop := fnExactGetNumUptoRow.holds Try.pinned (OpenSpec.upto fnExactGetNumSpec)

/-- 'laws.FnExactPutNum', WHERE WHAT IT READS IS OF BULK AT MOST 1048576: true; the input reads as it did. -/
def fnExactPutNumUptoRow : OpenClaim := { program := "ytmgdfefffgjddaa", sum := "f71659fc9e021cbd2223effd70bcbf421921d39d7491b8b29791815ff11811c9", func := "loop.example/g00481/laws.FnExactPutNum", spec := "fnExactPutNum", apart := false, narrowed := true }
def FnExactPutNumUptoSaid : Prop := fnExactPutNumUptoRow.holds Try.pinned (OpenSpec.upto fnExactPutNumSpec)

/-- 'laws.FnExactWholeOk', WHERE WHAT IT READS IS OF BULK AT MOST 1048576: true; the input reads as it did. -/
def fnExactWholeOkUptoRow : OpenClaim := { program := "ytmgdfefffgjddaa", sum := "f71659fc9e021cbd2223effd70bcbf421921d39d7491b8b29791815ff11811c9", func := "loop.example/g00481/laws.FnExactWholeOk", spec := "fnExactWholeOk", apart := false, narrowed := true }
def FnExactWholeOkUptoSaid : Prop := fnExactWholeOkUptoRow.holds Try.pinned (OpenSpec.upto fnExactWholeOkSpec)

/-- 'laws.FnExactAnswerSame', WHERE WHAT IT READS IS OF BULK AT MOST 1048576: true; the input reads as it did. -/
def fnExactAnswerSameUptoRow : OpenClaim := { program := "ytmgdfefffgjddaa", sum := "f71659fc9e021cbd2223effd70bcbf421921d39d7491b8b29791815ff11811c9", func := "loop.example/g00481/laws.FnExactAnswerSame", spec := "fnExactAnswerSame", apart := false, narrowed := true }
def FnExactAnswerSameUptoSaid : Prop := fnExactAnswerSameUptoRow.holds Try.pinned (OpenSpec.upto fnExactAnswerSameSpec)

/-- 'laws.FnExactSpinOk', WHERE WHAT IT READS IS OF BULK AT MOST 1048576: true; the input reads as it did. -/
def fnExactSpinOkUptoRow : OpenClaim := { program := "ytmgdfefffgjddaa", sum := "f71659fc9e021cbd2223effd70bcbf421921d39d7491b8b29791815ff11811c9", func := "loop.example/g00481/laws.FnExactSpinOk", spec := "fnExactSpinOk", apart := false, narrowed := true }
def FnExactSpinOkUptoSaid : Prop := fnExactSpinOkUptoRow.holds Try.pinned (OpenSpec.upto fnExactSpinOkSpec)

/-- 'laws.FnExactWholeNeg', WHERE WHAT IT READS IS OF BULK AT MOST 1048576: true; the input reads as it did. -/
def fnExactWholeNegUptoRow : OpenClaim := { program := "ytmgdfefffgjddaa", sum := "f71659fc9e021cbd2223effd70bcbf421921d39d7491b8b29791815ff11811c9", func := "loop.example/g00481/laws.FnExactWholeNeg", spec := "fnExactWholeNeg", apart := false, narrowed := true }
def FnExactWholeNegUptoSaid : Prop := fnExactWholeNegUptoRow.holds Try.pinned (OpenSpec.upto fnExactWholeNegSpec)

/-- 'laws.FnExactIvOf', WHERE WHAT IT READS IS OF BULK AT MOST 1048576: true; the input reads as it did. -/
def fnExactIvOfUptoRow : OpenClaim := { program := "ytmgdfefffgjddaa", sum := "f71659fc9e021cbd2223effd70bcbf421921d39d7491b8b29791815ff11811c9", func := "loop.example/g00481/laws.FnExactIvOf", spec := "fnExactIvOf", apart := false, narrowed := true }
def FnExactIvOfUptoSaid : Prop := fnExactIvOfUptoRow.holds Try.pinned (OpenSpec.upto fnExactIvOfSpec)

/-- 'laws.FnExactRomSame', WHERE WHAT IT READS IS OF BULK AT MOST 1048576: true; the input reads as it did. -/
def fnExactRomSameUptoRow : OpenClaim := { program := "ytmgdfefffgjddaa", sum := "f71659fc9e021cbd2223effd70bcbf421921d39d7491b8b29791815ff11811c9", func := "loop.example/g00481/laws.FnExactRomSame", spec := "fnExactRomSame", unfollowed := true, recurses := true, apart := false, narrowed := true }
def FnExactRomSameUptoSaid : Prop := fnExactRomSameUptoRow.holds Try.pinned (OpenSpec.upto fnExactRomSameSpec)

end Rows
end Go.Proofs.Ytmgdfefffgjddaa
