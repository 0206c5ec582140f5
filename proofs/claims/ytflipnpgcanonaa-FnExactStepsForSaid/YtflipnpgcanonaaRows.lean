/-
  No cell of these rows narrows 'for every input' (looked for: loops, veiled, ifaces, maps, wideKeys, modest, calm, conditions, laid).
  DERIVED. THE GIVEN ROWS OF THIS SEAT. 6 by the template 'for every input the law returns true; each argument reads behind the call as it read before'; 0 by the template 'total and deterministic' (their statements: YtflipnpgcanonaaTotals.lean).
  GIVEN WITH THE SEED: the statements are not yours to turn. If you find one false, say at which input.
  Laid BY PROGRAM, IN A SANDBOX (cutbox-rows.mjs): the forced cells as the released guide's own fill.sh prints them over the translation cd2d6546ba285730… (all of the seat's roots in one cut). By AI agents, Wed Nov 11 2026. No macro, syntax, notation, axiom, sorry.
-/
import Derived.Test.YtflipnpgcanonaaChecked
import GoSem.Claim
import GoSem.ClaimJoined
import GoSem.ClaimMapViews
import Derived.JoinedTies
import Derived.KernelRfl
namespace Go.Proofs.Ytflipnpgcanonaa
/- THE CELL 'sum', in the pinned program and in every row, IS THE sha256 OF THE DUMP (.gsa) THAT YtflipnpgcanonaaProg.lean LOADS. Nothing in Lean hashes anything: it is a label: what it is worth is what the hold of that sum in a sandbox is worth. -/
noncomputable def Try.pinned : Pinned := { name := "ytflipnpgcanonaa", sum := "cd2d6546ba285730f682f77fbcb02a1bd5ba3081b4919288d4fa9ac742be550d", checked := Try.checked }
namespace Rows
def none {H : Type} : Left H := { results := [], args := [] }

/-- 'laws.FnExactConstants': WHATEVER THE INPUT: true; the input reads as it did. -/
def fnExactConstantsSpec : ChangeSpec := { name := "fnExactConstants", fn := fun _ => fun
  | [] => { results := [.lit (.bool true)], args := [] }
  | _ => none }
def fnExactConstantsRow : OpenClaim := { program := "ytflipnpgcanonaa", sum := "cd2d6546ba285730f682f77fbcb02a1bd5ba3081b4919288d4fa9ac742be550d", func := "loop.example/g00481/laws.FnExactConstants", spec := "fnExactConstants", apart := false }
def FnExactConstantsSaid : Prop := fnExactConstantsRow.holds Try.pinned (OpenSpec.ofChange fnExactConstantsSpec)

/-- ITS FALSE NEIGHBOUR: 'it returns false'. Refute it at one input. -/
def fnExactConstantsWrong : ChangeSpec := { name := "fnExactConstants", fn := fun _ => fun
  | [] => { results := [.lit (.bool false)], args := [] }
  | _ => none }
def FnExactConstantsWrongFalsely : Prop := fnExactConstantsRow.holds Try.pinned (OpenSpec.ofChange fnExactConstantsWrong)

/-- 'laws.FnExactFmtOk': WHATEVER THE INPUT: true; the input reads as it did. -/
def fnExactFmtOkSpec : ChangeSpec := { name := "fnExactFmtOk", fn := fun _ => fun
  | [d] => { results := [.lit (.bool true)], args := [d] }
  | _ => none }
def fnExactFmtOkRow : OpenClaim := { program := "ytflipnpgcanonaa", sum := "cd2d6546ba285730f682f77fbcb02a1bd5ba3081b4919288d4fa9ac742be550d", func := "loop.example/g00481/laws.FnExactFmtOk", spec := "fnExactFmtOk", apart := false }
def FnExactFmtOkSaid : Prop := fnExactFmtOkRow.holds Try.pinned (OpenSpec.ofChange fnExactFmtOkSpec)

/-- ITS FALSE NEIGHBOUR: 'it returns false'. Refute it at one input. -/
def fnExactFmtOkWrong : ChangeSpec := { name := "fnExactFmtOk", fn := fun _ => fun
  | [d] => { results := [.lit (.bool false)], args := [d] }
  | _ => none }
def FnExactFmtOkWrongFalsely : Prop := fnExactFmtOkRow.holds Try.pinned (OpenSpec.ofChange fnExactFmtOkWrong)

/-- 'laws.FnExactStatusText': WHATEVER THE INPUT: true; the input reads as it did. -/
def fnExactStatusTextSpec : ChangeSpec := { name := "fnExactStatusText", fn := fun _ => fun
  | [d] => { results := [.lit (.bool true)], args := [d] }
  | _ => none }
def fnExactStatusTextRow : OpenClaim := { program := "ytflipnpgcanonaa", sum := "cd2d6546ba285730f682f77fbcb02a1bd5ba3081b4919288d4fa9ac742be550d", func := "loop.example/g00481/laws.FnExactStatusText", spec := "fnExactStatusText", apart := false }
def FnExactStatusTextSaid : Prop := fnExactStatusTextRow.holds Try.pinned (OpenSpec.ofChange fnExactStatusTextSpec)

/-- ITS FALSE NEIGHBOUR: 'it returns false'. Refute it at one input. -/
def fnExactStatusTextWrong : ChangeSpec := { name := "fnExactStatusText", fn := fun _ => fun
  | [d] => { results := [.lit (.bool false)], args := [d] }
  | _ => none }
def FnExactStatusTextWrongFalsely : Prop := fnExactStatusTextRow.holds Try.pinned (OpenSpec.ofChange fnExactStatusTextWrong)

/-- 'laws.FnExactModeOf': WHATEVER THE INPUT: true; the input reads as it did. -/
def fnExactModeOfSpec : ChangeSpec := { name := "fnExactModeOf", fn := fun _ => fun
  | [d] => { results := [.lit (.bool true)], args := [d] }
  | _ => none }
def fnExactModeOfRow : OpenClaim := { program := "ytflipnpgcanonaa", sum := "cd2d6546ba285730f682f77fbcb02a1bd5ba3081b4919288d4fa9ac742be550d", func := "loop.example/g00481/laws.FnExactModeOf", spec := "fnExactModeOf", apart := false }
def FnExactModeOfSaid : Prop := fnExactModeOfRow.holds Try.pinned (OpenSpec.ofChange fnExactModeOfSpec)

/-- ITS FALSE NEIGHBOUR: 'it returns false'. Refute it at one input. -/
def fnExactModeOfWrong : ChangeSpec := { name := "fnExactModeOf", fn := fun _ => fun
  | [d] => { results := [.lit (.bool false)], args := [d] }
  | _ => none }
def FnExactModeOfWrongFalsely : Prop := fnExactModeOfRow.holds Try.pinned (OpenSpec.ofChange fnExactModeOfWrong)

/-- 'laws.FnExactPolicyOf': WHATEVER THE INPUT: true; the input reads as it did. -/
def fnExactPolicyOfSpec : ChangeSpec := { name := "fnExactPolicyOf", fn := fun _ => fun
  | [d] => { results := [.lit (.bool true)], args := [d] }
  | _ => none }
def fnExactPolicyOfRow : OpenClaim := { program := "ytflipnpgcanonaa", sum := "cd2d6546ba285730f682f77fbcb02a1bd5ba3081b4919288d4fa9ac742be550d", func := "loop.example/g00481/laws.FnExactPolicyOf", spec := "fnExactPolicyOf", apart := false }
def FnExactPolicyOfSaid : Prop := fnExactPolicyOfRow.holds Try.pinned (OpenSpec.ofChange fnExactPolicyOfSpec)

/-- ITS FALSE NEIGHBOUR: 'it returns false'. Refute it at one input. -/
def fnExactPolicyOfWrong : ChangeSpec := { name := "fnExactPolicyOf", fn := fun _ => fun
  | [d] => { results := [.lit (.bool false)], args := [d] }
  | _ => none }
def FnExactPolicyOfWrongFalsely : Prop := fnExactPolicyOfRow.holds Try.pinned (OpenSpec.ofChange fnExactPolicyOfWrong)

/-- 'laws.FnExactStepsFor': WHATEVER THE INPUT: true; the input reads as it did. -/
def fnExactStepsForSpec : ChangeSpec := { name := "fnExactStepsFor", fn := fun _ => fun
  | [d] => { results := [.lit (.bool true)], args := [d] }
  | _ => none }
def fnExactStepsForRow : OpenClaim := { program := "ytflipnpgcanonaa", sum := "cd2d6546ba285730f682f77fbcb02a1bd5ba3081b4919288d4fa9ac742be550d", func := "loop.example/g00481/laws.FnExactStepsFor", spec := "fnExactStepsFor", apart := false }
def FnExactStepsForSaid : Prop := fnExactStepsForRow.holds Try.pinned (OpenSpec.ofChange fnExactStepsForSpec)

/-- ITS FALSE NEIGHBOUR: 'it returns false'. Refute it at one input. -/
def fnExactStepsForWrong : ChangeSpec := { name := "fnExactStepsFor", fn := fun _ => fun
  | [d] => { results := [.lit (.bool false)], args := [d] }
  | _ => none }
def FnExactStepsForWrongFalsely : Prop := fnExactStepsForRow.holds Try.pinned (OpenSpec.ofChange fnExactStepsForWrong)

/- THE SECOND FORM. 'bulk': how many values and letters a reading holds, each counted each time it is reached (what is shared counts as often as it is met; a slice's spare places count too). A statement '..UptoSaid' is the law's where the arguments, and the package variables that the reading takes, are together of bulk at most 1048576: NARROWER than '..Said'. Prove '..Said' where nothing that the law and all that it calls make is longer than what came in: it says more and counts as full. Else prove '..UptoSaid'. A law counts once. -/
mutual
def uptoBulk {H : Type} : DataW H → Nat
  | .lit (.string bytes) => bytes.length + 1
  | .lit _ => 1
  | .nil => 1
  | .ptr d => uptoBulk d + 1
  | .slice elems spare => uptoBulkAll elems + uptoBulkAll spare + 1
  | .agg parts => uptoBulkAll parts + 1
  | .iface _ d => uptoBulk d + 1
  | .map entries => uptoBulkEntries entries + 1
  | .held _ => 1
def uptoBulkAll {H : Type} : List (DataW H) → Nat
  | [] => 0
  | d :: r => uptoBulk d + uptoBulkAll r
def uptoBulkEntries {H : Type} : List (Lit × DataW H) → Nat
  | [] => 0
  | x :: r => uptoBulkEntry x + uptoBulkEntries r
def uptoBulkEntry {H : Type} : Lit × DataW H → Nat
  | (.string bytes, d) => bytes.length + uptoBulk d + 1
  | (_, d) => uptoBulk d + 1
 end
def uptoSmall : (H : Type) → List (DataW H) → Bool := fun _ ds => decide (uptoBulkAll ds ≤ 1048576)
def OpenSpec.upto (s : _root_.Go.ChangeSpec) : _root_.Go.OpenSpec := { _root_.Go.OpenSpec.ofChange s with cond := some uptoSmall }

/-- 'laws.FnExactConstants', WHERE WHAT IT READS IS OF BULK AT MOST 1048576: true; the input reads as it did. -/
def fnExactConstantsUptoRow : OpenClaim := { program := "ytflipnpgcanonaa", sum := "cd2d6546ba285730f682f77fbcb02a1bd5ba3081b4919288d4fa9ac742be550d", func := "loop.example/g00481/laws.FnExactConstants", spec := "fnExactConstants", apart := false, narrowed := true }
def FnExactConstantsUptoSaid : Prop := fnExactConstantsUptoRow.holds Try.pinned (OpenSpec.upto fnExactConstantsSpec)

/-- 'laws.FnExactFmtOk', WHERE WHAT IT READS IS OF BULK AT MOST 1048576: true; the input reads as it did. -/
def fnExactFmtOkUptoRow : OpenClaim := { program := "ytflipnpgcanonaa", sum := "cd2d6546ba285730f682f77fbcb02a1bd5ba3081b4919288d4fa9ac742be550d", func := "loop.example/g00481/laws.FnExactFmtOk", spec := "fnExactFmtOk", apart := false, narrowed := true }
def FnExactFmtOkUptoSaid : Prop := fnExactFmtOkUptoRow.holds Try.pinned (OpenSpec.upto fnExactFmtOkSpec)

/-- 'laws.FnExactStatusText', WHERE WHAT IT READS IS OF BULK AT MOST 1048576: true; the input reads as it did. -/
def fnExactStatusTextUptoRow : OpenClaim := { program := "ytflipnpgcanonaa", sum := "cd2d6546ba285730f682f77fbcb02a1bd5ba3081b4919288d4fa9ac742be550d", func := "loop.example/g00481/laws.FnExactStatusText", spec := "fnExactStatusText", apart := false, narrowed := true }
def FnExactStatusTextUptoSaid : Prop := fnExactStatusTextUptoRow.holds Try.pinned (OpenSpec.upto fnExactStatusTextSpec)

/-- 'laws.FnExactModeOf', WHERE WHAT IT READS IS OF BULK AT MOST 1048576: true; the input reads as it did. -/
def fnExactModeOfUptoRow : OpenClaim := { program := "ytflipnpgcanonaa", sum := "cd2d6546ba285730f682f77fbcb02a1bd5ba3081b4919288d4fa9ac742be550d", func := "loop.example/g00481/laws.FnExactModeOf", spec := "fnExactModeOf", apart := false, narrowed := true }
def FnExactModeOfUptoSaid : Prop := fnExactModeOfUptoRow.holds Try.pinned (OpenSpec.upto fnExactModeOfSpec)

/-- 'laws.FnExactPolicyOf', WHERE WHAT IT READS IS OF BULK AT MOST 1048576: true; the input reads as it did. -/
def fnExactPolicyOfUptoRow : OpenClaim := { program := "ytflipnpgcanonaa", sum := "cd2d6546ba285730f682f77fbcb02a1bd5ba3081b4919288d4fa9ac742be550d", func := "loop.example/g00481/laws.FnExactPolicyOf", spec := "fnExactPolicyOf", apart := false, narrowed := true }
def FnExactPolicyOfUptoSaid : Prop := fnExactPolicyOfUptoRow.holds Try.pinned (OpenSpec.upto fnExactPolicyOfSpec)

/-- 'laws.FnExactStepsFor', WHERE WHAT IT READS IS OF BULK AT MOST 1048576: true; the input reads as it did. -/
def fnExactStepsForUptoRow : OpenClaim := { program := "ytflipnpgcanonaa", sum := "cd2d6546ba285730f682f77fbcb02a1bd5ba3081b4919288d4fa9ac742be550d", func := "loop.example/g00481/laws.FnExactStepsFor", spec := "fnExactStepsFor", apart := false, narrowed := true }
def FnExactStepsForUptoSaid : Prop := fnExactStepsForUptoRow.holds Try.pinned (OpenSpec.upto fnExactStepsForSpec)

end Rows
end Go.Proofs.Ytflipnpgcanonaa
