/-
  No cell of these rows narrows 'for every input' (looked for: loops, veiled, ifaces, maps, wideKeys, modest, calm, conditions, laid).
  DERIVED. THE GIVEN ROWS OF THIS SEAT. 6 by the template 'for every input the law returns true; each argument reads behind the call as it read before'; 0 by the template 'total and deterministic' (their statements: YtflipnpgcanonabTotals.lean).
  GIVEN WITH THE SEED: the statements are not yours to turn. If you find one false, say at which input.
  Laid BY PROGRAM, IN A SANDBOX (cutbox-rows.mjs): the forced cells as the released guide's own fill.sh prints them over the translation 8128f8c8d7961785… (all of the seat's roots in one cut). By AI agents, Wed Nov 11 2026. No macro, syntax, notation, axiom, sorry.
-/
import Derived.Test.YtflipnpgcanonabChecked
import GoSem.Claim
import GoSem.ClaimJoined
import GoSem.ClaimMapViews
import Derived.JoinedTies
import Derived.KernelRfl
namespace Go.Proofs.Ytflipnpgcanonab
/- THE CELL 'sum', in the pinned program and in every row, IS THE sha256 OF THE DUMP (.gsa) THAT YtflipnpgcanonabProg.lean LOADS. Nothing in Lean hashes anything: it is a label: what it is worth is what the hold of that sum in a sandbox is worth. -/
noncomputable def Try.pinned : Pinned := { name := "ytflipnpgcanonab", sum := "8128f8c8d796178551fd243697491669ed094895dae193d3c858a468f8a29de3", checked := Try.checked }
namespace Rows
def none {H : Type} : Left H := { results := [], args := [] }

/-- 'laws.FnExactFunText': WHATEVER THE INPUT: true; the input reads as it did. -/
def fnExactFunTextSpec : ChangeSpec := { name := "fnExactFunText", fn := fun _ => fun
  | [d] => { results := [.lit (.bool true)], args := [d] }
  | _ => none }
def fnExactFunTextRow : OpenClaim := { program := "ytflipnpgcanonab", sum := "8128f8c8d796178551fd243697491669ed094895dae193d3c858a468f8a29de3", func := "loop.example/g00481/laws.FnExactFunText", spec := "fnExactFunText", apart := false }
def FnExactFunTextSaid : Prop := fnExactFunTextRow.holds Try.pinned (OpenSpec.ofChange fnExactFunTextSpec)

/-- ITS FALSE NEIGHBOUR: 'it returns false'. Refute it at one input. -/
def fnExactFunTextWrong : ChangeSpec := { name := "fnExactFunText", fn := fun _ => fun
  | [d] => { results := [.lit (.bool false)], args := [d] }
  | _ => none }
def FnExactFunTextWrongFalsely : Prop := fnExactFunTextRow.holds Try.pinned (OpenSpec.ofChange fnExactFunTextWrong)

/-- 'laws.FnExactTurned': WHATEVER THE INPUT: true; the input reads as it did. -/
def fnExactTurnedSpec : ChangeSpec := { name := "fnExactTurned", fn := fun _ => fun
  | [d] => { results := [.lit (.bool true)], args := [d] }
  | _ => none }
def fnExactTurnedRow : OpenClaim := { program := "ytflipnpgcanonab", sum := "8128f8c8d796178551fd243697491669ed094895dae193d3c858a468f8a29de3", func := "loop.example/g00481/laws.FnExactTurned", spec := "fnExactTurned", apart := false }
def FnExactTurnedSaid : Prop := fnExactTurnedRow.holds Try.pinned (OpenSpec.ofChange fnExactTurnedSpec)

/-- ITS FALSE NEIGHBOUR: 'it returns false'. Refute it at one input. -/
def fnExactTurnedWrong : ChangeSpec := { name := "fnExactTurned", fn := fun _ => fun
  | [d] => { results := [.lit (.bool false)], args := [d] }
  | _ => none }
def FnExactTurnedWrongFalsely : Prop := fnExactTurnedRow.holds Try.pinned (OpenSpec.ofChange fnExactTurnedWrong)

/-- 'laws.FnExactTakes': WHATEVER THE INPUT: true; the input reads as it did. -/
def fnExactTakesSpec : ChangeSpec := { name := "fnExactTakes", fn := fun _ => fun
  | [d] => { results := [.lit (.bool true)], args := [d] }
  | _ => none }
def fnExactTakesRow : OpenClaim := { program := "ytflipnpgcanonab", sum := "8128f8c8d796178551fd243697491669ed094895dae193d3c858a468f8a29de3", func := "loop.example/g00481/laws.FnExactTakes", spec := "fnExactTakes", apart := false }
def FnExactTakesSaid : Prop := fnExactTakesRow.holds Try.pinned (OpenSpec.ofChange fnExactTakesSpec)

/-- ITS FALSE NEIGHBOUR: 'it returns false'. Refute it at one input. -/
def fnExactTakesWrong : ChangeSpec := { name := "fnExactTakes", fn := fun _ => fun
  | [d] => { results := [.lit (.bool false)], args := [d] }
  | _ => none }
def FnExactTakesWrongFalsely : Prop := fnExactTakesRow.holds Try.pinned (OpenSpec.ofChange fnExactTakesWrong)

/-- 'laws.FnExactFunOf': WHATEVER THE INPUT: true; the input reads as it did. -/
def fnExactFunOfSpec : ChangeSpec := { name := "fnExactFunOf", fn := fun _ => fun
  | [d] => { results := [.lit (.bool true)], args := [d] }
  | _ => none }
def fnExactFunOfRow : OpenClaim := { program := "ytflipnpgcanonab", sum := "8128f8c8d796178551fd243697491669ed094895dae193d3c858a468f8a29de3", func := "loop.example/g00481/laws.FnExactFunOf", spec := "fnExactFunOf", apart := false }
def FnExactFunOfSaid : Prop := fnExactFunOfRow.holds Try.pinned (OpenSpec.ofChange fnExactFunOfSpec)

/-- ITS FALSE NEIGHBOUR: 'it returns false'. Refute it at one input. -/
def fnExactFunOfWrong : ChangeSpec := { name := "fnExactFunOf", fn := fun _ => fun
  | [d] => { results := [.lit (.bool false)], args := [d] }
  | _ => none }
def FnExactFunOfWrongFalsely : Prop := fnExactFunOfRow.holds Try.pinned (OpenSpec.ofChange fnExactFunOfWrong)

/-- 'laws.FnExactLeast': WHATEVER THE INPUT: true; the input reads as it did. -/
def fnExactLeastSpec : ChangeSpec := { name := "fnExactLeast", fn := fun _ => fun
  | [d] => { results := [.lit (.bool true)], args := [d] }
  | _ => none }
def fnExactLeastRow : OpenClaim := { program := "ytflipnpgcanonab", sum := "8128f8c8d796178551fd243697491669ed094895dae193d3c858a468f8a29de3", func := "loop.example/g00481/laws.FnExactLeast", spec := "fnExactLeast", apart := false }
def FnExactLeastSaid : Prop := fnExactLeastRow.holds Try.pinned (OpenSpec.ofChange fnExactLeastSpec)

/-- ITS FALSE NEIGHBOUR: 'it returns false'. Refute it at one input. -/
def fnExactLeastWrong : ChangeSpec := { name := "fnExactLeast", fn := fun _ => fun
  | [d] => { results := [.lit (.bool false)], args := [d] }
  | _ => none }
def FnExactLeastWrongFalsely : Prop := fnExactLeastRow.holds Try.pinned (OpenSpec.ofChange fnExactLeastWrong)

/-- 'laws.FnExactMost': WHATEVER THE INPUT: true; the input reads as it did. -/
def fnExactMostSpec : ChangeSpec := { name := "fnExactMost", fn := fun _ => fun
  | [d] => { results := [.lit (.bool true)], args := [d] }
  | _ => none }
def fnExactMostRow : OpenClaim := { program := "ytflipnpgcanonab", sum := "8128f8c8d796178551fd243697491669ed094895dae193d3c858a468f8a29de3", func := "loop.example/g00481/laws.FnExactMost", spec := "fnExactMost", apart := false }
def FnExactMostSaid : Prop := fnExactMostRow.holds Try.pinned (OpenSpec.ofChange fnExactMostSpec)

/-- ITS FALSE NEIGHBOUR: 'it returns false'. Refute it at one input. -/
def fnExactMostWrong : ChangeSpec := { name := "fnExactMost", fn := fun _ => fun
  | [d] => { results := [.lit (.bool false)], args := [d] }
  | _ => none }
def FnExactMostWrongFalsely : Prop := fnExactMostRow.holds Try.pinned (OpenSpec.ofChange fnExactMostWrong)

/- THE SECOND FORM. 'bulk': how many values and letters a reading holds, each counted each time it is reached (what is shared counts as often as it is met; a slice's spare places count too). A statement '..UptoSaid' is the law's where the arguments, and the package variables that the reading takes, are together of bulk at most 1048576: NARROWER than '..Said'. Prove '..Said' where nothing that the law and all that it calls make is longer than what came in: it says more and counts as full. Else prove '..UptoSaid'. A law counts once. -/
mutual
def uptoBulk {H : Type} : DataW H → Nat
  | .lit (.string bytes) => bytes.length + 1
  | .lit _ => 1
  | .nil => 1
  | .ptr d => uptoBulk d + 1
  | .slice elems spare => uptoBulkAll elems + uptoBulkAll spare + 1
  | .agg parts => uptoBulkAll parts + 1
  | .iface _ d => uptoBulk d + 1
  | .map entries => uptoBulkEntries entries + 1
  | .held _ => 1
def uptoBulkAll {H : Type} : List (DataW H) → Nat
  | [] => 0
  | d :: r => uptoBulk d + uptoBulkAll r
def uptoBulkEntries {H : Type} : List (Lit × DataW H) → Nat
  | [] => 0
  | x :: r => uptoBulkEntry x + uptoBulkEntries r
def uptoBulkEntry {H : Type} : Lit × DataW H → Nat
  | (.string bytes, d) => bytes.length + uptoBulk d + 1
  | (_, d) => uptoBulk d + 1
 end
def uptoSmall : (H : Type) → List (DataW H) → Bool := fun _ ds => decide (uptoBulkAll ds ≤ 1048576)
def OpenSpec.upto (s : _root_.Go.ChangeSpec) : _root_.Go.OpenSpec := { _root_.Go.OpenSpec.ofChange s with cond := some uptoSmall }

/-- 'laws.FnExactFunText', WHERE WHAT IT READS IS OF BULK AT MOST 1048576: true; the input reads as it did. -/
def fnExactFunTextUptoRow : OpenClaim := { program := "ytflipnpgcanonab", sum := "8128f8c8d796178551fd243697491669ed094895dae193d3c858a468f8a29de3", func := "loop.example/g00481/laws.FnExactFunText", spec := "fnExactFunText", apart := false, narrowed := true }
def FnExactFunTextUptoSaid : Prop := fnExactFunTextUptoRow.holds Try.pinned (OpenSpec.upto fnExactFunTextSpec)

/-- 'laws.FnExactTurned', WHERE WHAT IT READS IS OF BULK AT MOST 1048576: true; the input reads as it did. -/
def fnExactTurnedUptoRow : OpenClaim := { program := "ytflipnpgcanonab", sum := "8128f8c8d796178551fd243697491669ed094895dae193d3c858a468f8a29de3", func := "loop.example/g00481/laws.FnExactTurned", spec := "fnExactTurned", apart := false, narrowed := true }
def FnExactTurnedUptoSaid : Prop := fnExactTurnedUptoRow.holds Try.pinned (OpenSpec.upto fnExactTurnedSpec)

/-- 'laws.FnExactTakes', WHERE WHAT IT READS IS OF BULK AT MOST 1048576: true; the input reads as it did. -/
def fnExactTakesUptoRow : OpenClaim := { program := "ytflipnpgcanonab", sum := "8128f8c8d796178551fd243697491669ed094895dae193d3c858a468f8a29de3", func := "loop.example/g00481/laws.FnExactTakes", spec := "fnExactTakes", apart := false, narrowed := true }
def FnExactTakesUptoSaid : Prop := fnExactTakesUptoRow.holds Try.pinned (OpenSpec.upto fnExactTakesSpec)

/-- 'laws.FnExactFunOf', WHERE WHAT IT READS IS OF BULK AT MOST 1048576: true; the input reads as it did. -/
def fnExactFunOfUptoRow : OpenClaim := { program := "ytflipnpgcanonab", sum := "8128f8c8d796178551fd243697491669ed094895dae193d3c858a468f8a29de3", func := "loop.example/g00481/laws.FnExactFunOf", spec := "fnExactFunOf", apart := false, narrowed := true }
def FnExactFunOfUptoSaid : Prop := fnExactFunOfUptoRow.holds Try.pinned (OpenSpec.upto fnExactFunOfSpec)

/-- 'laws.FnExactLeast', WHERE WHAT IT READS IS OF BULK AT MOST 1048576: true; the input reads as it did. -/
def fnExactLeastUptoRow : OpenClaim := { program := "ytflipnpgcanonab", sum := "8128f8c8d796178551fd243697491669ed094895dae193d3c858a468f8a29de3", func := "loop.example/g00481/laws.FnExactLeast", spec := "fnExactLeast", apart := false, narrowed := true }
def FnExactLeastUptoSaid : Prop := fnExactLeastUptoRow.holds Try.pinned (OpenSpec.upto fnExactLeastSpec)

/-- 'laws.FnExactMost', WHERE WHAT IT READS IS OF BULK AT MOST 1048576: true; the input reads as it did. -/
def fnExactMostUptoRow : OpenClaim := { program := "ytflipnpgcanonab", sum := "8128f8c8d796178551fd243697491669ed094895dae193d3c858a468f8a29de3", func := "loop.example/g00481/laws.FnExactMost", spec := "fnExactMost", apart := false, narrowed := true }
def FnExactMostUptoSaid : Prop := fnExactMostUptoRow.holds Try.pinned (OpenSpec.upto fnExactMostSpec)

end Rows
end Go.Proofs.Ytflipnpgcanonab
