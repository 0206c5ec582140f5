/-
  No cell of these rows narrows 'for every input' (looked for: loops, veiled, ifaces, maps, wideKeys, modest, calm, conditions, laid).
  DERIVED. THE GIVEN ROWS OF THIS SEAT. 3 by the template 'for every input the law returns true; each argument reads behind the call as it read before'; 0 by the template 'total and deterministic' (their statements: YtimjfcipkmcgmaaTotals.lean).
  GIVEN WITH THE SEED: the statements are not yours to turn. If you find one false, say at which input.
  Laid BY PROGRAM, IN A SANDBOX (cutbox-rows.mjs): the forced cells as the released guide's own fill.sh prints them over the translation 2538e5edc3a87822… (all of the seat's roots in one cut). By AI agents, Wed Nov 11 2026. No macro, syntax, notation, axiom, sorry.
-/
import Derived.Test.YtimjfcipkmcgmaaChecked
import GoSem.Claim
import GoSem.ClaimJoined
import GoSem.ClaimMapViews
import Derived.JoinedTies
import Derived.KernelRfl
namespace Go.Proofs.Ytimjfcipkmcgmaa
/- THE CELL 'sum', in the pinned program and in every row, IS THE sha256 OF THE DUMP (.gsa) THAT YtimjfcipkmcgmaaProg.lean LOADS. Nothing in Lean hashes anything: it is a label: what it is worth is what the hold of that sum in a sandbox is worth. -/
noncomputable def Try.pinned : Pinned := { name := "ytimjfcipkmcgmaa", sum := "2538e5edc3a87822fc55883818f082290d92fc0e38e87110544574d20b87f66a", checked := Try.checked }
namespace Rows
def none {H : Type} : Left H := { results := [], args := [] }

/-- 'laws.FnFuns': WHATEVER THE INPUT: true; the input reads as it did. -/
def fnFunsSpec : ChangeSpec := { name := "fnFuns", fn := fun _ => fun
  | [d] => { results := [.lit (.bool true)], args := [d] }
  | _ => none }
def fnFunsRow : OpenClaim := { program := "ytimjfcipkmcgmaa", sum := "2538e5edc3a87822fc55883818f082290d92fc0e38e87110544574d20b87f66a", func := "loop.example/g00481/laws.FnFuns", spec := "fnFuns", apart := false }
def FnFunsSaid : Prop := fnFunsRow.holds Try.pinned (OpenSpec.ofChange fnFunsSpec)

/-- ITS FALSE NEIGHBOUR: 'it returns false'. Refute it at one input. -/
def fnFunsWrong : ChangeSpec := { name := "fnFuns", fn := fun _ => fun
  | [d] => { results := [.lit (.bool false)], args := [d] }
  | _ => none }
def FnFunsWrongFalsely : Prop := fnFunsRow.holds Try.pinned (OpenSpec.ofChange fnFunsWrong)

/-- 'laws.FnWordsRead': WHATEVER THE INPUT: true; the input reads as it did. -/
def fnWordsReadSpec : ChangeSpec := { name := "fnWordsRead", fn := fun _ => fun
  | [d] => { results := [.lit (.bool true)], args := [d] }
  | _ => none }
def fnWordsReadRow : OpenClaim := { program := "ytimjfcipkmcgmaa", sum := "2538e5edc3a87822fc55883818f082290d92fc0e38e87110544574d20b87f66a", func := "loop.example/g00481/laws.FnWordsRead", spec := "fnWordsRead", apart := false }
def FnWordsReadSaid : Prop := fnWordsReadRow.holds Try.pinned (OpenSpec.ofChange fnWordsReadSpec)

/-- ITS FALSE NEIGHBOUR: 'it returns false'. Refute it at one input. -/
def fnWordsReadWrong : ChangeSpec := { name := "fnWordsRead", fn := fun _ => fun
  | [d] => { results := [.lit (.bool false)], args := [d] }
  | _ => none }
def FnWordsReadWrongFalsely : Prop := fnWordsReadRow.holds Try.pinned (OpenSpec.ofChange fnWordsReadWrong)

/-- 'laws.FnExactExact': WHATEVER THE INPUT: true; the input reads as it did. -/
def fnExactExactSpec : ChangeSpec := { name := "fnExactExact", fn := fun _ => fun
  | [d1, d2, d3, d4, d5] => { results := [.lit (.bool true)], args := [d1, d2, d3, d4, d5] }
  | _ => none }
def fnExactExactRow : OpenClaim := { program := "ytimjfcipkmcgmaa", sum := "2538e5edc3a87822fc55883818f082290d92fc0e38e87110544574d20b87f66a", func := "loop.example/g00481/laws.FnExactExact", spec := "fnExactExact", apart := false }
def FnExactExactSaid : Prop := fnExactExactRow.holds Try.pinned (OpenSpec.ofChange fnExactExactSpec)

/-- ITS FALSE NEIGHBOUR: 'it returns false'. Refute it at one input. -/
def fnExactExactWrong : ChangeSpec := { name := "fnExactExact", fn := fun _ => fun
  | [d1, d2, d3, d4, d5] => { results := [.lit (.bool false)], args := [d1, d2, d3, d4, d5] }
  | _ => none }
def FnExactExactWrongFalsely : Prop := fnExactExactRow.holds Try.pinned (OpenSpec.ofChange fnExactExactWrong)

/- THE SECOND FORM. 'bulk': how many values and letters a reading holds, each counted each time it is reached (what is shared counts as often as it is met; a slice's spare places count too). A statement '..UptoSaid' is the law's where the arguments, and the package variables that the reading takes, are together of bulk at most 1048576: NARROWER than '..Said'. Prove '..Said' where nothing that the law and all that it calls make is longer than what came in: it says more and counts as full. Else prove '..UptoSaid'. A law counts once. -/
mutual
def uptoBulk {H : Type} : DataW H → Nat
  | .lit (.string bytes) => bytes.length + 1
  | .lit _ => 1
  | .nil => 1
  | .ptr d => uptoBulk d + 1
  | .slice elems spare => uptoBulkAll elems + uptoBulkAll spare + 1
  | .agg parts => uptoBulkAll parts + 1
  | .iface _ d => uptoBulk d + 1
  | .map entries => uptoBulkEntries entries + 1
  | .held _ => 1
def uptoBulkAll {H : Type} : List (DataW H) → Nat
  | [] => 0
  | d :: r => uptoBulk d + uptoBulkAll r
def uptoBulkEntries {H : Type} : List (Lit × DataW H) → Nat
  | [] => 0
  | x :: r => uptoBulkEntry x + uptoBulkEntries r
def uptoBulkEntry {H : Type} : Lit × DataW H → Nat
  | (.string bytes, d) => bytes.length + uptoBulk d + 1
  | (_, d) => uptoBulk d + 1
 end
def uptoSmall : (H : Type) → List (DataW H) → Bool := fun _ ds => decide (uptoBulkAll ds ≤ 1048576)
def OpenSpec.upto (s : _root_.Go.ChangeSpec) : _root_.Go.OpenSpec := { _root_.Go.OpenSpec.ofChange s with cond := some uptoSmall }

/-- 'laws.FnFuns', WHERE WHAT IT READS IS OF BULK AT MOST 1048576: true; the input reads as it did. -/
def fnFunsUptoRow : OpenClaim := { program := "ytimjfcipkmcgmaa", sum := "2538e5edc3a87822fc55883818f082290d92fc0e38e87110544574d20b87f66a", func := "loop.example/g00481/laws.FnFuns", spec := "fnFuns", apart := false, narrowed := true }
def FnFunsUptoSaid : Prop := fnFunsUptoRow.holds Try.pinned (OpenSpec.upto fnFunsSpec)

/-- 'laws.FnWordsRead', WHERE WHAT IT READS IS OF BULK AT MOST 1048576: true; the input reads as it did. -/
def fnWordsReadUptoRow : OpenClaim := { program := "ytimjfcipkmcgmaa", sum := "2538e5edc3a87822fc55883818f082290d92fc0e38e87110544574d20b87f66a", func := "loop.example/g00481/laws.FnWordsRead", spec := "fnWordsRead", apart := false, narrowed := true }
def FnWordsReadUptoSaid : Prop := fnWordsReadUptoRow.holds Try.pinned (OpenSpec.upto fnWordsReadSpec)

/-- 'laws.FnExactExact', WHERE WHAT IT READS IS OF BULK AT MOST 1048576: true; the input reads as it did. -/
def fnExactExactUptoRow : OpenClaim := { program := "ytimjfcipkmcgmaa", sum := "2538e5edc3a87822fc55883818f082290d92fc0e38e87110544574d20b87f66a", func := "loop.example/g00481/laws.FnExactExact", spec := "fnExactExact", apart := false, narrowed := true }
def FnExactExactUptoSaid : Prop := fnExactExactUptoRow.holds Try.pinned (OpenSpec.upto fnExactExactSpec)

end Rows
end Go.Proofs.Ytimjfcipkmcgmaa
