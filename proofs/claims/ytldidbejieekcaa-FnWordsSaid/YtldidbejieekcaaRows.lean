/-
  No cell of these rows narrows 'for every input' (looked for: loops, veiled, ifaces, maps, wideKeys, modest, calm, conditions, laid).
  DERIVED. THE GIVEN ROWS OF THIS SEAT. 9 by the template 'for every input the law returns true; each argument reads behind the call as it read before'; 0 by the template 'total and deterministic' (their statements: YtldidbejieekcaaTotals.lean).
  GIVEN WITH THE SEED: the statements are not yours to turn. If you find one false, say at which input.
  Laid BY PROGRAM, IN A SANDBOX (cutbox-rows.mjs): the forced cells as the released guide's own fill.sh prints them over the translation 0323697ce245991c… (all of the seat's roots in one cut). By AI agents, Wed Nov 11 2026. No macro, syntax, notation, axiom, sorry.
-/
import Derived.Test.YtldidbejieekcaaChecked
import GoSem.Claim
import GoSem.ClaimJoined
import GoSem.ClaimMapViews
import Derived.JoinedTies
import Derived.KernelRfl
namespace Go.Proofs.Ytldidbejieekcaa
/- THE CELL 'sum', in the pinned program and in every row, IS THE sha256 OF THE DUMP (.gsa) THAT YtldidbejieekcaaProg.lean LOADS. Nothing in Lean hashes anything: it is a label: what it is worth is what the hold of that sum in a sandbox is worth. -/
noncomputable def Try.pinned : Pinned := { name := "ytldidbejieekcaa", sum := "0323697ce245991cd51a2b1c62a801fd26127eb2918a32fa566af26ab01d5980", checked := Try.checked }
namespace Rows
def none {H : Type} : Left H := { results := [], args := [] }

/-- 'laws.FnExactConfOk': WHATEVER THE INPUT: true; the input reads as it did. -/
def fnExactConfOkSpec : ChangeSpec := { name := "fnExactConfOk", fn := fun _ => fun
  | [d] => { results := [.lit (.bool true)], args := [d] }
  | _ => none }
def fnExactConfOkRow : OpenClaim := { program := "ytldidbejieekcaa", sum := "0323697ce245991cd51a2b1c62a801fd26127eb2918a32fa566af26ab01d5980", func := "loop.example/g00481/laws.FnExactConfOk", spec := "fnExactConfOk", apart := false }
def FnExactConfOkSaid : Prop := fnExactConfOkRow.holds Try.pinned (OpenSpec.ofChange fnExactConfOkSpec)

/-- ITS FALSE NEIGHBOUR: 'it returns false'. Refute it at one input. -/
def fnExactConfOkWrong : ChangeSpec := { name := "fnExactConfOk", fn := fun _ => fun
  | [d] => { results := [.lit (.bool false)], args := [d] }
  | _ => none }
def FnExactConfOkWrongFalsely : Prop := fnExactConfOkRow.holds Try.pinned (OpenSpec.ofChange fnExactConfOkWrong)

/-- 'laws.FnExactRungs': WHATEVER THE INPUT: true; the input reads as it did. -/
def fnExactRungsSpec : ChangeSpec := { name := "fnExactRungs", fn := fun _ => fun
  | [d] => { results := [.lit (.bool true)], args := [d] }
  | _ => none }
def fnExactRungsRow : OpenClaim := { program := "ytldidbejieekcaa", sum := "0323697ce245991cd51a2b1c62a801fd26127eb2918a32fa566af26ab01d5980", func := "loop.example/g00481/laws.FnExactRungs", spec := "fnExactRungs", apart := false }
def FnExactRungsSaid : Prop := fnExactRungsRow.holds Try.pinned (OpenSpec.ofChange fnExactRungsSpec)

/-- ITS FALSE NEIGHBOUR: 'it returns false'. Refute it at one input. -/
def fnExactRungsWrong : ChangeSpec := { name := "fnExactRungs", fn := fun _ => fun
  | [d] => { results := [.lit (.bool false)], args := [d] }
  | _ => none }
def FnExactRungsWrongFalsely : Prop := fnExactRungsRow.holds Try.pinned (OpenSpec.ofChange fnExactRungsWrong)

/-- 'laws.FnExactRawOk': WHATEVER THE INPUT: true; the input reads as it did. -/
def fnExactRawOkSpec : ChangeSpec := { name := "fnExactRawOk", fn := fun _ => fun
  | [d1, d2] => { results := [.lit (.bool true)], args := [d1, d2] }
  | _ => none }
def fnExactRawOkRow : OpenClaim := { program := "ytldidbejieekcaa", sum := "0323697ce245991cd51a2b1c62a801fd26127eb2918a32fa566af26ab01d5980", func := "loop.example/g00481/laws.FnExactRawOk", spec := "fnExactRawOk", apart := false }
def FnExactRawOkSaid : Prop := fnExactRawOkRow.holds Try.pinned (OpenSpec.ofChange fnExactRawOkSpec)

/-- ITS FALSE NEIGHBOUR: 'it returns false'. Refute it at one input. -/
def fnExactRawOkWrong : ChangeSpec := { name := "fnExactRawOk", fn := fun _ => fun
  | [d1, d2] => { results := [.lit (.bool false)], args := [d1, d2] }
  | _ => none }
def FnExactRawOkWrongFalsely : Prop := fnExactRawOkRow.holds Try.pinned (OpenSpec.ofChange fnExactRawOkWrong)

/-- 'laws.FnExactRawOf': WHATEVER THE INPUT: true; the input reads as it did. -/
def fnExactRawOfSpec : ChangeSpec := { name := "fnExactRawOf", fn := fun _ => fun
  | [d1, d2] => { results := [.lit (.bool true)], args := [d1, d2] }
  | _ => none }
def fnExactRawOfRow : OpenClaim := { program := "ytldidbejieekcaa", sum := "0323697ce245991cd51a2b1c62a801fd26127eb2918a32fa566af26ab01d5980", func := "loop.example/g00481/laws.FnExactRawOf", spec := "fnExactRawOf", apart := false }
def FnExactRawOfSaid : Prop := fnExactRawOfRow.holds Try.pinned (OpenSpec.ofChange fnExactRawOfSpec)

/-- ITS FALSE NEIGHBOUR: 'it returns false'. Refute it at one input. -/
def fnExactRawOfWrong : ChangeSpec := { name := "fnExactRawOf", fn := fun _ => fun
  | [d1, d2] => { results := [.lit (.bool false)], args := [d1, d2] }
  | _ => none }
def FnExactRawOfWrongFalsely : Prop := fnExactRawOfRow.holds Try.pinned (OpenSpec.ofChange fnExactRawOfWrong)

/-- 'laws.FnExactEngineOk': WHATEVER THE INPUT: true; the input reads as it did. -/
def fnExactEngineOkSpec : ChangeSpec := { name := "fnExactEngineOk", fn := fun _ => fun
  | [d] => { results := [.lit (.bool true)], args := [d] }
  | _ => none }
def fnExactEngineOkRow : OpenClaim := { program := "ytldidbejieekcaa", sum := "0323697ce245991cd51a2b1c62a801fd26127eb2918a32fa566af26ab01d5980", func := "loop.example/g00481/laws.FnExactEngineOk", spec := "fnExactEngineOk", apart := false }
def FnExactEngineOkSaid : Prop := fnExactEngineOkRow.holds Try.pinned (OpenSpec.ofChange fnExactEngineOkSpec)

/-- ITS FALSE NEIGHBOUR: 'it returns false'. Refute it at one input. -/
def fnExactEngineOkWrong : ChangeSpec := { name := "fnExactEngineOk", fn := fun _ => fun
  | [d] => { results := [.lit (.bool false)], args := [d] }
  | _ => none }
def FnExactEngineOkWrongFalsely : Prop := fnExactEngineOkRow.holds Try.pinned (OpenSpec.ofChange fnExactEngineOkWrong)

/-- 'laws.FnExactWordOf': WHATEVER THE INPUT: true; the input reads as it did. -/
def fnExactWordOfSpec : ChangeSpec := { name := "fnExactWordOf", fn := fun _ => fun
  | [d1, d2] => { results := [.lit (.bool true)], args := [d1, d2] }
  | _ => none }
def fnExactWordOfRow : OpenClaim := { program := "ytldidbejieekcaa", sum := "0323697ce245991cd51a2b1c62a801fd26127eb2918a32fa566af26ab01d5980", func := "loop.example/g00481/laws.FnExactWordOf", spec := "fnExactWordOf", apart := false }
def FnExactWordOfSaid : Prop := fnExactWordOfRow.holds Try.pinned (OpenSpec.ofChange fnExactWordOfSpec)

/-- ITS FALSE NEIGHBOUR: 'it returns false'. Refute it at one input. -/
def fnExactWordOfWrong : ChangeSpec := { name := "fnExactWordOf", fn := fun _ => fun
  | [d1, d2] => { results := [.lit (.bool false)], args := [d1, d2] }
  | _ => none }
def FnExactWordOfWrongFalsely : Prop := fnExactWordOfRow.holds Try.pinned (OpenSpec.ofChange fnExactWordOfWrong)

/-- 'laws.FnExactBitsText': WHATEVER THE INPUT: true; the input reads as it did. -/
def fnExactBitsTextSpec : ChangeSpec := { name := "fnExactBitsText", fn := fun _ => fun
  | [d1, d2] => { results := [.lit (.bool true)], args := [d1, d2] }
  | _ => none }
def fnExactBitsTextRow : OpenClaim := { program := "ytldidbejieekcaa", sum := "0323697ce245991cd51a2b1c62a801fd26127eb2918a32fa566af26ab01d5980", func := "loop.example/g00481/laws.FnExactBitsText", spec := "fnExactBitsText", apart := false }
def FnExactBitsTextSaid : Prop := fnExactBitsTextRow.holds Try.pinned (OpenSpec.ofChange fnExactBitsTextSpec)

/-- ITS FALSE NEIGHBOUR: 'it returns false'. Refute it at one input. -/
def fnExactBitsTextWrong : ChangeSpec := { name := "fnExactBitsText", fn := fun _ => fun
  | [d1, d2] => { results := [.lit (.bool false)], args := [d1, d2] }
  | _ => none }
def FnExactBitsTextWrongFalsely : Prop := fnExactBitsTextRow.holds Try.pinned (OpenSpec.ofChange fnExactBitsTextWrong)

/-- 'laws.FnWords': WHATEVER THE INPUT: true; the input reads as it did. -/
def fnWordsSpec : ChangeSpec := { name := "fnWords", fn := fun _ => fun
  | [d] => { results := [.lit (.bool true)], args := [d] }
  | _ => none }
def fnWordsRow : OpenClaim := { program := "ytldidbejieekcaa", sum := "0323697ce245991cd51a2b1c62a801fd26127eb2918a32fa566af26ab01d5980", func := "loop.example/g00481/laws.FnWords", spec := "fnWords", apart := false }
def FnWordsSaid : Prop := fnWordsRow.holds Try.pinned (OpenSpec.ofChange fnWordsSpec)

/-- ITS FALSE NEIGHBOUR: 'it returns false'. Refute it at one input. -/
def fnWordsWrong : ChangeSpec := { name := "fnWords", fn := fun _ => fun
  | [d] => { results := [.lit (.bool false)], args := [d] }
  | _ => none }
def FnWordsWrongFalsely : Prop := fnWordsRow.holds Try.pinned (OpenSpec.ofChange fnWordsWrong)

/-- 'laws.FnExactInDomain': WHATEVER THE INPUT: true; the input reads as it did. -/
def fnExactInDomainSpec : ChangeSpec := { name := "fnExactInDomain", fn := fun _ => fun
  | [d1, d2, d3, d4, d5] => { results := [.lit (.bool true)], args := [d1, d2, d3, d4, d5] }
  | _ => none }
def fnExactInDomainRow : OpenClaim := { program := "ytldidbejieekcaa", sum := "0323697ce245991cd51a2b1c62a801fd26127eb2918a32fa566af26ab01d5980", func := "loop.example/g00481/laws.FnExactInDomain", spec := "fnExactInDomain", apart := false }
def FnExactInDomainSaid : Prop := fnExactInDomainRow.holds Try.pinned (OpenSpec.ofChange fnExactInDomainSpec)

/-- ITS FALSE NEIGHBOUR: 'it returns false'. Refute it at one input. -/
def fnExactInDomainWrong : ChangeSpec := { name := "fnExactInDomain", fn := fun _ => fun
  | [d1, d2, d3, d4, d5] => { results := [.lit (.bool false)], args := [d1, d2, d3, d4, d5] }
  | _ => none }
def FnExactInDomainWrongFalsely : Prop := fnExactInDomainRow.holds Try.pinned (OpenSpec.ofChange fnExactInDomainWrong)

/- THE SECOND FORM. 'bulk': how many values and letters a reading holds, each counted each time it is reached (what is shared counts as often as it is met; a slice's spare places count too). A statement '..UptoSaid' is the law's where the arguments, and the package variables that the reading takes, are together of bulk at most 1048576: NARROWER than '..Said'. Prove '..Said' where nothing that the law and all that it calls make is longer than what came in: it says more and counts as full. Else prove '..UptoSaid'. A law counts once. -/
mutual
def uptoBulk {H : Type} : DataW H → Nat
  | .lit (.string bytes) => bytes.length + 1
  | .lit _ => 1
  | .nil => 1
  | .ptr d => uptoBulk d + 1
  | .slice elems spare => uptoBulkAll elems + uptoBulkAll spare + 1
  | .agg parts => uptoBulkAll parts + 1
  | .iface _ d => uptoBulk d + 1
  | .map entries => uptoBulkEntries entries + 1
  | .held _ => 1
def uptoBulkAll {H : Type} : List (DataW H) → Nat
  | [] => 0
  | d :: r => uptoBulk d + uptoBulkAll r
def uptoBulkEntries {H : Type} : List (Lit × DataW H) → Nat
  | [] => 0
  | x :: r => uptoBulkEntry x + uptoBulkEntries r
def uptoBulkEntry {H : Type} : Lit × DataW H → Nat
  | (.string bytes, d) => bytes.length + uptoBulk d + 1
  | (_, d) => uptoBulk d + 1
 end
def uptoSmall : (H : Type) → List (DataW H) → Bool := fun _ ds => decide (uptoBulkAll ds ≤ 1048576)
def OpenSpec.upto (s : _root_.Go.ChangeSpec) : _root_.Go.OpenSpec := { _root_.Go.OpenSpec.ofChange s with cond := some uptoSmall }

/-- 'laws.FnExactConfOk', WHERE WHAT IT READS IS OF BULK AT MOST 1048576: true; the input reads as it did. -/
def fnExactConfOkUptoRow : OpenClaim := { program := "ytldidbejieekcaa", sum := "0323697ce245991cd51a2b1c62a801fd26127eb2918a32fa566af26ab01d5980", func := "loop.example/g00481/laws.FnExactConfOk", spec := "fnExactConfOk", apart := false, narrowed := true }
def FnExactConfOkUptoSaid : Prop := fnExactConfOkUptoRow.holds Try.pinned (OpenSpec.upto fnExactConfOkSpec)

/-- 'laws.FnExactRungs', WHERE WHAT IT READS IS OF BULK AT MOST 1048576: true; the input reads as it did. -/
def fnExactRungsUptoRow : OpenClaim := { program := "ytldidbejieekcaa", sum := "0323697ce245991cd51a2b1c62a801fd26127eb2918a32fa566af26ab01d5980", func := "loop.example/g00481/laws.FnExactRungs", spec := "fnExactRungs", apart := false, narrowed := true }
def FnExactRungsUptoSaid : Prop := fnExactRungsUptoRow.holds Try.pinned (OpenSpec.upto fnExactRungsSpec)

/-- 'laws.FnExactRawOk', WHERE WHAT IT READS IS OF BULK AT MOST 1048576: true; the input reads as it did. -/
def fnExactRawOkUptoRow : OpenClaim := { program := "ytldidbejieekcaa", sum := "0323697ce245991cd51a2b1c62a801fd26127eb2918a32fa566af26ab01d5980", func := "loop.example/g00481/laws.FnExactRawOk", spec := "fnExactRawOk", apart := false, narrowed := true }
def FnExactRawOkUptoSaid : Prop := fnExactRawOkUptoRow.holds Try.pinned (OpenSpec.upto fnExactRawOkSpec)

/-- 'laws.FnExactRawOf', WHERE WHAT IT READS IS OF BULK AT MOST 1048576: true; the input reads as it did. -/
def fnExactRawOfUptoRow : OpenClaim := { program := "ytldidbejieekcaa", sum := "0323697ce245991cd51a2b1c62a801fd26127eb2918a32fa566af26ab01d5980", func := "loop.example/g00481/laws.FnExactRawOf", spec := "fnExactRawOf", apart := false, narrowed := true }
def FnExactRawOfUptoSaid : Prop := fnExactRawOfUptoRow.holds Try.pinned (OpenSpec.upto fnExactRawOfSpec)

/-- 'laws.FnExactEngineOk', WHERE WHAT IT READS IS OF BULK AT MOST 1048576: true; the input reads as it did. -/
def fnExactEngineOkUptoRow : OpenClaim := { program := "ytldidbejieekcaa", sum := "0323697ce245991cd51a2b1c62a801fd26127eb2918a32fa566af26ab01d5980", func := "loop.example/g00481/laws.FnExactEngineOk", spec := "fnExactEngineOk", apart := false, narrowed := true }
def FnExactEngineOkUptoSaid : Prop := fnExactEngineOkUptoRow.holds Try.pinned (OpenSpec.upto fnExactEngineOkSpec)

/-- 'laws.FnExactWordOf', WHERE WHAT IT READS IS OF BULK AT MOST 1048576: true; the input reads as it did. -/
def fnExactWordOfUptoRow : OpenClaim := { program := "ytldidbejieekcaa", sum := "0323697ce245991cd51a2b1c62a801fd26127eb2918a32fa566af26ab01d5980", func := "loop.example/g00481/laws.FnExactWordOf", spec := "fnExactWordOf", apart := false, narrowed := true }
def FnExactWordOfUptoSaid : Prop := fnExactWordOfUptoRow.holds Try.pinned (OpenSpec.upto fnExactWordOfSpec)

/-- 'laws.FnExactBitsText', WHERE WHAT IT READS IS OF BULK AT MOST 1048576: true; the input reads as it did. -/
def fnExactBitsTextUptoRow : OpenClaim := { program := "ytldidbejieekcaa", sum := "0323697ce245991cd51a2b1c62a801fd26127eb2918a32fa566af26ab01d5980", func := "loop.example/g00481/laws.FnExactBitsText", spec := "fnExactBitsText", apart := false, narrowed := true }
def FnExactBitsTextUptoSaid : Prop := fnExactBitsTextUptoRow.holds Try.pinned (OpenSpec.upto fnExactBitsTextSpec)

/-- 'laws.FnWords', WHERE WHAT IT READS IS OF BULK AT MOST 1048576: true; the input reads as it did. -/
def fnWordsUptoRow : OpenClaim := { program := "ytldidbejieekcaa", sum := "0323697ce245991cd51a2b1c62a801fd26127eb2918a32fa566af26ab01d5980", func := "loop.example/g00481/laws.FnWords", spec := "fnWords", apart := false, narrowed := true }
def FnWordsUptoSaid : Prop := fnWordsUptoRow.holds Try.pinned (OpenSpec.upto fnWordsSpec)

/-- 'laws.FnExactInDomain', WHERE WHAT IT READS IS OF BULK AT MOST 1048576: true; the input reads as it did. -/
def fnExactInDomainUptoRow : OpenClaim := { program := "ytldidbejieekcaa", sum := "0323697ce245991cd51a2b1c62a801fd26127eb2918a32fa566af26ab01d5980", func := "loop.example/g00481/laws.FnExactInDomain", spec := "fnExactInDomain", apart := false, narrowed := true }
def FnExactInDomainUptoSaid : Prop := fnExactInDomainUptoRow.holds Try.pinned (OpenSpec.upto fnExactInDomainSpec)

end Rows
end Go.Proofs.Ytldidbejieekcaa
