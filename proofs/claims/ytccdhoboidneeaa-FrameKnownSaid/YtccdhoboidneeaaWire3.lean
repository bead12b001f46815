/-
  Contracts of PutSigned and of the reference's Put and PutSigned.
-/
import Derived.Test.YtccdhoboidneeaaWire2
namespace Go.Proofs.Ytccdhoboidneeaa
open Go.RowKit
set_option linter.unusedVariables false

end Go.Proofs.Ytccdhoboidneeaa
