/-
  The functions and types that the first list (Fns) leaves out.
-/
import Derived.Test.YtcdjneiaoikpnaaFns
set_option linter.unusedSimpArgs false
set_option linter.unusedVariables false
namespace Go.Proofs.Ytcdjneiaoikpnaa.St


end Go.Proofs.Ytcdjneiaoikpnaa.St
