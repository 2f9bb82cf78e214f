/-
  The functions and types that the first list (Fns) leaves out.
-/
import Derived.Test.YtgoimincdbbafaaFns
set_option linter.unusedSimpArgs false
set_option linter.unusedVariables false
namespace Go.Proofs.Ytgoimincdbbafaa.St


end Go.Proofs.Ytgoimincdbbafaa.St
