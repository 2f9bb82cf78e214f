/-
  The functions and types that the first list (Fns) leaves out.
-/
import Derived.Test.YthilfmmoeigeoaaDoorFns
set_option linter.unusedSimpArgs false
set_option linter.unusedVariables false
namespace Go.Proofs.YthilfmmoeigeoaaDoor.St


end Go.Proofs.YthilfmmoeigeoaaDoor.St
