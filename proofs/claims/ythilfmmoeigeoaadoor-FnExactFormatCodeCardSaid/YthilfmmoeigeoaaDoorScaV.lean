/-
  Contracts of the functions on points.
-/
import Derived.Test.YthilfmmoeigeoaaDoorFnB
import Derived.Test.YthilfmmoeigeoaaDoorScal
import Derived.Test.YthilfmmoeigeoaaDoorStZip
set_option linter.unusedSimpArgs false
set_option linter.unusedVariables false
namespace Go.Proofs.YthilfmmoeigeoaaDoor.St
open Go.RowKit
end Go.Proofs.YthilfmmoeigeoaaDoor.St
