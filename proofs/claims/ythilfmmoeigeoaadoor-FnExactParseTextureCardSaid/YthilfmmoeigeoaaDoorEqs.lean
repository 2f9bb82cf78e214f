/-
  Which types' values are compared cell by cell.
-/
import Derived.Test.YthilfmmoeigeoaaDoorStEq
import Derived.Test.YthilfmmoeigeoaaDoorFns
set_option linter.unusedSimpArgs false
set_option linter.unusedVariables false
namespace Go.Proofs.YthilfmmoeigeoaaDoor.St
instance : EqT Tryd.prog 57 [.int .i64, .str, .int .i64] := ⟨by kernel_rfl, by kernel_rfl, by kernel_rfl, by kernel_rfl⟩
instance : EqT Tryd.prog 58 [.int .i64, .str, .int .i64] := ⟨by kernel_rfl, by kernel_rfl, by kernel_rfl, by kernel_rfl⟩
instance : EqT Tryd.prog 83 [.int .i64, .str, .int .i64] := ⟨by kernel_rfl, by kernel_rfl, by kernel_rfl, by kernel_rfl⟩
instance : EqT Tryd.prog 132 [.str] := ⟨by kernel_rfl, by kernel_rfl, by kernel_rfl, by kernel_rfl⟩
instance : EqT Tryd.prog 133 [.str] := ⟨by kernel_rfl, by kernel_rfl, by kernel_rfl, by kernel_rfl⟩
end Go.Proofs.YthilfmmoeigeoaaDoor.St
