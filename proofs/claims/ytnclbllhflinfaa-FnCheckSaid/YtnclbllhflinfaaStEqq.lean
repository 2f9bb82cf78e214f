/-
  Texts compared, the outcome known.
-/
import Derived.Test.YtnclbllhflinfaaJ3
import Derived.Test.YtnclbllhflinfaaJ2
set_option linter.unusedSimpArgs false
set_option linter.unusedVariables false
namespace Go.Proofs.Ytnclbllhflinfaa.St
open Go.RowKit
section
variable {P : Program} {w : World} {E : Env} {Φ : Value → World → Prop} {ty t t' : TypeId} {x y : Operand}
theorem does_eqlStrT [StrT P t] {m n : ByteArray} (hx : ev E x = some (.string m)) (hy : ev E y = some (.string n)) (h : m = n) (k : Φ (.bool true) w) :
    Does P (.binOp .eql t x y t') ty E w Φ := does_eqlStr hx hy (by rw [bT h]; exact k)
theorem does_eqlStrF [StrT P t] {m n : ByteArray} (hx : ev E x = some (.string m)) (hy : ev E y = some (.string n)) (h : ¬ m = n) (k : Φ (.bool false) w) :
    Does P (.binOp .eql t x y t') ty E w Φ := does_eqlStr hx hy (by rw [bF h]; exact k)
end
end Go.Proofs.Ytnclbllhflinfaa.St
