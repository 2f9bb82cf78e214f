/-
  The uniform nodes: the reference's function.
-/
import Derived.Test.YtnclbllhflinfaaLUnm
import Derived.Test.YtnclbllhflinfaaJ2
set_option linter.unusedSimpArgs false
set_option linter.unusedVariables false
namespace Go.Proofs.Ytnclbllhflinfaa.St
open Go.RowKit
theorem does_loadArrD {P : Program} {E : Env} {w W0 : World} {X : List Nat} {B : Heap} {L : List Own} {Φ : Value → World → Prop} {ty t : TypeId} {x : Operand} (i : Nat) {us : List Bool} {u : Bool} {b off o : Nat} {T : TypeId} {fz : Nat × Nat} [Scalar P t] (hm : Mem W0 X B L w) (hx : ev E x = some (.pointer (some ⟨b, off, none⟩))) (hL : L[i]? = some (.blk b (.cells (us.map Value.bool).toArray T fz)))
    (ho : off = o) (hu : us[o]? = some u) (k : Φ (.bool (dB (u = true))) w) : Does P (.load t x) ty E w Φ :=
  does_loadArr i hm hx hL ho hu (by rw [dB_self] at k; exact k)
end Go.Proofs.Ytnclbllhflinfaa.St
