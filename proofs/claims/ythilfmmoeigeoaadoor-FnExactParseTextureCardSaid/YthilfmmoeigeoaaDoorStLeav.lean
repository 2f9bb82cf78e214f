/-
  A call that starts no goroutine meets the statement for calls that may.
-/
import Derived.Test.YthilfmmoeigeoaaDoorStLaw
import Derived.Conc.Holds
import Derived.Leaving
set_option linter.unusedSimpArgs false
set_option linter.unusedVariables false
namespace Go.Proofs.YthilfmmoeigeoaaDoor.St
theorem leaving_of_handed {a : Assume} {C : Checked} {os : Os} {f : FuncId} {r : Reach} {Pre : World → Array Value → Prop} {Post : World → Array Value → Value → World → Prop}
    (h : ReturnsInHanded a C os f r Pre Post) : ReturnsInLeavingWide a C os f r Pre Post := fun enter => by
  obtain ⟨h1, h2, h3, h4, h5⟩ := h enter
  refine ⟨h1, h2, h3, h4, fun w tape i hf => ?_⟩
  obtain ⟨n, v, w', k1, k2, k3, k4, ⟨j, last, l1, l2, l3⟩, k5⟩ := h5 w tape i hf
  exact ⟨n, v, w', k1, k2, k3, k4, ⟨j, last, l1, l2, l3.2.1, onlyLeaving_of_quiet l3.1, l3.2.2⟩, k5⟩
end Go.Proofs.YthilfmmoeigeoaaDoor.St
