/-
  A call that starts no goroutine meets the statement for calls that may.
-/
import Derived.Test.YtnclbllhflinfaaStLaw
import Derived.Conc.Holds
import Derived.Leaving
import Derived.Test.YtnclbllhflinfaaRows
import Derived.ProofKit

section
set_option linter.unusedSimpArgs false
set_option linter.unusedVariables false
namespace Go.Proofs.Ytnclbllhflinfaa.St
theorem leaving_of_handed {a : Assume} {C : Checked} {os : Os} {f : FuncId} {r : Reach} {Pre : World → Array Value → Prop} {Post : World → Array Value → Value → World → Prop}
    (h : ReturnsInHanded a C os f r Pre Post) : ReturnsInLeavingWide a C os f r Pre Post := fun enter => by
  obtain ⟨h1, h2, h3, h4, h5⟩ := h enter
  refine ⟨h1, h2, h3, h4, fun w tape i hf => ?_⟩
  obtain ⟨n, v, w', k1, k2, k3, k4, ⟨j, last, l1, l2, l3⟩, k5⟩ := h5 w tape i hf
  exact ⟨n, v, w', k1, k2, k3, k4, ⟨j, last, l1, l2, l3.2.1, onlyLeaving_of_quiet l3.1, l3.2.2⟩, k5⟩
end Go.Proofs.Ytnclbllhflinfaa.St
end

section
/-
  Facts on the program's first words: that calls may enter it, and how it was made.
-/
set_option maxRecDepth 100000
namespace Go.Proofs.Ytnclbllhflinfaa.Facts
open Go
theorem mayEnter_of {P : Program} {R : List (List Char)} (h : behindMainWord (wordsSigns P.initOrder.toList) = "cut".toList :: R) (hs : stripLifts liftWords ("cut".toList :: R) = ([], "cut".toList :: R)) (h2 : P.laysLater = false) (h3 : P.bearsReflect = false)
    (h4 : P.doorFits [] = true) : P.mayEnter = true := by
  unfold Program.mayEnter
  rw [h]
  simp only [hs]
  simp [h2, h3, h4]
theorem lifts_of {P : Program} {R : List (List Char)} (h : behindMainWord (wordsSigns P.initOrder.toList) = "cut".toList :: R) (hs : stripLifts liftWords ("cut".toList :: R) = ([], "cut".toList :: R)) : P.liftsFinal = false := by
  unfold Program.liftsFinal Program.headLifts
  simp only [h, hs]
  simp
theorem make_of {P : Program} {R : List (List Char)} (h : behindMainWord (wordsSigns P.initOrder.toList) = "cut".toList :: R) : P.make = some .cut := by
  unfold Program.make
  rw [h]
  simp
def ioN : List Nat := [104, 97, 114, 110, 101, 115, 115, 32, 57, 101, 101, 48, 50, 100, 52, 50, 55, 99, 54, 101, 53, 101, 49, 56, 53, 53, 49, 98, 52, 50, 49, 100, 98, 99, 54, 51, 53, 54, 49, 101, 53, 102, 55, 54, 97, 48, 55, 49, 97, 48, 57, 98, 102, 102, 49, 54, 97, 50, 102, 50, 101, 55, 52, 49, 52, 49, 99, 52, 50, 52, 51, 57, 32, 99, 117, 116, 32, 97, 116, 32, 108, 111, 111, 112, 46, 101, 120, 97, 109, 112, 108, 101, 47, 103, 48, 48, 56, 48, 57, 47, 108, 97, 119, 115, 46, 70, 110, 67, 104, 101, 99, 107]
def ioR : List (List Char) := [[97, 116].map Char.ofNat, [108, 111, 111, 112, 46, 101, 120, 97, 109, 112, 108, 101, 47, 103, 48, 48, 56, 48, 57, 47, 108, 97, 119, 115, 46, 70, 110, 67, 104, 101, 99, 107].map Char.ofNat]
theorem io0 : Try.prog.initOrder = String.ofList (ioN.map Char.ofNat) := by kernel_rfl
theorem io1 : Try.prog.initOrder.toList = ioN.map Char.ofNat := by rw [io0, String.toList_ofList]
theorem io2 : behindMainWord (wordsSigns (ioN.map Char.ofNat)) = "cut".toList :: ioR := by kernel_rfl
theorem io3 : behindMainWord (wordsSigns Try.prog.initOrder.toList) = "cut".toList :: ioR := by rw [io1, io2]
theorem io4 : stripLifts liftWords ("cut".toList :: ioR) = ([], "cut".toList :: ioR) := by kernel_rfl
theorem mayEnter_t : Try.prog.mayEnter = true := mayEnter_of io3 io4 (by kernel_rfl) (by kernel_rfl) (by kernel_rfl)
theorem lifts_t : Try.prog.liftsFinal = false := lifts_of io3 io4
theorem make_t : Try.prog.make = some .cut := make_of io3
end Go.Proofs.Ytnclbllhflinfaa.Facts
end
