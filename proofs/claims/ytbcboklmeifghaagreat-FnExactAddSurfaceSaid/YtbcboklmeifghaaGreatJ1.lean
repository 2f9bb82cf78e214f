/-
  A call that starts no goroutine meets the statement for calls that may.
-/
import Derived.Test.YtbcboklmeifghaaGreatStLaw
import Derived.Conc.Holds
import Derived.Leaving
import Derived.Test.YtbcboklmeifghaaGreatRows
import Derived.ProofKit

section
set_option linter.unusedSimpArgs false
set_option linter.unusedVariables false
namespace Go.Proofs.YtbcboklmeifghaaGreat.St
end Go.Proofs.YtbcboklmeifghaaGreat.St
end

section
/-
  Facts on the program's first words: that calls may enter it, and how it was made.
-/
set_option maxRecDepth 100000
namespace Go.Proofs.YtbcboklmeifghaaGreat.Facts
open Go
theorem mayEnter_of {P : Program} {R : List (List Char)} (h : behindMainWord (wordsSigns P.initOrder.toList) = "cut".toList :: R) (hs : stripLifts liftWords ("cut".toList :: R) = ([], "cut".toList :: R)) (h2 : P.laysLater = false) (h3 : P.bearsReflect = false)
    (h4 : P.doorFits [] = true) : P.mayEnter = true := by
  unfold Program.mayEnter
  rw [h]
  simp only [hs]
  simp [h2, h3, h4]
theorem lifts_of {P : Program} {R : List (List Char)} (h : behindMainWord (wordsSigns P.initOrder.toList) = "cut".toList :: R) (hs : stripLifts liftWords ("cut".toList :: R) = ([], "cut".toList :: R)) : P.liftsFinal = false := by
  unfold Program.liftsFinal Program.headLifts
  simp only [h, hs]
  simp
theorem make_of {P : Program} {R : List (List Char)} (h : behindMainWord (wordsSigns P.initOrder.toList) = "cut".toList :: R) : P.make = some .cut := by
  unfold Program.make
  rw [h]
  simp
def ioN : List Nat := [104, 97, 114, 110, 101, 115, 115, 32, 54, 98, 51, 98, 52, 55, 56, 52, 52, 53, 99, 48, 101, 98, 52, 97, 99, 56, 50, 49, 54, 99, 50, 99, 102, 51, 55, 98, 48, 102, 57, 56, 101, 56, 48, 49, 57, 101, 49, 49, 100, 49, 49, 52, 54, 49, 55, 101, 52, 49, 55, 56, 100, 51, 54, 99, 48, 99, 49, 52, 53, 99, 57, 102, 32, 99, 117, 116, 32, 97, 116, 32, 108, 111, 111, 112, 46, 101, 120, 97, 109, 112, 108, 101, 47, 103, 48, 48, 56, 48, 57, 47, 108, 97, 119, 115, 46, 70, 110, 69, 120, 97, 99, 116, 65, 100, 100, 83, 117, 114, 102, 97, 99, 101, 32, 108, 111, 111, 112, 46, 101, 120, 97, 109, 112, 108, 101, 47, 103, 48, 48, 56, 48, 57, 47, 108, 97, 119, 115, 46, 70, 110, 69, 120, 97, 99, 116, 67, 97, 110, 100, 105, 100, 97, 116, 101, 115]
def ioR : List (List Char) := [[97, 116].map Char.ofNat, [108, 111, 111, 112, 46, 101, 120, 97, 109, 112, 108, 101, 47, 103, 48, 48, 56, 48, 57, 47, 108, 97, 119, 115, 46, 70, 110, 69, 120, 97, 99, 116, 65, 100, 100, 83, 117, 114, 102, 97, 99, 101].map Char.ofNat, [108, 111, 111, 112, 46, 101, 120, 97, 109, 112, 108, 101, 47, 103, 48, 48, 56, 48, 57, 47, 108, 97, 119, 115, 46, 70, 110, 69, 120, 97, 99, 116, 67, 97, 110, 100, 105, 100, 97, 116, 101, 115].map Char.ofNat]
theorem io0 : Tryz.prog.initOrder = String.ofList (ioN.map Char.ofNat) := by kernel_rfl
theorem io1 : Tryz.prog.initOrder.toList = ioN.map Char.ofNat := by rw [io0, String.toList_ofList]
theorem io2 : behindMainWord (wordsSigns (ioN.map Char.ofNat)) = "cut".toList :: ioR := by kernel_rfl
theorem io3 : behindMainWord (wordsSigns Tryz.prog.initOrder.toList) = "cut".toList :: ioR := by rw [io1, io2]
theorem io4 : stripLifts liftWords ("cut".toList :: ioR) = ([], "cut".toList :: ioR) := by kernel_rfl
theorem mayEnter_t : Tryz.prog.mayEnter = true := mayEnter_of io3 io4 (by kernel_rfl) (by kernel_rfl) (by kernel_rfl)
theorem lifts_t : Tryz.prog.liftsFinal = false := lifts_of io3 io4
theorem make_t : Tryz.prog.make = some .cut := make_of io3
end Go.Proofs.YtbcboklmeifghaaGreat.Facts
end
