/-
  Facts on the program's first words: that calls may enter it, and how it was made.
-/
import Derived.Test.YtedgbmefajnjeaaRows
import Derived.ProofKit
set_option maxRecDepth 100000
namespace Go.Proofs.Ytedgbmefajnjeaa.Facts
open Go
theorem mayEnter_of {P : Program} {R : List (List Char)} (h : behindMainWord (wordsSigns P.initOrder.toList) = "cut".toList :: R) (hs : stripLifts liftWords ("cut".toList :: R) = ([], "cut".toList :: R)) (h2 : P.laysLater = false) (h3 : P.bearsReflect = false)
    (h4 : P.doorFits [] = true) : P.mayEnter = true := by
  unfold Program.mayEnter
  rw [h]
  simp only [hs]
  simp [h2, h3, h4]
theorem lifts_of {P : Program} {R : List (List Char)} (h : behindMainWord (wordsSigns P.initOrder.toList) = "cut".toList :: R) (hs : stripLifts liftWords ("cut".toList :: R) = ([], "cut".toList :: R)) : P.liftsFinal = false := by
  unfold Program.liftsFinal Program.headLifts
  simp only [h, hs]
  simp
theorem make_of {P : Program} {R : List (List Char)} (h : behindMainWord (wordsSigns P.initOrder.toList) = "cut".toList :: R) : P.make = some .cut := by
  unfold Program.make
  rw [h]
  simp
def ioN : List Nat := [104, 97, 114, 110, 101, 115, 115, 32, 57, 98, 56, 49, 53, 48, 99, 97, 50, 100, 102, 53, 52, 102, 50, 54, 97, 99, 101, 52, 54, 101, 57, 100, 53, 98, 48, 52, 52, 49, 51, 101, 52, 52, 48, 97, 99, 100, 101, 51, 100, 99, 51, 57, 102, 99, 102, 48, 53, 56, 52, 53, 101, 53, 102, 52, 55, 57, 101, 99, 56, 50, 51, 102, 32, 99, 117, 116, 32, 97, 116, 32, 108, 111, 111, 112, 46, 101, 120, 97, 109, 112, 108, 101, 47, 103, 48, 48, 56, 48, 57, 47, 108, 97, 119, 115, 46, 70, 110, 69, 120, 97, 99, 116, 66, 117, 99, 107, 101, 116, 115, 79, 102]
def ioR : List (List Char) := [[97, 116].map Char.ofNat, [108, 111, 111, 112, 46, 101, 120, 97, 109, 112, 108, 101, 47, 103, 48, 48, 56, 48, 57, 47, 108, 97, 119, 115, 46, 70, 110, 69, 120, 97, 99, 116, 66, 117, 99, 107, 101, 116, 115, 79, 102].map Char.ofNat]
theorem io0 : Try.prog.initOrder = String.ofList (ioN.map Char.ofNat) := by kernel_rfl
theorem io1 : Try.prog.initOrder.toList = ioN.map Char.ofNat := by rw [io0, String.toList_ofList]
theorem io2 : behindMainWord (wordsSigns (ioN.map Char.ofNat)) = "cut".toList :: ioR := by kernel_rfl
theorem io3 : behindMainWord (wordsSigns Try.prog.initOrder.toList) = "cut".toList :: ioR := by rw [io1, io2]
theorem io4 : stripLifts liftWords ("cut".toList :: ioR) = ([], "cut".toList :: ioR) := by kernel_rfl
theorem mayEnter_t : Try.prog.mayEnter = true := mayEnter_of io3 io4 (by kernel_rfl) (by kernel_rfl) (by kernel_rfl)
theorem lifts_t : Try.prog.liftsFinal = false := lifts_of io3 io4
theorem make_t : Try.prog.make = some .cut := make_of io3
end Go.Proofs.Ytedgbmefajnjeaa.Facts
