/-
  Facts on the program's first words: that calls may enter it, and how it was made.
-/
import Derived.Test.YtcdjneiaoikpnaaRows
import Derived.Test.YtcdjneiaoikpnaaStLeav
import Derived.ProofKit
set_option maxRecDepth 100000
namespace Go.Proofs.Ytcdjneiaoikpnaa.Facts
open Go
theorem mayEnter_of {P : Program} {R : List (List Char)} (h : behindMainWord (wordsSigns P.initOrder.toList) = "cut".toList :: R) (hs : stripLifts liftWords ("cut".toList :: R) = ([], "cut".toList :: R)) (h2 : P.laysLater = false) (h3 : P.bearsReflect = false)
    (h4 : P.doorFits [] = true) : P.mayEnter = true := by
  unfold Program.mayEnter
  rw [h]
  simp only [hs]
  simp [h2, h3, h4]
theorem lifts_of {P : Program} {R : List (List Char)} (h : behindMainWord (wordsSigns P.initOrder.toList) = "cut".toList :: R) (hs : stripLifts liftWords ("cut".toList :: R) = ([], "cut".toList :: R)) : P.liftsFinal = false := by
  unfold Program.liftsFinal Program.headLifts
  simp only [h, hs]
  simp
theorem make_of {P : Program} {R : List (List Char)} (h : behindMainWord (wordsSigns P.initOrder.toList) = "cut".toList :: R) : P.make = some .cut := by
  unfold Program.make
  rw [h]
  simp
def ioN : List Nat := [104, 97, 114, 110, 101, 115, 115, 32, 101, 49, 56, 54, 97, 49, 54, 52, 101, 57, 99, 97, 97, 56, 56, 50, 54, 50, 55, 53, 97, 99, 51, 56, 51, 53, 57, 97, 55, 100, 49, 51, 57, 48, 53, 55, 53, 57, 55, 99, 51, 56, 53, 101, 54, 50, 100, 101, 53, 48, 51, 51, 100, 100, 54, 54, 54, 53, 57, 54, 48, 54, 55, 101, 32, 99, 117, 116, 32, 97, 116, 32, 108, 111, 111, 112, 46, 101, 120, 97, 109, 112, 108, 101, 47, 103, 48, 48, 56, 48, 57, 47, 108, 97, 119, 115, 46, 70, 110, 69, 120, 97, 99, 116, 85, 115, 101, 84, 105, 108, 101, 32, 108, 111, 111, 112, 46, 101, 120, 97, 109, 112, 108, 101, 47, 103, 48, 48, 56, 48, 57, 47, 108, 97, 119, 115, 46, 70, 110, 67, 104, 101, 99, 107, 32, 108, 111, 111, 112, 46, 101, 120, 97, 109, 112, 108, 101, 47, 103, 48, 48, 56, 48, 57, 47, 108, 97, 119, 115, 46, 70, 110, 69, 120, 97, 99, 116, 71, 114, 105, 100, 79, 102, 32, 108, 111, 111, 112, 46, 101, 120, 97, 109, 112, 108, 101, 47, 103, 48, 48, 56, 48, 57, 47, 108, 97, 119, 115, 46, 70, 110, 69, 120, 97, 99, 116, 68, 101, 112, 116, 104, 79, 114, 100, 101, 114]
def ioR : List (List Char) := [[97, 116].map Char.ofNat, [108, 111, 111, 112, 46, 101, 120, 97, 109, 112, 108, 101, 47, 103, 48, 48, 56, 48, 57, 47, 108, 97, 119, 115, 46, 70, 110, 69, 120, 97, 99, 116, 85, 115, 101, 84, 105, 108, 101].map Char.ofNat, [108, 111, 111, 112, 46, 101, 120, 97, 109, 112, 108, 101, 47, 103, 48, 48, 56, 48, 57, 47, 108, 97, 119, 115, 46, 70, 110, 67, 104, 101, 99, 107].map Char.ofNat, [108, 111, 111, 112, 46, 101, 120, 97, 109, 112, 108, 101, 47, 103, 48, 48, 56, 48, 57, 47, 108, 97, 119, 115, 46, 70, 110, 69, 120, 97, 99, 116, 71, 114, 105, 100, 79, 102].map Char.ofNat, [108, 111, 111, 112, 46, 101, 120, 97, 109, 112, 108, 101, 47, 103, 48, 48, 56, 48, 57, 47, 108, 97, 119, 115, 46, 70, 110, 69, 120, 97, 99, 116, 68, 101, 112, 116, 104, 79, 114, 100, 101, 114].map Char.ofNat]
theorem io0 : Try.prog.initOrder = String.ofList (ioN.map Char.ofNat) := by kernel_rfl
theorem io1 : Try.prog.initOrder.toList = ioN.map Char.ofNat := by rw [io0, String.toList_ofList]
theorem io2 : behindMainWord (wordsSigns (ioN.map Char.ofNat)) = "cut".toList :: ioR := by kernel_rfl
theorem io3 : behindMainWord (wordsSigns Try.prog.initOrder.toList) = "cut".toList :: ioR := by rw [io1, io2]
theorem io4 : stripLifts liftWords ("cut".toList :: ioR) = ([], "cut".toList :: ioR) := by kernel_rfl
theorem mayEnter_t : Try.prog.mayEnter = true := mayEnter_of io3 io4 (by kernel_rfl) (by kernel_rfl) (by kernel_rfl)
theorem lifts_t : Try.prog.liftsFinal = false := lifts_of io3 io4
theorem make_t : Try.prog.make = some .cut := make_of io3
end Go.Proofs.Ytcdjneiaoikpnaa.Facts
