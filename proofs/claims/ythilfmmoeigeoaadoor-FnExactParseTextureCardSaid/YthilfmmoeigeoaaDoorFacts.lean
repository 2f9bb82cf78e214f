/-
  Facts on the program's first words: that calls may enter it, and how it was made.
-/
import Derived.Test.YthilfmmoeigeoaaDoorRows
import Derived.Test.YthilfmmoeigeoaaDoorStLeav
import Derived.ProofKit
set_option maxRecDepth 100000
namespace Go.Proofs.YthilfmmoeigeoaaDoor.Facts
open Go
theorem mayEnter_of {P : Program} {R : List (List Char)} (h : behindMainWord (wordsSigns P.initOrder.toList) = "cut".toList :: R) (hs : stripLifts liftWords ("cut".toList :: R) = ([], "cut".toList :: R)) (h2 : P.laysLater = false) (h3 : P.bearsReflect = false)
    (h4 : P.doorFits [] = true) : P.mayEnter = true := by
  unfold Program.mayEnter
  rw [h]
  simp only [hs]
  simp [h2, h3, h4]
theorem lifts_of {P : Program} {R : List (List Char)} (h : behindMainWord (wordsSigns P.initOrder.toList) = "cut".toList :: R) (hs : stripLifts liftWords ("cut".toList :: R) = ([], "cut".toList :: R)) : P.liftsFinal = false := by
  unfold Program.liftsFinal Program.headLifts
  simp only [h, hs]
  simp
theorem make_of {P : Program} {R : List (List Char)} (h : behindMainWord (wordsSigns P.initOrder.toList) = "cut".toList :: R) : P.make = some .cut := by
  unfold Program.make
  rw [h]
  simp
def ioN : List Nat := [104, 97, 114, 110, 101, 115, 115, 32, 48, 54, 53, 101, 50, 55, 97, 102, 101, 50, 98, 49, 53, 97, 50, 53, 50, 102, 55, 54, 56, 57, 51, 48, 56, 49, 48, 56, 48, 53, 102, 99, 50, 51, 99, 56, 101, 48, 98, 57, 55, 49, 101, 100, 55, 101, 97, 57, 51, 102, 100, 48, 53, 55, 52, 51, 99, 57, 48, 49, 56, 52, 100, 50, 32, 99, 117, 116, 32, 97, 116, 32, 108, 111, 111, 112, 46, 101, 120, 97, 109, 112, 108, 101, 47, 103, 48, 48, 56, 48, 57, 47, 108, 97, 119, 115, 46, 70, 110, 69, 120, 97, 99, 116, 70, 111, 114, 109, 97, 116, 84, 101, 120, 116, 117, 114, 101, 32, 108, 111, 111, 112, 46, 101, 120, 97, 109, 112, 108, 101, 47, 103, 48, 48, 56, 48, 57, 47, 108, 97, 119, 115, 46, 70, 110, 69, 120, 97, 99, 116, 70, 111, 114, 109, 97, 116, 67, 111, 100, 101, 32, 108, 111, 111, 112, 46, 101, 120, 97, 109, 112, 108, 101, 47, 103, 48, 48, 56, 48, 57, 47, 108, 97, 119, 115, 46, 70, 110, 69, 120, 97, 99, 116, 80, 97, 114, 115, 101, 84, 101, 120, 116, 117, 114, 101]
def ioR : List (List Char) := [[97, 116].map Char.ofNat, [108, 111, 111, 112, 46, 101, 120, 97, 109, 112, 108, 101, 47, 103, 48, 48, 56, 48, 57, 47, 108, 97, 119, 115, 46, 70, 110, 69, 120, 97, 99, 116, 70, 111, 114, 109, 97, 116, 84, 101, 120, 116, 117, 114, 101].map Char.ofNat, [108, 111, 111, 112, 46, 101, 120, 97, 109, 112, 108, 101, 47, 103, 48, 48, 56, 48, 57, 47, 108, 97, 119, 115, 46, 70, 110, 69, 120, 97, 99, 116, 70, 111, 114, 109, 97, 116, 67, 111, 100, 101].map Char.ofNat, [108, 111, 111, 112, 46, 101, 120, 97, 109, 112, 108, 101, 47, 103, 48, 48, 56, 48, 57, 47, 108, 97, 119, 115, 46, 70, 110, 69, 120, 97, 99, 116, 80, 97, 114, 115, 101, 84, 101, 120, 116, 117, 114, 101].map Char.ofNat]
theorem io0 : Tryd.prog.initOrder = String.ofList (ioN.map Char.ofNat) := by kernel_rfl
theorem io1 : Tryd.prog.initOrder.toList = ioN.map Char.ofNat := by rw [io0, String.toList_ofList]
theorem io2 : behindMainWord (wordsSigns (ioN.map Char.ofNat)) = "cut".toList :: ioR := by kernel_rfl
theorem io3 : behindMainWord (wordsSigns Tryd.prog.initOrder.toList) = "cut".toList :: ioR := by rw [io1, io2]
theorem io4 : stripLifts liftWords ("cut".toList :: ioR) = ([], "cut".toList :: ioR) := by kernel_rfl
theorem mayEnter_t : Tryd.prog.mayEnter = true := mayEnter_of io3 io4 (by kernel_rfl) (by kernel_rfl) (by kernel_rfl)
theorem lifts_t : Tryd.prog.liftsFinal = false := lifts_of io3 io4
theorem make_t : Tryd.prog.make = some .cut := make_of io3
end Go.Proofs.YthilfmmoeigeoaaDoor.Facts
