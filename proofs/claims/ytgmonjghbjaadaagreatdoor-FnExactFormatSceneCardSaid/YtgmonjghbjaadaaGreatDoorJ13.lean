/-
  The functions and types that the first list (Fns) leaves out.
-/
import Derived.Test.YtgmonjghbjaadaaGreatDoorFns
import Derived.Test.YtgmonjghbjaadaaGreatDoorJ2
import Derived.Test.YtgmonjghbjaadaaGreatDoorJ3

section
set_option linter.unusedSimpArgs false
set_option linter.unusedVariables false
namespace Go.Proofs.YtgmonjghbjaadaaGreatDoor.St


end Go.Proofs.YtgmonjghbjaadaaGreatDoor.St
end

section
/-
  Fields of values that are structs.
-/
set_option linter.unusedSimpArgs false
set_option linter.unusedVariables false
namespace Go.Proofs.YtgmonjghbjaadaaGreatDoor.St
open Go.RowKit
def fldTB (P : Program) (t : TypeId) (k ft off : Nat) : Bool :=
  match P.underlying t with
  | some (.struct fs) => match fs[k]? with
    | some f => f.type == ft && f.offset == off
    | none => false
  | _ => false
class FldT (P : Program) (t : TypeId) (k : Nat) (ft off : outParam Nat) : Prop where
  out : fldTB P t k ft off = true
section
variable {P : Program} {E : Env} {w : World} {Φ : Value → World → Prop} {ty t : TypeId} {x : Operand}
end
instance : FldT Tryz.prog 7 0 2 0 := ⟨by kernel_rfl⟩
instance : FldT Tryz.prog 7 1 3 1 := ⟨by kernel_rfl⟩
instance : FldT Tryz.prog 7 2 4 2 := ⟨by kernel_rfl⟩
instance : FldT Tryz.prog 7 3 6 3 := ⟨by kernel_rfl⟩
instance : FldT Tryz.prog 8 0 2 0 := ⟨by kernel_rfl⟩
instance : FldT Tryz.prog 8 1 3 1 := ⟨by kernel_rfl⟩
instance : FldT Tryz.prog 8 2 4 2 := ⟨by kernel_rfl⟩
instance : FldT Tryz.prog 8 3 6 3 := ⟨by kernel_rfl⟩
instance : FldT Tryz.prog 13 0 9 0 := ⟨by kernel_rfl⟩
instance : FldT Tryz.prog 13 1 12 1 := ⟨by kernel_rfl⟩
instance : FldT Tryz.prog 14 0 9 0 := ⟨by kernel_rfl⟩
instance : FldT Tryz.prog 14 1 12 1 := ⟨by kernel_rfl⟩
instance : FldT Tryz.prog 18 0 17 0 := ⟨by kernel_rfl⟩
instance : FldT Tryz.prog 19 0 17 0 := ⟨by kernel_rfl⟩
instance : FldT Tryz.prog 22 0 3 0 := ⟨by kernel_rfl⟩
instance : FldT Tryz.prog 22 1 3 1 := ⟨by kernel_rfl⟩
instance : FldT Tryz.prog 22 2 3 2 := ⟨by kernel_rfl⟩
instance : FldT Tryz.prog 22 3 3 3 := ⟨by kernel_rfl⟩
instance : FldT Tryz.prog 22 4 4 4 := ⟨by kernel_rfl⟩
instance : FldT Tryz.prog 22 5 3 5 := ⟨by kernel_rfl⟩
instance : FldT Tryz.prog 22 6 3 6 := ⟨by kernel_rfl⟩
instance : FldT Tryz.prog 23 0 3 0 := ⟨by kernel_rfl⟩
instance : FldT Tryz.prog 23 1 3 1 := ⟨by kernel_rfl⟩
instance : FldT Tryz.prog 23 2 3 2 := ⟨by kernel_rfl⟩
instance : FldT Tryz.prog 23 3 3 3 := ⟨by kernel_rfl⟩
instance : FldT Tryz.prog 23 4 4 4 := ⟨by kernel_rfl⟩
instance : FldT Tryz.prog 23 5 3 5 := ⟨by kernel_rfl⟩
instance : FldT Tryz.prog 23 6 3 6 := ⟨by kernel_rfl⟩
instance : FldT Tryz.prog 25 0 3 0 := ⟨by kernel_rfl⟩
instance : FldT Tryz.prog 25 1 24 1 := ⟨by kernel_rfl⟩
instance : FldT Tryz.prog 26 0 3 0 := ⟨by kernel_rfl⟩
instance : FldT Tryz.prog 26 1 24 1 := ⟨by kernel_rfl⟩
instance : FldT Tryz.prog 29 0 23 0 := ⟨by kernel_rfl⟩
instance : FldT Tryz.prog 29 1 26 7 := ⟨by kernel_rfl⟩
instance : FldT Tryz.prog 29 2 27 9 := ⟨by kernel_rfl⟩
instance : FldT Tryz.prog 29 3 28 10 := ⟨by kernel_rfl⟩
instance : FldT Tryz.prog 29 4 3 11 := ⟨by kernel_rfl⟩
instance : FldT Tryz.prog 30 0 23 0 := ⟨by kernel_rfl⟩
instance : FldT Tryz.prog 30 1 26 7 := ⟨by kernel_rfl⟩
instance : FldT Tryz.prog 30 2 27 9 := ⟨by kernel_rfl⟩
instance : FldT Tryz.prog 30 3 28 10 := ⟨by kernel_rfl⟩
instance : FldT Tryz.prog 30 4 3 11 := ⟨by kernel_rfl⟩
instance : FldT Tryz.prog 33 0 3 0 := ⟨by kernel_rfl⟩
instance : FldT Tryz.prog 33 1 3 1 := ⟨by kernel_rfl⟩
instance : FldT Tryz.prog 33 2 3 2 := ⟨by kernel_rfl⟩
instance : FldT Tryz.prog 33 3 3 3 := ⟨by kernel_rfl⟩
instance : FldT Tryz.prog 33 4 4 4 := ⟨by kernel_rfl⟩
instance : FldT Tryz.prog 33 5 3 5 := ⟨by kernel_rfl⟩
instance : FldT Tryz.prog 33 6 3 6 := ⟨by kernel_rfl⟩
instance : FldT Tryz.prog 34 0 3 0 := ⟨by kernel_rfl⟩
instance : FldT Tryz.prog 34 1 24 1 := ⟨by kernel_rfl⟩
instance : FldT Tryz.prog 37 0 33 0 := ⟨by kernel_rfl⟩
instance : FldT Tryz.prog 37 1 34 7 := ⟨by kernel_rfl⟩
instance : FldT Tryz.prog 37 2 35 9 := ⟨by kernel_rfl⟩
instance : FldT Tryz.prog 37 3 36 10 := ⟨by kernel_rfl⟩
instance : FldT Tryz.prog 37 4 3 11 := ⟨by kernel_rfl⟩
instance : FldT Tryz.prog 38 0 33 0 := ⟨by kernel_rfl⟩
instance : FldT Tryz.prog 38 1 34 7 := ⟨by kernel_rfl⟩
instance : FldT Tryz.prog 38 2 35 9 := ⟨by kernel_rfl⟩
instance : FldT Tryz.prog 38 3 36 10 := ⟨by kernel_rfl⟩
instance : FldT Tryz.prog 38 4 3 11 := ⟨by kernel_rfl⟩
instance : FldT Tryz.prog 52 0 50 0 := ⟨by kernel_rfl⟩
instance : FldT Tryz.prog 52 1 51 1 := ⟨by kernel_rfl⟩
instance : FldT Tryz.prog 53 0 50 0 := ⟨by kernel_rfl⟩
instance : FldT Tryz.prog 53 1 51 1 := ⟨by kernel_rfl⟩
instance : FldT Tryz.prog 56 0 3 0 := ⟨by kernel_rfl⟩
instance : FldT Tryz.prog 56 1 3 1 := ⟨by kernel_rfl⟩
instance : FldT Tryz.prog 56 2 3 2 := ⟨by kernel_rfl⟩
instance : FldT Tryz.prog 57 0 3 0 := ⟨by kernel_rfl⟩
instance : FldT Tryz.prog 57 1 3 1 := ⟨by kernel_rfl⟩
instance : FldT Tryz.prog 57 2 3 2 := ⟨by kernel_rfl⟩
instance : FldT Tryz.prog 59 0 58 0 := ⟨by kernel_rfl⟩
instance : FldT Tryz.prog 60 0 58 0 := ⟨by kernel_rfl⟩
instance : FldT Tryz.prog 61 0 60 0 := ⟨by kernel_rfl⟩
instance : FldT Tryz.prog 61 1 60 12 := ⟨by kernel_rfl⟩
instance : FldT Tryz.prog 61 2 3 24 := ⟨by kernel_rfl⟩
instance : FldT Tryz.prog 61 3 3 25 := ⟨by kernel_rfl⟩
instance : FldT Tryz.prog 62 0 60 0 := ⟨by kernel_rfl⟩
instance : FldT Tryz.prog 62 1 60 12 := ⟨by kernel_rfl⟩
instance : FldT Tryz.prog 62 2 3 24 := ⟨by kernel_rfl⟩
instance : FldT Tryz.prog 62 3 3 25 := ⟨by kernel_rfl⟩
instance : FldT Tryz.prog 78 0 76 0 := ⟨by kernel_rfl⟩
instance : FldT Tryz.prog 78 1 77 1 := ⟨by kernel_rfl⟩
instance : FldT Tryz.prog 79 0 76 0 := ⟨by kernel_rfl⟩
instance : FldT Tryz.prog 79 1 77 1 := ⟨by kernel_rfl⟩
instance : FldT Tryz.prog 89 0 9 0 := ⟨by kernel_rfl⟩
instance : FldT Tryz.prog 89 1 3 1 := ⟨by kernel_rfl⟩
instance : FldT Tryz.prog 90 0 9 0 := ⟨by kernel_rfl⟩
instance : FldT Tryz.prog 90 1 3 1 := ⟨by kernel_rfl⟩
instance : FldT Tryz.prog 97 0 3 0 := ⟨by kernel_rfl⟩
instance : FldT Tryz.prog 97 1 3 1 := ⟨by kernel_rfl⟩
instance : FldT Tryz.prog 97 2 3 2 := ⟨by kernel_rfl⟩
instance : FldT Tryz.prog 99 0 98 0 := ⟨by kernel_rfl⟩
instance : FldT Tryz.prog 100 0 98 0 := ⟨by kernel_rfl⟩
instance : FldT Tryz.prog 101 0 100 0 := ⟨by kernel_rfl⟩
instance : FldT Tryz.prog 101 1 100 12 := ⟨by kernel_rfl⟩
instance : FldT Tryz.prog 101 2 3 24 := ⟨by kernel_rfl⟩
instance : FldT Tryz.prog 101 3 3 25 := ⟨by kernel_rfl⟩
instance : FldT Tryz.prog 102 0 100 0 := ⟨by kernel_rfl⟩
instance : FldT Tryz.prog 102 1 100 12 := ⟨by kernel_rfl⟩
instance : FldT Tryz.prog 102 2 3 24 := ⟨by kernel_rfl⟩
instance : FldT Tryz.prog 102 3 3 25 := ⟨by kernel_rfl⟩
instance : FldT Tryz.prog 106 0 105 0 := ⟨by kernel_rfl⟩
instance : FldT Tryz.prog 106 1 87 1 := ⟨by kernel_rfl⟩
instance : FldT Tryz.prog 107 0 105 0 := ⟨by kernel_rfl⟩
instance : FldT Tryz.prog 107 1 87 1 := ⟨by kernel_rfl⟩
instance : FldT Tryz.prog 120 0 3 0 := ⟨by kernel_rfl⟩
instance : FldT Tryz.prog 120 1 9 1 := ⟨by kernel_rfl⟩
instance : FldT Tryz.prog 120 2 3 2 := ⟨by kernel_rfl⟩
instance : FldT Tryz.prog 120 3 24 3 := ⟨by kernel_rfl⟩
instance : FldT Tryz.prog 121 0 3 0 := ⟨by kernel_rfl⟩
instance : FldT Tryz.prog 121 1 9 1 := ⟨by kernel_rfl⟩
instance : FldT Tryz.prog 121 2 3 2 := ⟨by kernel_rfl⟩
instance : FldT Tryz.prog 121 3 24 3 := ⟨by kernel_rfl⟩
instance : FldT Tryz.prog 144 0 3 0 := ⟨by kernel_rfl⟩
instance : FldT Tryz.prog 144 1 9 1 := ⟨by kernel_rfl⟩
instance : FldT Tryz.prog 144 2 3 2 := ⟨by kernel_rfl⟩
instance : FldT Tryz.prog 144 3 24 3 := ⟨by kernel_rfl⟩
instance : FldT Tryz.prog 146 0 9 0 := ⟨by kernel_rfl⟩
instance : FldT Tryz.prog 146 1 3 1 := ⟨by kernel_rfl⟩
instance : FldT Tryz.prog 172 0 121 0 := ⟨by kernel_rfl⟩
instance : FldT Tryz.prog 173 0 121 0 := ⟨by kernel_rfl⟩
instance : FldT Tryz.prog 174 0 121 0 := ⟨by kernel_rfl⟩
instance : FldT Tryz.prog 175 0 121 0 := ⟨by kernel_rfl⟩
instance : FldT Tryz.prog 186 0 5 0 := ⟨by kernel_rfl⟩
instance : FldT Tryz.prog 186 1 5 1 := ⟨by kernel_rfl⟩
instance : FldT Tryz.prog 187 0 5 0 := ⟨by kernel_rfl⟩
instance : FldT Tryz.prog 187 1 5 1 := ⟨by kernel_rfl⟩
instance : FldT Tryz.prog 209 0 17 0 := ⟨by kernel_rfl⟩
instance : FldT Tryz.prog 209 1 17 1 := ⟨by kernel_rfl⟩
instance : FldT Tryz.prog 209 2 17 2 := ⟨by kernel_rfl⟩
instance : FldT Tryz.prog 209 3 9 3 := ⟨by kernel_rfl⟩
instance : FldT Tryz.prog 210 0 17 0 := ⟨by kernel_rfl⟩
instance : FldT Tryz.prog 210 1 17 1 := ⟨by kernel_rfl⟩
instance : FldT Tryz.prog 210 2 17 2 := ⟨by kernel_rfl⟩
instance : FldT Tryz.prog 210 3 9 3 := ⟨by kernel_rfl⟩
instance : FldT Tryz.prog 212 0 211 0 := ⟨by kernel_rfl⟩
instance : FldT Tryz.prog 213 0 211 0 := ⟨by kernel_rfl⟩
instance : FldT Tryz.prog 219 0 12 0 := ⟨by kernel_rfl⟩
instance : FldT Tryz.prog 219 1 12 1 := ⟨by kernel_rfl⟩
instance : FldT Tryz.prog 219 2 198 2 := ⟨by kernel_rfl⟩
instance : FldT Tryz.prog 219 3 214 3 := ⟨by kernel_rfl⟩
instance : FldT Tryz.prog 219 4 5 4 := ⟨by kernel_rfl⟩
instance : FldT Tryz.prog 219 5 5 5 := ⟨by kernel_rfl⟩
instance : FldT Tryz.prog 219 6 215 6 := ⟨by kernel_rfl⟩
instance : FldT Tryz.prog 219 7 216 7 := ⟨by kernel_rfl⟩
instance : FldT Tryz.prog 219 8 139 8 := ⟨by kernel_rfl⟩
instance : FldT Tryz.prog 219 9 217 9 := ⟨by kernel_rfl⟩
instance : FldT Tryz.prog 219 10 218 10 := ⟨by kernel_rfl⟩
instance : FldT Tryz.prog 220 0 12 0 := ⟨by kernel_rfl⟩
instance : FldT Tryz.prog 220 1 12 1 := ⟨by kernel_rfl⟩
instance : FldT Tryz.prog 220 2 198 2 := ⟨by kernel_rfl⟩
instance : FldT Tryz.prog 220 3 214 3 := ⟨by kernel_rfl⟩
instance : FldT Tryz.prog 220 4 5 4 := ⟨by kernel_rfl⟩
instance : FldT Tryz.prog 220 5 5 5 := ⟨by kernel_rfl⟩
instance : FldT Tryz.prog 220 6 215 6 := ⟨by kernel_rfl⟩
instance : FldT Tryz.prog 220 7 216 7 := ⟨by kernel_rfl⟩
instance : FldT Tryz.prog 220 8 139 8 := ⟨by kernel_rfl⟩
instance : FldT Tryz.prog 220 9 217 9 := ⟨by kernel_rfl⟩
instance : FldT Tryz.prog 220 10 218 10 := ⟨by kernel_rfl⟩
end Go.Proofs.YtgmonjghbjaadaaGreatDoor.St
end
