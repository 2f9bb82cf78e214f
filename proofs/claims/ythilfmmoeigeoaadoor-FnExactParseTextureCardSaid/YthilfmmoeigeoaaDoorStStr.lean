/-
  Comparing strings.
-/
import Derived.Test.YthilfmmoeigeoaaDoorEqs
set_option linter.unusedSimpArgs false
set_option linter.unusedVariables false
namespace Go.Proofs.YthilfmmoeigeoaaDoor.St
open Go.RowKit
section
variable {P : Program} {w : World} {E : Env} {Φ : Value → World → Prop} {ty t t' : TypeId} {x y : Operand}
theorem strB (m n : ByteArray) : (m.toList == n.toList) = dB (m = n) := by
  rw [dB_eq, ByteArray.toList_eq, ByteArray.toList_eq]
  have : m.data.toList = n.data.toList ↔ m = n := ⟨fun h => ByteArray.ext (Array.toList_inj.mp h), fun h => by rw [h]⟩
  by_cases h : m = n
  · simp [h]
  · have h' : ¬ m.data.toList = n.data.toList := fun e => h (this.1 e)
    rw [decide_eq_false h]
    exact beq_eq_false_iff_ne.2 h'
theorem does_eqlStr [StrT P t] {m n : ByteArray} (hx : ev E x = some (.string m)) (hy : ev E y = some (.string n)) (k : Φ (.bool (dB (m = n))) w) :
    Does P (.binOp .eql t x y t') ty E w Φ :=
  does_bin hx hy rfl (by rw [binOp_string_eql, strB]; rfl) k
theorem does_neqStr [StrT P t] {m n : ByteArray} (hx : ev E x = some (.string m)) (hy : ev E y = some (.string n)) (k : Φ (.bool (dB (¬ m = n))) w) :
    Does P (.binOp .neq t x y t') ty E w Φ :=
  does_bin hx hy rfl (by rw [binOp_string_neq, strB, dB_not]; rfl) k
theorem does_eqlStrS [hu : StrT P t] {m : ByteArray} (hx : ev E x = some (.string m)) (hy : ev E y = some (.string m)) (k : Φ (.bool true) w) :
    Does P (.binOp .eql t x y t') ty E w Φ := does_eqlStr hx hy (by rw [bT rfl]; exact k)
theorem does_neqStrS [hu : StrT P t] {m : ByteArray} (hx : ev E x = some (.string m)) (hy : ev E y = some (.string m)) (k : Φ (.bool false) w) :
    Does P (.binOp .neq t x y t') ty E w Φ := does_neqStr hx hy (by rw [bF (fun h => h rfl)]; exact k)
end
end Go.Proofs.YthilfmmoeigeoaaDoor.St
