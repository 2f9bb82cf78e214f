/-
  Parts of strings.
-/
import Derived.Test.YtgmonjghbjaadaaGreatDoorJ4
import Derived.Laws.Slices
import Derived.Laws.DeepStrings4
set_option linter.unusedSimpArgs false
set_option linter.unusedVariables false
namespace Go.Proofs.YtgmonjghbjaadaaGreatDoor.St
open Go.RowKit
section
variable {P : Program} {w : World} {E : Env} {Φ : Value → World → Prop} {ty t : TypeId} {x lo hi : Operand} {s : ByteArray}
theorem does_strLoHi {j j' : IntKind} (i m : Nat) (hu : P.underlying t = some .string) (hx : ev E x = some (.string s)) (hy : ev E lo = some (.int j i)) (hz : ev E hi = some (.int j' m)) (h0 : i ≤ m ∧ m ≤ s.size) (k : Φ (.string (s.extract i m)) w) : Does P (.slice t x (some lo) (some hi) none) ty E w Φ := by
  refine ⟨fun ρ hρ => ?_⟩
  have hr := run_slice_string_if (P := P) w t s j j' (i : Int) (m : Int) hu
  have : (execOp ρ (mk (.slice t x (some lo) (some hi) none) ty)).run P w = .ok (.value (.string (s.extract i m))) w := by
    simp only [execOp, mk, hρ _ _ hx, hρ _ _ hy, hρ _ _ hz, Sem.run_bind, Option.map_none, Option.map_some, run_sliceAt_string (P := P) w t _ _ _ _ hu, hr, Result.andThen_ok]
    rw [if_pos (by omega), if_pos (by omega)]
    rfl
  rw [this]; exact k
theorem does_strLoHiN {j j' : IntKind} {a b : Int} (i m : Nat) (hu : P.underlying t = some .string) (hx : ev E x = some (.string s)) (hy : ev E lo = some (.int j a)) (hz : ev E hi = some (.int j' b)) (ha : a = (i : Int)) (hb : b = (m : Int)) (h0 : i ≤ m ∧ m ≤ s.size) (k : Φ (.string (s.extract i m)) w) : Does P (.slice t x (some lo) (some hi) none) ty E w Φ := by
  subst ha hb
  exact does_strLoHi i m hu hx hy hz h0 k
end
end Go.Proofs.YtgmonjghbjaadaaGreatDoor.St
