/-
  Contracts for slices of integers.
-/
import Derived.Test.YtedgbmefajnjeaaScal
import Derived.Test.YtedgbmefajnjeaaStSlc
set_option linter.unusedSimpArgs false
set_option linter.unusedVariables false
namespace Go.Proofs.Ytedgbmefajnjeaa.St
open Go.RowKit

theorem eq_of_upto {α : Type} {xs ys : List α} (hl : xs.length = ys.length) {k : Nat} (hk : ¬ k < xs.length) (h : ∀ i, i < k → xs[i]? = ys[i]?) : xs = ys := by
  apply List.ext_getElem?
  intro i
  by_cases hi : i < k
  · exact h i hi
  · rw [List.getElem?_eq_none (by omega), List.getElem?_eq_none (by omega)]



theorem idx_in {n i j : Int} (hn : 1 ≤ n) (hi : 0 ≤ i ∧ i ≤ n - 1) (hj : 0 ≤ j ∧ j ≤ n - 1) : 0 ≤ j * n + i ∧ j * n + i < n * n := by
  have h1 : j * n ≤ (n - 1) * n := Int.mul_le_mul_of_nonneg_right hj.2 (by omega)
  have h2 : 0 ≤ j * n := Int.mul_nonneg hj.1 (by omega)
  have h3 : (n - 1) * n = n * n - n := by rw [Int.sub_mul, Int.one_mul]
  omega

end Go.Proofs.Ytedgbmefajnjeaa.St
