/-
  Contracts of the functions that compare programs, lists of programs and of surfaces.
-/
import Derived.Test.YtaiiiendfcglmaaLPgs
import Derived.Test.YtaiiiendfcglmaaLSfs
set_option linter.unusedSimpArgs false
set_option linter.unusedVariables false
namespace Go.Proofs.Ytaiiiendfcglmaa.St
open Go.RowKit
theorem PNode.eq_iff (x y : PNode) : x = y ↔ x.op = y.op ∧ x.name = y.name ∧ x.num = y.num ∧ x.args = y.args := by
  cases x
  cases y
  simp
theorem map_get_iff {α β : Type} (f : α → β) {xs ys : List α} {k : Nat} {x y : α} (hx : xs[k]? = some x) (hy : ys[k]? = some y) : (xs.map f)[k]? = (ys.map f)[k]? ↔ f x = f y := by
  rw [List.getElem?_map, List.getElem?_map, hx, hy]
  simp
theorem map_eq_get {α β : Type} (f : α → β) {xs ys : List α} {k : Nat} {x y : α} (h : xs.map f = ys.map f) (hx : xs[k]? = some x) (hy : ys[k]? = some y) : f x = f y := (map_get_iff f hx hy).1 (by rw [h])
theorem map_eq_upto {α β : Type} (f : α → β) {xs ys : List α} (hl : xs.length = ys.length) {k : Nat} (hk : ¬ k < xs.length) (h : ∀ i, i < k → (xs.map f)[i]? = (ys.map f)[i]?) : xs.map f = ys.map f :=
  eq_upto (k := k) (by simpa using hl) (by simpa using hk) h
end Go.Proofs.Ytaiiiendfcglmaa.St
