/-
  Slots of a block whose cells are a list's images; contracts whose truth value is decided; counts.
-/
import Derived.Test.YtnclbllhflinfaaStOwn
set_option linter.unusedSimpArgs false
set_option linter.unusedVariables false
namespace Go.Proofs.Ytnclbllhflinfaa.St
open Go.RowKit
section
variable {P : Program} {E : Env} {w W0 : World} {X : List Nat} {B : Heap} {L : List Own} {Φ : Value → World → Prop} {ty t : TypeId} {x y : Operand}
theorem Fun.yes {f : FuncId} {vs : List Value} {p : Prop} (h : Fun P f vs (.bool (dB p))) (hp : p) : Fun P f vs (.bool true) := by rwa [bT hp] at h
theorem Fun.no {f : FuncId} {vs : List Value} {p : Prop} (h : Fun P f vs (.bool (dB p))) (hp : ¬ p) : Fun P f vs (.bool false) := by rwa [bF hp] at h
theorem FunP.yes {f : FuncId} {vs : List Value} {pre : Heap → Prop} {p : Prop} (h : FunP P f vs pre (.bool (dB p))) (hp : p) : FunP P f vs pre (.bool true) := by rwa [bT hp] at h
theorem FunP.no {f : FuncId} {vs : List Value} {pre : Heap → Prop} {p : Prop} (h : FunP P f vs pre (.bool (dB p))) (hp : ¬ p) : FunP P f vs pre (.bool false) := by rwa [bF hp] at h
theorem does_loadArr (i : Nat) {α : Type} {f : α → Value} {us : List α} {u : α} {b off o : Nat} {T : TypeId} {fz : Nat × Nat} [Scalar P t] (hm : Mem W0 X B L w) (hx : ev E x = some (.pointer (some ⟨b, off, none⟩))) (hL : L[i]? = some (.blk b (.cells (us.map f).toArray T fz)))
    (ho : off = o) (hu : us[o]? = some u) (k : Φ (f u) w) : Does P (.load t x) ty E w Φ := by
  subst ho
  exact does_loadO i hm hx hL (by rw [List.getElem?_map, hu]; rfl) k
theorem splice_set {α : Type} (f : α → Value) (us : List α) (o : Nat) (u : α) : splice (us.map f) o [f u] = (us.set o u).map f := by
  rw [splice, splice, List.map_set]
theorem does_storeArr (i : Nat) {α : Type} {f : α → Value} {us : List α} {u : α} {b off o s b_ : Nat} {z v : Value} {T : TypeId} [Sz P t z s b_] (hm : Mem W0 X B L w) (hx : ev E x = some (.pointer (some ⟨b, off, none⟩))) (hy : ev E y = some v) (hvu : v = f u)
    (hL : L[i]? = some (.blk b (.cells (us.map f).toArray T (0, 0)))) (ho : off = o) (hlt : o < us.length) (hv : (f u).cells = [f u].toArray) (h1 : oneCells [f u] = true) (hs : Nat.beq 1 s = true)
    (k : ∀ w', Mem W0 X B (L.set i (.blk b (.cells ((us.set o u).map f).toArray T (0, 0)))) w' → Φ undef w') : Does P (.store t x y) ty E w Φ := by
  subst ho
  subst hvu
  refine does_storeO i hm hx hy hL hv h1 hs (Nat.ble_eq_true_of_le (by simp; omega)) fun w' hm' => k w' ?_
  rwa [splice_set] at hm'
end
def cnt (refs : List Int) (m : Nat) : Int := (refs.count (m : Int) : Nat)
def cntL (n : Nat) (refs : List Int) : List Int := (List.range n).map (cnt refs)
theorem cntL_len (n : Nat) (refs : List Int) : (cntL n refs).length = n := by simp [cntL]
theorem cntL_get {n m : Nat} (refs : List Int) (h : m < n) : (cntL n refs)[m]? = some (cnt refs m) := by simp [cntL, h]
theorem cnt_bd (refs : List Int) (m : Nat) : 0 ≤ cnt refs m ∧ cnt refs m ≤ refs.length := by
  have := List.count_le_length (a := (m : Int)) (l := refs)
  unfold cnt
  omega
theorem cntL_snoc {n j : Nat} {a : Int} (refs : List Int) (ha : a = j) (hj : j < n) : (cntL n refs).set j (cnt refs j + 1) = cntL n (refs ++ [a]) := by
  subst ha
  apply List.ext_getElem?
  intro i
  by_cases hij : j = i
  · subst hij
    rw [List.getElem?_set_self (by rw [cntL_len]; exact hj), cntL_get _ hj]
    simp [cnt]
  · rw [List.getElem?_set_ne hij]
    by_cases hi : i < n
    · rw [cntL_get _ hi, cntL_get _ hi]
      have : ((j : Int) == (i : Int)) = false := by simp; omega
      simp [cnt, List.count_cons, this]
    · rw [List.getElem?_eq_none (by rw [cntL_len]; omega), List.getElem?_eq_none (by rw [cntL_len]; omega)]
theorem cntL_nil (n : Nat) : cntL n [] = List.replicate n 0 := by
  apply List.ext_getElem?
  intro i
  by_cases hi : i < n
  · simp [cntL, hi, cnt]
  · simp [cntL, hi]
theorem rep_cnt (n : Nat) : rep n [Value.int .i64 0] = (cntL n []).map (Value.int .i64) := by
  rw [cntL_nil]
  simp [rep, List.flatten_replicate_singleton]
end Go.Proofs.Ytnclbllhflinfaa.St
