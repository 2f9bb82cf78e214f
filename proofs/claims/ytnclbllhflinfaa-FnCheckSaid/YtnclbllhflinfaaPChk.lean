/-
  What it means that a program passes all checks.
-/
import Derived.Test.YtnclbllhflinfaaLExp
set_option linter.unusedSimpArgs false
set_option linter.unusedVariables false
namespace Go.Proofs.Ytnclbllhflinfaa.St
open Go.RowKit
/-- a name is assigned ahead of n -/
def bef (ys : List TAssignment) (s : ByteArray) (n : Int) : Prop := ∃ j : Nat, (j : Int) < n ∧ (ys[j]?.map Prod.fst) = some s
theorem lastA_lt (ys : List TAssignment) (s : ByteArray) (n : Int) : ∀ k, 0 ≤ lastA ys s n k ↔ ∃ j : Nat, j < k ∧ (j : Int) < n ∧ (ys[j]?.map Prod.fst) = some s
  | 0 => by simp [lastA]
  | k + 1 => by
    have ih := lastA_lt ys s n k
    simp only [lastA]
    split
    · rename_i h
      exact ⟨fun _ => ⟨k, by omega, h.1, h.2⟩, fun _ => by omega⟩
    · rename_i h
      rw [ih]
      constructor
      · rintro ⟨j, h1, h2, h3⟩
        exact ⟨j, by omega, h2, h3⟩
      · rintro ⟨j, h1, h2, h3⟩
        refine ⟨j, ?_, h2, h3⟩
        by_cases hjk : j = k
        · subst hjk
          exact absurd ⟨h2, h3⟩ h
        · omega
theorem map_some_lt {ys : List TAssignment} {j : Nat} {s : ByteArray} (h : (ys[j]?.map Prod.fst) = some s) : j < ys.length := by
  cases hy : ys[j]? with
  | none => rw [hy] at h; cases h
  | some y => exact (List.getElem?_eq_some_iff.1 hy).1
theorem lastA_bef (ys : List TAssignment) (s : ByteArray) (n : Int) : 0 ≤ lastA ys s n ys.length ↔ bef ys s n := by
  rw [lastA_lt]
  exact ⟨fun ⟨j, _, h2, h3⟩ => ⟨j, h2, h3⟩, fun ⟨j, h2, h3⟩ => ⟨j, map_some_lt h3, h2, h3⟩⟩
theorem firstA_none {ys : List TAssignment} {s : ByteArray} : ∀ {k : Nat}, firstA ys k s = none → ∀ j, j < k → ¬ (ys[j]?.map Prod.fst) = some s
  | 0, _, j, hj => absurd hj (Nat.not_lt_zero _)
  | k + 1, h, j, hj => by
    simp only [firstA] at h
    cases hf : firstA ys k s with
    | some u => rw [hf] at h; cases h
    | none =>
      rw [hf] at h
      simp only at h
      split at h
      · cases h
      · by_cases hjk : j = k
        · subst hjk; assumption
        · exact firstA_none hf j (by omega)
theorem firstA_least {ys : List TAssignment} {s : ByteArray} : ∀ {k : Nat} {v : Int}, firstA ys k s = some v → ∀ j : Nat, j < k → (j : Int) < v → ¬ (ys[j]?.map Prod.fst) = some s
  | 0, v, h, j, hj, _ => absurd hj (Nat.not_lt_zero _)
  | k + 1, v, h, j, hj, hjv => by
    simp only [firstA] at h
    cases hf : firstA ys k s with
    | some u =>
      rw [hf] at h
      cases h
      obtain ⟨j', h1, h2, h3⟩ := firstA_bd hf
      exact firstA_least hf j (by omega) hjv
    | none =>
      rw [hf] at h
      simp only at h
      split at h
      · cases h
        exact firstA_none hf j (by omega)
      · cases h
theorem firstA_lt (ys : List TAssignment) (s : ByteArray) (n : Int) : (∃ v, firstA ys ys.length s = some v ∧ v < n) ↔ bef ys s n := by
  constructor
  · rintro ⟨v, h, hv⟩
    obtain ⟨j, rfl, h2, h3⟩ := firstA_bd h
    exact ⟨j, hv, h3⟩
  · rintro ⟨j, h1, h2⟩
    have hj := map_some_lt h2
    cases hf : firstA ys ys.length s with
    | none => exact absurd h2 (firstA_none hf j hj)
    | some v =>
      refine ⟨v, rfl, ?_⟩
      by_cases hlt : (j : Int) < v
      · exact absurd h2 (firstA_least hf j hj hlt)
      · omega
theorem knV_iff (ys : List TAssignment) (s : ByteArray) (n : Int) : knV (firstA ys ys.length) s n ↔ isVar s ∨ bef ys s n := by
  unfold knV
  rw [firstA_lt]
abbrev sColor : ByteArray := ⟨#[99, 111, 108, 111, 114]⟩
def nodeOk (ns : List PNode) (ys : List TAssignment) (i : Nat) (x : PNode) : Prop := (x.op = 2 → isVar x.name ∨ ∃ k : Nat, Own1 ns ys i k ∧ bef ys x.name k) ∧ (x.op = 8 → 0 ≤ ar x.name)
def arityOk (x : PNode) : Prop := x.op = 8 → (x.args.length : Int) = ar x.name
def asgOk (ys : List TAssignment) (k : Nat) (y : TAssignment) : Prop := ¬ isVar y.1 ∧ ¬ bef ys y.1 k
/-- the program passes all checks -/
structure okP (ns : List PNode) (ys : List TAssignment) : Prop where
  val : vProg ns ys
  names : ∀ (i : Nat) (x : PNode), ns[i]? = some x → nodeOk ns ys i x
  arity : ∀ (i : Nat) (x : PNode), ns[i]? = some x → arityOk x
  asg : ∀ (k : Nat) (y : TAssignment), ys[k]? = some y → asgOk ys k y
  color : bef ys sColor ys.length
/-- what a check answers -/
def ChkR (ns : List PNode) (ys : List TAssignment) (v : Value) : Prop := ∃ c k, v = .tuple #[I c, I k] ∧ (c = 0 ↔ okP ns ys) ∧ (c = 0 → k = 0)
theorem ChkR.no {ns : List PNode} {ys : List TAssignment} {c k : Int} (hc : c ≠ 0) (h : ¬ okP ns ys) : ChkR ns ys (.tuple #[I c, I k]) := ⟨c, k, rfl, ⟨fun e => absurd e hc, fun e => absurd e h⟩, fun e => absurd e hc⟩
theorem ChkR.yes {ns : List PNode} {ys : List TAssignment} (h : okP ns ys) : ChkR ns ys (.tuple #[I 0, I 0]) := ⟨0, 0, rfl, ⟨fun _ => h, fun _ => rfl⟩, fun _ => rfl⟩
theorem MapH.up {W0 w : World} {X : List Nat} {B : Heap} {L : List Own} {b : Nat} {f : ByteArray → Option Int} (h : MapH B b f) (hm : Mem W0 X B L w) : MapH (fun b => w.heap[b]?) b f := by
  obtain ⟨o, h1, h2⟩ := h
  exact ⟨o, hm.base _ _ h1, h2⟩
end Go.Proofs.Ytnclbllhflinfaa.St
