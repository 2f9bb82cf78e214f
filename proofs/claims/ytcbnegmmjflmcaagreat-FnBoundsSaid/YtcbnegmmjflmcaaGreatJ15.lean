/-
  Maps from strings to integers; values of interface types.
-/
import Derived.Test.YtcbnegmmjflmcaaGreatJ13
import Derived.MapKept
import Derived.Test.YtcbnegmmjflmcaaGreatLOws
import Derived.Test.YtcbnegmmjflmcaaGreatJ3
import Derived.Test.YtcbnegmmjflmcaaGreatJ14

section
set_option linter.unusedSimpArgs false
set_option linter.unusedVariables false
namespace Go.Proofs.YtcbnegmmjflmcaaGreat.St
open Go.RowKit
section
variable {P : Program} {E : Env} {w W0 : World} {X : List Nat} {B : Heap} {L : List Own} {Φ : Value → World → Prop} {ty t kt et : TypeId} {x y z : Operand}
/-- a block of one's own that is only read from now on -/
theorem Mem.freezeB {b : Nat} {o : Obj} (hm : Mem W0 X B (.blk b o :: L) w) : ∃ B', Heap.le B B' ∧ B' b = some o ∧ Mem W0 X B' L w := by
  have hb := hm.own _ (List.mem_cons_self ..)
  have hB0 := hm.apart _ (List.mem_cons_self ..) b rfl
  have hd := hm.drop
  have hnd := hm.nodup
  let N : Heap := fun k => if k = b then some o else none
  refine ⟨joinH B N, le_joinL B N, by simp [joinH, hB0, N], ⟨hd.os, hd.tape, hd.output, hd.size, hd.block, fun k o' h => ?_, hd.own, hd.fresh, fun x hx k hk => ?_, hd.nodup⟩⟩
  · unfold joinH at h
    split at h
    · rename_i o2 ho2
      cases h
      exact hd.base k _ ho2
    · simp only [N] at h
      split at h
      · subst_vars; cases h; exact hb
      · cases h
  · have hne : k ≠ b := fun e => by
      subst e
      simp only [List.filterMap_cons, Own.dom] at hnd
      exact (List.nodup_cons.1 hnd).1 (List.mem_filterMap.2 ⟨x, hx, hk⟩)
    simp [joinH, hd.apart x hx k hk, N, hne]
end
end Go.Proofs.YtcbnegmmjflmcaaGreat.St
end

section
/-
  Rows that are only read, told by a relation; owners as such rows.
-/
set_option linter.unusedSimpArgs false
set_option linter.unusedVariables false
namespace Go.Proofs.YtcbnegmmjflmcaaGreat.St
open Go.RowKit
structure RowR {α : Type} (enc : α → List Value) (sz : Nat) (Q : List α → Prop) (v : Value) (N : Heap) : Prop where
  out : ∃ p c xs, v = .slice p xs.length c ∧ xs.length ≤ c ∧ c ≤ maxLen ∧ Sl N p enc sz xs ∧ Q xs
end Go.Proofs.YtcbnegmmjflmcaaGreat.St
end

section
/-
  What it means that a program passes all checks: the notions.
-/
set_option linter.unusedSimpArgs false
set_option linter.unusedVariables false
namespace Go.Proofs.YtcbnegmmjflmcaaGreat.St
open Go.RowKit
/-- a name is assigned ahead of n -/
def bef (ys : List TAssignment) (s : ByteArray) (n : Int) : Prop := ∃ j : Nat, (j : Int) < n ∧ (ys[j]?.map Prod.fst) = some s
theorem lastA_lt (ys : List TAssignment) (s : ByteArray) (n : Int) : ∀ k, 0 ≤ lastA ys s n k ↔ ∃ j : Nat, j < k ∧ (j : Int) < n ∧ (ys[j]?.map Prod.fst) = some s
  | 0 => by simp [lastA]
  | k + 1 => by
    have ih := lastA_lt ys s n k
    simp only [lastA]
    split
    · rename_i h
      exact ⟨fun _ => ⟨k, by omega, h.1, h.2⟩, fun _ => by omega⟩
    · rename_i h
      rw [ih]
      constructor
      · rintro ⟨j, h1, h2, h3⟩
        exact ⟨j, by omega, h2, h3⟩
      · rintro ⟨j, h1, h2, h3⟩
        refine ⟨j, ?_, h2, h3⟩
        by_cases hjk : j = k
        · subst hjk
          exact absurd ⟨h2, h3⟩ h
        · omega
theorem map_some_lt {ys : List TAssignment} {j : Nat} {s : ByteArray} (h : (ys[j]?.map Prod.fst) = some s) : j < ys.length := by
  cases hy : ys[j]? with
  | none => rw [hy] at h; cases h
  | some y => exact (List.getElem?_eq_some_iff.1 hy).1
theorem lastA_bef (ys : List TAssignment) (s : ByteArray) (n : Int) : 0 ≤ lastA ys s n ys.length ↔ bef ys s n := by
  rw [lastA_lt]
  exact ⟨fun ⟨j, _, h2, h3⟩ => ⟨j, h2, h3⟩, fun ⟨j, h2, h3⟩ => ⟨j, map_some_lt h3, h2, h3⟩⟩
abbrev sColor : ByteArray := ⟨#[99, 111, 108, 111, 114]⟩
def nodeOk (ns : List PNode) (ys : List TAssignment) (i : Nat) (x : PNode) : Prop := (x.op = 2 → isVar x.name ∨ ∃ k : Nat, Own1 ns ys i k ∧ bef ys x.name k) ∧ (x.op = 8 → 0 ≤ ar x.name)
def arityOk (x : PNode) : Prop := x.op = 8 → (x.args.length : Int) = ar x.name
def asgOk (ys : List TAssignment) (k : Nat) (y : TAssignment) : Prop := ¬ isVar y.1 ∧ ¬ bef ys y.1 k
/-- the program passes all checks -/
structure okP (ns : List PNode) (ys : List TAssignment) : Prop where
  val : vProg ns ys
  names : ∀ (i : Nat) (x : PNode), ns[i]? = some x → nodeOk ns ys i x
  arity : ∀ (i : Nat) (x : PNode), ns[i]? = some x → arityOk x
  asg : ∀ (k : Nat) (y : TAssignment), ys[k]? = some y → asgOk ys k y
  color : bef ys sColor ys.length
/-- what a check answers -/
def ChkR (ns : List PNode) (ys : List TAssignment) (v : Value) : Prop := ∃ c k, v = .tuple #[I c, I k] ∧ (c = 0 ↔ okP ns ys) ∧ (c = 0 → k = 0)
theorem ChkR.no {ns : List PNode} {ys : List TAssignment} {c k : Int} (hc : c ≠ 0) (h : ¬ okP ns ys) : ChkR ns ys (.tuple #[I c, I k]) := ⟨c, k, rfl, ⟨fun e => absurd e hc, fun e => absurd e h⟩, fun e => absurd e hc⟩
theorem ChkR.yes {ns : List PNode} {ys : List TAssignment} (h : okP ns ys) : ChkR ns ys (.tuple #[I 0, I 0]) := ⟨0, 0, rfl, ⟨fun _ => h, fun _ => rfl⟩, fun _ => rfl⟩
end Go.Proofs.YtcbnegmmjflmcaaGreat.St
end
