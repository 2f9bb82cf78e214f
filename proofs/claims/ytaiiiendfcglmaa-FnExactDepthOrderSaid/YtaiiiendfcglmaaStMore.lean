/-
  Fields of values that are structs.
-/
import Derived.Test.YtaiiiendfcglmaaEqs
import Derived.Test.YtaiiiendfcglmaaStOwn
set_option linter.unusedSimpArgs false
set_option linter.unusedVariables false
namespace Go.Proofs.Ytaiiiendfcglmaa.St
open Go.RowKit
def fldTB (P : Program) (t : TypeId) (k ft off : Nat) : Bool :=
  match P.underlying t with
  | some (.struct fs) => match fs[k]? with
    | some f => f.type == ft && f.offset == off
    | none => false
  | _ => false
class FldT (P : Program) (t : TypeId) (k : Nat) (ft off : outParam Nat) : Prop where
  out : fldTB P t k ft off = true
section
variable {P : Program} {E : Env} {w : World} {Φ : Value → World → Prop} {ty t : TypeId} {x : Operand}
theorem fldT_parts {k ft off : Nat} [h : FldT P t k ft off] : ∃ fs f, P.underlying t = some (.struct fs) ∧ fs[k]? = some f ∧ f.type = ft ∧ f.offset = off := by
  have := h.out
  unfold fldTB at this
  split at this
  · rename_i fs hfs
    split at this
    · rename_i f hf
      simp only [Bool.and_eq_true, beq_iff_eq] at this
      exact ⟨fs, f, hfs, hf, this.1, this.2⟩
    · cases this
  · cases this
theorem does_fieldV1 {n ft off : Nat} {cs : List Value} {u : Value} [FldT P t n ft off] [Scalar P ft] (hx : ev E x = some (.agg cs.toArray)) (hu : cs[off]? = some u) (k : Φ u w) : Does P (.field t x n) ty E w Φ := by
  obtain ⟨fs, f, h1, h2, h3, h4⟩ := fldT_parts (P := P) (t := t) (k := n) (ft := ft) (off := off)
  subst h3 h4
  refine does_fieldV (off := 0) hx (fun w => ?_) k
  simp only [Instr.field, Sem.run_bind, run_underlying h1, Result.andThen_ok, h2]
  simp [part, run_isAggF (P := P) (t := f.type), asAgg, hu]
theorem does_fieldVA {n ft off s : Nat} {cs : List Value} [FldT P t n ft off] [Aggr P ft s] (hx : ev E x = some (.agg cs.toArray)) (k : Φ (.agg ((cs.drop off).take s).toArray) w) : Does P (.field t x n) ty E w Φ := by
  obtain ⟨fs, f, h1, h2, h3, h4⟩ := fldT_parts (P := P) (t := t) (k := n) (ft := ft) (off := off)
  subst h3 h4
  refine does_fieldV (off := 0) hx (fun w => ?_) k
  simp only [Instr.field, Sem.run_bind, run_underlying h1, Result.andThen_ok, h2]
  simp [part, asAgg, run_isAggT (P := P) (t := f.type), run_aggSize (P := P) (t := f.type), List.extract_eq_take_drop]
end
instance : FldT Try.prog 7 0 2 0 := ⟨by kernel_rfl⟩
instance : FldT Try.prog 7 1 3 1 := ⟨by kernel_rfl⟩
instance : FldT Try.prog 7 2 4 2 := ⟨by kernel_rfl⟩
instance : FldT Try.prog 7 3 6 3 := ⟨by kernel_rfl⟩
instance : FldT Try.prog 8 0 2 0 := ⟨by kernel_rfl⟩
instance : FldT Try.prog 8 1 3 1 := ⟨by kernel_rfl⟩
instance : FldT Try.prog 8 2 4 2 := ⟨by kernel_rfl⟩
instance : FldT Try.prog 8 3 6 3 := ⟨by kernel_rfl⟩
instance : FldT Try.prog 13 0 9 0 := ⟨by kernel_rfl⟩
instance : FldT Try.prog 13 1 12 1 := ⟨by kernel_rfl⟩
instance : FldT Try.prog 14 0 9 0 := ⟨by kernel_rfl⟩
instance : FldT Try.prog 14 1 12 1 := ⟨by kernel_rfl⟩
instance : FldT Try.prog 18 0 17 0 := ⟨by kernel_rfl⟩
instance : FldT Try.prog 19 0 17 0 := ⟨by kernel_rfl⟩
instance : FldT Try.prog 22 0 3 0 := ⟨by kernel_rfl⟩
instance : FldT Try.prog 22 1 3 1 := ⟨by kernel_rfl⟩
instance : FldT Try.prog 22 2 3 2 := ⟨by kernel_rfl⟩
instance : FldT Try.prog 22 3 3 3 := ⟨by kernel_rfl⟩
instance : FldT Try.prog 22 4 4 4 := ⟨by kernel_rfl⟩
instance : FldT Try.prog 22 5 3 5 := ⟨by kernel_rfl⟩
instance : FldT Try.prog 22 6 3 6 := ⟨by kernel_rfl⟩
instance : FldT Try.prog 23 0 3 0 := ⟨by kernel_rfl⟩
instance : FldT Try.prog 23 1 3 1 := ⟨by kernel_rfl⟩
instance : FldT Try.prog 23 2 3 2 := ⟨by kernel_rfl⟩
instance : FldT Try.prog 23 3 3 3 := ⟨by kernel_rfl⟩
instance : FldT Try.prog 23 4 4 4 := ⟨by kernel_rfl⟩
instance : FldT Try.prog 23 5 3 5 := ⟨by kernel_rfl⟩
instance : FldT Try.prog 23 6 3 6 := ⟨by kernel_rfl⟩
instance : FldT Try.prog 25 0 3 0 := ⟨by kernel_rfl⟩
instance : FldT Try.prog 25 1 24 1 := ⟨by kernel_rfl⟩
instance : FldT Try.prog 26 0 3 0 := ⟨by kernel_rfl⟩
instance : FldT Try.prog 26 1 24 1 := ⟨by kernel_rfl⟩
instance : FldT Try.prog 29 0 23 0 := ⟨by kernel_rfl⟩
instance : FldT Try.prog 29 1 26 7 := ⟨by kernel_rfl⟩
instance : FldT Try.prog 29 2 27 9 := ⟨by kernel_rfl⟩
instance : FldT Try.prog 29 3 28 10 := ⟨by kernel_rfl⟩
instance : FldT Try.prog 29 4 3 11 := ⟨by kernel_rfl⟩
instance : FldT Try.prog 30 0 23 0 := ⟨by kernel_rfl⟩
instance : FldT Try.prog 30 1 26 7 := ⟨by kernel_rfl⟩
instance : FldT Try.prog 30 2 27 9 := ⟨by kernel_rfl⟩
instance : FldT Try.prog 30 3 28 10 := ⟨by kernel_rfl⟩
instance : FldT Try.prog 30 4 3 11 := ⟨by kernel_rfl⟩
instance : FldT Try.prog 33 0 3 0 := ⟨by kernel_rfl⟩
instance : FldT Try.prog 33 1 3 1 := ⟨by kernel_rfl⟩
instance : FldT Try.prog 33 2 3 2 := ⟨by kernel_rfl⟩
instance : FldT Try.prog 33 3 3 3 := ⟨by kernel_rfl⟩
instance : FldT Try.prog 33 4 4 4 := ⟨by kernel_rfl⟩
instance : FldT Try.prog 33 5 3 5 := ⟨by kernel_rfl⟩
instance : FldT Try.prog 33 6 3 6 := ⟨by kernel_rfl⟩
instance : FldT Try.prog 34 0 3 0 := ⟨by kernel_rfl⟩
instance : FldT Try.prog 34 1 24 1 := ⟨by kernel_rfl⟩
instance : FldT Try.prog 37 0 33 0 := ⟨by kernel_rfl⟩
instance : FldT Try.prog 37 1 34 7 := ⟨by kernel_rfl⟩
instance : FldT Try.prog 37 2 35 9 := ⟨by kernel_rfl⟩
instance : FldT Try.prog 37 3 36 10 := ⟨by kernel_rfl⟩
instance : FldT Try.prog 37 4 3 11 := ⟨by kernel_rfl⟩
instance : FldT Try.prog 38 0 33 0 := ⟨by kernel_rfl⟩
instance : FldT Try.prog 38 1 34 7 := ⟨by kernel_rfl⟩
instance : FldT Try.prog 38 2 35 9 := ⟨by kernel_rfl⟩
instance : FldT Try.prog 38 3 36 10 := ⟨by kernel_rfl⟩
instance : FldT Try.prog 38 4 3 11 := ⟨by kernel_rfl⟩
instance : FldT Try.prog 60 0 3 0 := ⟨by kernel_rfl⟩
instance : FldT Try.prog 60 1 3 1 := ⟨by kernel_rfl⟩
instance : FldT Try.prog 60 2 3 2 := ⟨by kernel_rfl⟩
instance : FldT Try.prog 61 0 3 0 := ⟨by kernel_rfl⟩
instance : FldT Try.prog 61 1 3 1 := ⟨by kernel_rfl⟩
instance : FldT Try.prog 61 2 3 2 := ⟨by kernel_rfl⟩
instance : FldT Try.prog 63 0 62 0 := ⟨by kernel_rfl⟩
instance : FldT Try.prog 64 0 62 0 := ⟨by kernel_rfl⟩
instance : FldT Try.prog 65 0 64 0 := ⟨by kernel_rfl⟩
instance : FldT Try.prog 65 1 64 12 := ⟨by kernel_rfl⟩
instance : FldT Try.prog 65 2 3 24 := ⟨by kernel_rfl⟩
instance : FldT Try.prog 65 3 3 25 := ⟨by kernel_rfl⟩
instance : FldT Try.prog 66 0 64 0 := ⟨by kernel_rfl⟩
instance : FldT Try.prog 66 1 64 12 := ⟨by kernel_rfl⟩
instance : FldT Try.prog 66 2 3 24 := ⟨by kernel_rfl⟩
instance : FldT Try.prog 66 3 3 25 := ⟨by kernel_rfl⟩
instance : FldT Try.prog 77 0 75 0 := ⟨by kernel_rfl⟩
instance : FldT Try.prog 77 1 76 1 := ⟨by kernel_rfl⟩
instance : FldT Try.prog 78 0 75 0 := ⟨by kernel_rfl⟩
instance : FldT Try.prog 78 1 76 1 := ⟨by kernel_rfl⟩
instance : FldT Try.prog 81 0 79 0 := ⟨by kernel_rfl⟩
instance : FldT Try.prog 81 1 80 1 := ⟨by kernel_rfl⟩
instance : FldT Try.prog 82 0 79 0 := ⟨by kernel_rfl⟩
instance : FldT Try.prog 82 1 80 1 := ⟨by kernel_rfl⟩
instance : FldT Try.prog 85 0 3 0 := ⟨by kernel_rfl⟩
instance : FldT Try.prog 85 1 3 1 := ⟨by kernel_rfl⟩
instance : FldT Try.prog 85 2 3 2 := ⟨by kernel_rfl⟩
instance : FldT Try.prog 87 0 86 0 := ⟨by kernel_rfl⟩
instance : FldT Try.prog 88 0 86 0 := ⟨by kernel_rfl⟩
instance : FldT Try.prog 89 0 88 0 := ⟨by kernel_rfl⟩
instance : FldT Try.prog 89 1 88 12 := ⟨by kernel_rfl⟩
instance : FldT Try.prog 89 2 3 24 := ⟨by kernel_rfl⟩
instance : FldT Try.prog 89 3 3 25 := ⟨by kernel_rfl⟩
instance : FldT Try.prog 90 0 88 0 := ⟨by kernel_rfl⟩
instance : FldT Try.prog 90 1 88 12 := ⟨by kernel_rfl⟩
instance : FldT Try.prog 90 2 3 24 := ⟨by kernel_rfl⟩
instance : FldT Try.prog 90 3 3 25 := ⟨by kernel_rfl⟩
instance : FldT Try.prog 93 0 61 0 := ⟨by kernel_rfl⟩
instance : FldT Try.prog 93 1 61 3 := ⟨by kernel_rfl⟩
instance : FldT Try.prog 94 0 61 0 := ⟨by kernel_rfl⟩
instance : FldT Try.prog 94 1 61 3 := ⟨by kernel_rfl⟩
instance : FldT Try.prog 112 0 3 0 := ⟨by kernel_rfl⟩
instance : FldT Try.prog 112 1 9 1 := ⟨by kernel_rfl⟩
instance : FldT Try.prog 112 2 3 2 := ⟨by kernel_rfl⟩
instance : FldT Try.prog 112 3 24 3 := ⟨by kernel_rfl⟩
instance : FldT Try.prog 113 0 3 0 := ⟨by kernel_rfl⟩
instance : FldT Try.prog 113 1 9 1 := ⟨by kernel_rfl⟩
instance : FldT Try.prog 113 2 3 2 := ⟨by kernel_rfl⟩
instance : FldT Try.prog 113 3 24 3 := ⟨by kernel_rfl⟩
instance : FldT Try.prog 115 0 9 0 := ⟨by kernel_rfl⟩
instance : FldT Try.prog 115 1 3 1 := ⟨by kernel_rfl⟩
instance : FldT Try.prog 116 0 9 0 := ⟨by kernel_rfl⟩
instance : FldT Try.prog 116 1 3 1 := ⟨by kernel_rfl⟩
instance : FldT Try.prog 118 0 3 0 := ⟨by kernel_rfl⟩
instance : FldT Try.prog 118 1 9 1 := ⟨by kernel_rfl⟩
instance : FldT Try.prog 118 2 3 2 := ⟨by kernel_rfl⟩
instance : FldT Try.prog 118 3 24 3 := ⟨by kernel_rfl⟩
instance : FldT Try.prog 120 0 9 0 := ⟨by kernel_rfl⟩
instance : FldT Try.prog 120 1 3 1 := ⟨by kernel_rfl⟩
instance : FldT Try.prog 142 0 17 0 := ⟨by kernel_rfl⟩
instance : FldT Try.prog 142 1 17 1 := ⟨by kernel_rfl⟩
instance : FldT Try.prog 142 2 17 2 := ⟨by kernel_rfl⟩
instance : FldT Try.prog 142 3 9 3 := ⟨by kernel_rfl⟩
instance : FldT Try.prog 143 0 17 0 := ⟨by kernel_rfl⟩
instance : FldT Try.prog 143 1 17 1 := ⟨by kernel_rfl⟩
instance : FldT Try.prog 143 2 17 2 := ⟨by kernel_rfl⟩
instance : FldT Try.prog 143 3 9 3 := ⟨by kernel_rfl⟩
instance : FldT Try.prog 145 0 144 0 := ⟨by kernel_rfl⟩
instance : FldT Try.prog 146 0 144 0 := ⟨by kernel_rfl⟩
instance : FldT Try.prog 155 0 12 0 := ⟨by kernel_rfl⟩
instance : FldT Try.prog 155 1 12 1 := ⟨by kernel_rfl⟩
instance : FldT Try.prog 155 2 148 2 := ⟨by kernel_rfl⟩
instance : FldT Try.prog 155 3 149 3 := ⟨by kernel_rfl⟩
instance : FldT Try.prog 155 4 5 4 := ⟨by kernel_rfl⟩
instance : FldT Try.prog 155 5 5 5 := ⟨by kernel_rfl⟩
instance : FldT Try.prog 155 6 150 6 := ⟨by kernel_rfl⟩
instance : FldT Try.prog 155 7 151 7 := ⟨by kernel_rfl⟩
instance : FldT Try.prog 155 8 152 8 := ⟨by kernel_rfl⟩
instance : FldT Try.prog 155 9 153 9 := ⟨by kernel_rfl⟩
instance : FldT Try.prog 155 10 154 10 := ⟨by kernel_rfl⟩
instance : FldT Try.prog 156 0 12 0 := ⟨by kernel_rfl⟩
instance : FldT Try.prog 156 1 12 1 := ⟨by kernel_rfl⟩
instance : FldT Try.prog 156 2 148 2 := ⟨by kernel_rfl⟩
instance : FldT Try.prog 156 3 149 3 := ⟨by kernel_rfl⟩
instance : FldT Try.prog 156 4 5 4 := ⟨by kernel_rfl⟩
instance : FldT Try.prog 156 5 5 5 := ⟨by kernel_rfl⟩
instance : FldT Try.prog 156 6 150 6 := ⟨by kernel_rfl⟩
instance : FldT Try.prog 156 7 151 7 := ⟨by kernel_rfl⟩
instance : FldT Try.prog 156 8 152 8 := ⟨by kernel_rfl⟩
instance : FldT Try.prog 156 9 153 9 := ⟨by kernel_rfl⟩
instance : FldT Try.prog 156 10 154 10 := ⟨by kernel_rfl⟩
end Go.Proofs.Ytaiiiendfcglmaa.St
