/-
  Fields of values that are structs.
-/
import Derived.Test.YteaaidfjbhcofaaEqs
import Derived.Test.YteaaidfjbhcofaaStOwn
set_option linter.unusedSimpArgs false
set_option linter.unusedVariables false
namespace Go.Proofs.Yteaaidfjbhcofaa.St
open Go.RowKit
def fldTB (P : Program) (t : TypeId) (k ft off : Nat) : Bool :=
  match P.underlying t with
  | some (.struct fs) => match fs[k]? with
    | some f => f.type == ft && f.offset == off
    | none => false
  | _ => false
class FldT (P : Program) (t : TypeId) (k : Nat) (ft off : outParam Nat) : Prop where
  out : fldTB P t k ft off = true
section
variable {P : Program} {E : Env} {w : World} {Φ : Value → World → Prop} {ty t : TypeId} {x : Operand}
theorem fldT_parts {k ft off : Nat} [h : FldT P t k ft off] : ∃ fs f, P.underlying t = some (.struct fs) ∧ fs[k]? = some f ∧ f.type = ft ∧ f.offset = off := by
  have := h.out
  unfold fldTB at this
  split at this
  · rename_i fs hfs
    split at this
    · rename_i f hf
      simp only [Bool.and_eq_true, beq_iff_eq] at this
      exact ⟨fs, f, hfs, hf, this.1, this.2⟩
    · cases this
  · cases this
theorem does_fieldV1 {n ft off : Nat} {cs : List Value} {u : Value} [FldT P t n ft off] [Scalar P ft] (hx : ev E x = some (.agg cs.toArray)) (hu : cs[off]? = some u) (k : Φ u w) : Does P (.field t x n) ty E w Φ := by
  obtain ⟨fs, f, h1, h2, h3, h4⟩ := fldT_parts (P := P) (t := t) (k := n) (ft := ft) (off := off)
  subst h3 h4
  refine does_fieldV (off := 0) hx (fun w => ?_) k
  simp only [Instr.field, Sem.run_bind, run_underlying h1, Result.andThen_ok, h2]
  simp [part, run_isAggF (P := P) (t := f.type), asAgg, hu]
theorem does_fieldVA {n ft off s : Nat} {cs : List Value} [FldT P t n ft off] [Aggr P ft s] (hx : ev E x = some (.agg cs.toArray)) (k : Φ (.agg ((cs.drop off).take s).toArray) w) : Does P (.field t x n) ty E w Φ := by
  obtain ⟨fs, f, h1, h2, h3, h4⟩ := fldT_parts (P := P) (t := t) (k := n) (ft := ft) (off := off)
  subst h3 h4
  refine does_fieldV (off := 0) hx (fun w => ?_) k
  simp only [Instr.field, Sem.run_bind, run_underlying h1, Result.andThen_ok, h2]
  simp [part, asAgg, run_isAggT (P := P) (t := f.type), run_aggSize (P := P) (t := f.type), List.extract_eq_take_drop]
end
instance : FldT Try.prog 7 0 2 0 := ⟨by kernel_rfl⟩
instance : FldT Try.prog 7 1 3 1 := ⟨by kernel_rfl⟩
instance : FldT Try.prog 7 2 4 2 := ⟨by kernel_rfl⟩
instance : FldT Try.prog 7 3 6 3 := ⟨by kernel_rfl⟩
instance : FldT Try.prog 8 0 2 0 := ⟨by kernel_rfl⟩
instance : FldT Try.prog 8 1 3 1 := ⟨by kernel_rfl⟩
instance : FldT Try.prog 8 2 4 2 := ⟨by kernel_rfl⟩
instance : FldT Try.prog 8 3 6 3 := ⟨by kernel_rfl⟩
instance : FldT Try.prog 13 0 9 0 := ⟨by kernel_rfl⟩
instance : FldT Try.prog 13 1 12 1 := ⟨by kernel_rfl⟩
instance : FldT Try.prog 14 0 9 0 := ⟨by kernel_rfl⟩
instance : FldT Try.prog 14 1 12 1 := ⟨by kernel_rfl⟩
instance : FldT Try.prog 18 0 17 0 := ⟨by kernel_rfl⟩
instance : FldT Try.prog 19 0 17 0 := ⟨by kernel_rfl⟩
instance : FldT Try.prog 27 0 3 0 := ⟨by kernel_rfl⟩
instance : FldT Try.prog 27 1 3 1 := ⟨by kernel_rfl⟩
instance : FldT Try.prog 27 2 3 2 := ⟨by kernel_rfl⟩
instance : FldT Try.prog 28 0 3 0 := ⟨by kernel_rfl⟩
instance : FldT Try.prog 28 1 3 1 := ⟨by kernel_rfl⟩
instance : FldT Try.prog 28 2 3 2 := ⟨by kernel_rfl⟩
instance : FldT Try.prog 30 0 29 0 := ⟨by kernel_rfl⟩
instance : FldT Try.prog 31 0 29 0 := ⟨by kernel_rfl⟩
instance : FldT Try.prog 33 0 3 0 := ⟨by kernel_rfl⟩
instance : FldT Try.prog 33 1 3 1 := ⟨by kernel_rfl⟩
instance : FldT Try.prog 33 2 3 2 := ⟨by kernel_rfl⟩
instance : FldT Try.prog 35 0 34 0 := ⟨by kernel_rfl⟩
instance : FldT Try.prog 36 0 34 0 := ⟨by kernel_rfl⟩
instance : FldT Try.prog 44 0 43 0 := ⟨by kernel_rfl⟩
instance : FldT Try.prog 45 0 43 0 := ⟨by kernel_rfl⟩
instance : FldT Try.prog 46 0 45 0 := ⟨by kernel_rfl⟩
instance : FldT Try.prog 46 1 45 12 := ⟨by kernel_rfl⟩
instance : FldT Try.prog 46 2 3 24 := ⟨by kernel_rfl⟩
instance : FldT Try.prog 46 3 3 25 := ⟨by kernel_rfl⟩
instance : FldT Try.prog 47 0 45 0 := ⟨by kernel_rfl⟩
instance : FldT Try.prog 47 1 45 12 := ⟨by kernel_rfl⟩
instance : FldT Try.prog 47 2 3 24 := ⟨by kernel_rfl⟩
instance : FldT Try.prog 47 3 3 25 := ⟨by kernel_rfl⟩
instance : FldT Try.prog 50 0 49 0 := ⟨by kernel_rfl⟩
instance : FldT Try.prog 51 0 49 0 := ⟨by kernel_rfl⟩
instance : FldT Try.prog 52 0 51 0 := ⟨by kernel_rfl⟩
instance : FldT Try.prog 52 1 51 12 := ⟨by kernel_rfl⟩
instance : FldT Try.prog 52 2 3 24 := ⟨by kernel_rfl⟩
instance : FldT Try.prog 52 3 3 25 := ⟨by kernel_rfl⟩
instance : FldT Try.prog 53 0 51 0 := ⟨by kernel_rfl⟩
instance : FldT Try.prog 53 1 51 12 := ⟨by kernel_rfl⟩
instance : FldT Try.prog 53 2 3 24 := ⟨by kernel_rfl⟩
instance : FldT Try.prog 53 3 3 25 := ⟨by kernel_rfl⟩
instance : FldT Try.prog 56 0 3 0 := ⟨by kernel_rfl⟩
instance : FldT Try.prog 56 1 3 1 := ⟨by kernel_rfl⟩
instance : FldT Try.prog 56 2 3 2 := ⟨by kernel_rfl⟩
instance : FldT Try.prog 56 3 3 3 := ⟨by kernel_rfl⟩
instance : FldT Try.prog 56 4 4 4 := ⟨by kernel_rfl⟩
instance : FldT Try.prog 56 5 3 5 := ⟨by kernel_rfl⟩
instance : FldT Try.prog 56 6 3 6 := ⟨by kernel_rfl⟩
instance : FldT Try.prog 57 0 3 0 := ⟨by kernel_rfl⟩
instance : FldT Try.prog 57 1 3 1 := ⟨by kernel_rfl⟩
instance : FldT Try.prog 57 2 3 2 := ⟨by kernel_rfl⟩
instance : FldT Try.prog 57 3 3 3 := ⟨by kernel_rfl⟩
instance : FldT Try.prog 57 4 4 4 := ⟨by kernel_rfl⟩
instance : FldT Try.prog 57 5 3 5 := ⟨by kernel_rfl⟩
instance : FldT Try.prog 57 6 3 6 := ⟨by kernel_rfl⟩
instance : FldT Try.prog 58 0 3 0 := ⟨by kernel_rfl⟩
instance : FldT Try.prog 58 1 3 1 := ⟨by kernel_rfl⟩
instance : FldT Try.prog 58 2 3 2 := ⟨by kernel_rfl⟩
instance : FldT Try.prog 58 3 3 3 := ⟨by kernel_rfl⟩
instance : FldT Try.prog 59 0 3 0 := ⟨by kernel_rfl⟩
instance : FldT Try.prog 59 1 3 1 := ⟨by kernel_rfl⟩
instance : FldT Try.prog 59 2 3 2 := ⟨by kernel_rfl⟩
instance : FldT Try.prog 59 3 3 3 := ⟨by kernel_rfl⟩
instance : FldT Try.prog 60 0 33 0 := ⟨by kernel_rfl⟩
instance : FldT Try.prog 60 1 33 3 := ⟨by kernel_rfl⟩
instance : FldT Try.prog 61 0 33 0 := ⟨by kernel_rfl⟩
instance : FldT Try.prog 61 1 33 3 := ⟨by kernel_rfl⟩
instance : FldT Try.prog 63 0 3 0 := ⟨by kernel_rfl⟩
instance : FldT Try.prog 63 1 3 1 := ⟨by kernel_rfl⟩
instance : FldT Try.prog 63 2 3 2 := ⟨by kernel_rfl⟩
instance : FldT Try.prog 63 3 3 3 := ⟨by kernel_rfl⟩
instance : FldT Try.prog 63 4 4 4 := ⟨by kernel_rfl⟩
instance : FldT Try.prog 63 5 3 5 := ⟨by kernel_rfl⟩
instance : FldT Try.prog 63 6 3 6 := ⟨by kernel_rfl⟩
instance : FldT Try.prog 65 0 3 0 := ⟨by kernel_rfl⟩
instance : FldT Try.prog 65 1 3 1 := ⟨by kernel_rfl⟩
instance : FldT Try.prog 65 2 3 2 := ⟨by kernel_rfl⟩
instance : FldT Try.prog 65 3 3 3 := ⟨by kernel_rfl⟩
instance : FldT Try.prog 69 0 3 0 := ⟨by kernel_rfl⟩
instance : FldT Try.prog 69 1 24 1 := ⟨by kernel_rfl⟩
instance : FldT Try.prog 70 0 3 0 := ⟨by kernel_rfl⟩
instance : FldT Try.prog 70 1 24 1 := ⟨by kernel_rfl⟩
instance : FldT Try.prog 73 0 3 0 := ⟨by kernel_rfl⟩
instance : FldT Try.prog 73 1 24 1 := ⟨by kernel_rfl⟩
instance : FldT Try.prog 78 0 3 0 := ⟨by kernel_rfl⟩
instance : FldT Try.prog 78 1 77 1 := ⟨by kernel_rfl⟩
instance : FldT Try.prog 78 2 3 2 := ⟨by kernel_rfl⟩
instance : FldT Try.prog 79 0 3 0 := ⟨by kernel_rfl⟩
instance : FldT Try.prog 79 1 77 1 := ⟨by kernel_rfl⟩
instance : FldT Try.prog 79 2 3 2 := ⟨by kernel_rfl⟩
instance : FldT Try.prog 85 0 3 0 := ⟨by kernel_rfl⟩
instance : FldT Try.prog 85 1 84 1 := ⟨by kernel_rfl⟩
instance : FldT Try.prog 85 2 3 2 := ⟨by kernel_rfl⟩
instance : FldT Try.prog 86 0 3 0 := ⟨by kernel_rfl⟩
instance : FldT Try.prog 86 1 84 1 := ⟨by kernel_rfl⟩
instance : FldT Try.prog 86 2 3 2 := ⟨by kernel_rfl⟩
instance : FldT Try.prog 115 0 3 0 := ⟨by kernel_rfl⟩
instance : FldT Try.prog 115 1 3 1 := ⟨by kernel_rfl⟩
instance : FldT Try.prog 115 2 3 2 := ⟨by kernel_rfl⟩
instance : FldT Try.prog 115 3 3 3 := ⟨by kernel_rfl⟩
instance : FldT Try.prog 115 4 3 4 := ⟨by kernel_rfl⟩
instance : FldT Try.prog 116 0 3 0 := ⟨by kernel_rfl⟩
instance : FldT Try.prog 116 1 3 1 := ⟨by kernel_rfl⟩
instance : FldT Try.prog 116 2 3 2 := ⟨by kernel_rfl⟩
instance : FldT Try.prog 116 3 3 3 := ⟨by kernel_rfl⟩
instance : FldT Try.prog 116 4 3 4 := ⟨by kernel_rfl⟩
instance : FldT Try.prog 150 0 3 0 := ⟨by kernel_rfl⟩
instance : FldT Try.prog 150 1 3 1 := ⟨by kernel_rfl⟩
instance : FldT Try.prog 150 2 3 2 := ⟨by kernel_rfl⟩
instance : FldT Try.prog 151 0 3 0 := ⟨by kernel_rfl⟩
instance : FldT Try.prog 151 1 3 1 := ⟨by kernel_rfl⟩
instance : FldT Try.prog 151 2 3 2 := ⟨by kernel_rfl⟩
instance : FldT Try.prog 159 0 3 0 := ⟨by kernel_rfl⟩
instance : FldT Try.prog 159 1 3 1 := ⟨by kernel_rfl⟩
instance : FldT Try.prog 159 2 3 2 := ⟨by kernel_rfl⟩
instance : FldT Try.prog 159 3 3 3 := ⟨by kernel_rfl⟩
instance : FldT Try.prog 159 4 3 4 := ⟨by kernel_rfl⟩
instance : FldT Try.prog 170 0 100 0 := ⟨by kernel_rfl⟩
instance : FldT Try.prog 170 1 169 1 := ⟨by kernel_rfl⟩
instance : FldT Try.prog 171 0 100 0 := ⟨by kernel_rfl⟩
instance : FldT Try.prog 171 1 169 1 := ⟨by kernel_rfl⟩
instance : FldT Try.prog 181 0 22 0 := ⟨by kernel_rfl⟩
instance : FldT Try.prog 181 1 3 1 := ⟨by kernel_rfl⟩
instance : FldT Try.prog 181 2 3 2 := ⟨by kernel_rfl⟩
instance : FldT Try.prog 182 0 22 0 := ⟨by kernel_rfl⟩
instance : FldT Try.prog 182 1 3 1 := ⟨by kernel_rfl⟩
instance : FldT Try.prog 182 2 3 2 := ⟨by kernel_rfl⟩
instance : FldT Try.prog 192 0 3 0 := ⟨by kernel_rfl⟩
instance : FldT Try.prog 192 1 3 1 := ⟨by kernel_rfl⟩
instance : FldT Try.prog 192 2 3 2 := ⟨by kernel_rfl⟩
instance : FldT Try.prog 203 0 17 0 := ⟨by kernel_rfl⟩
instance : FldT Try.prog 203 1 17 1 := ⟨by kernel_rfl⟩
instance : FldT Try.prog 203 2 17 2 := ⟨by kernel_rfl⟩
instance : FldT Try.prog 203 3 9 3 := ⟨by kernel_rfl⟩
instance : FldT Try.prog 204 0 17 0 := ⟨by kernel_rfl⟩
instance : FldT Try.prog 204 1 17 1 := ⟨by kernel_rfl⟩
instance : FldT Try.prog 204 2 17 2 := ⟨by kernel_rfl⟩
instance : FldT Try.prog 204 3 9 3 := ⟨by kernel_rfl⟩
instance : FldT Try.prog 206 0 205 0 := ⟨by kernel_rfl⟩
instance : FldT Try.prog 207 0 205 0 := ⟨by kernel_rfl⟩
instance : FldT Try.prog 215 0 12 0 := ⟨by kernel_rfl⟩
instance : FldT Try.prog 215 1 12 1 := ⟨by kernel_rfl⟩
instance : FldT Try.prog 215 2 208 2 := ⟨by kernel_rfl⟩
instance : FldT Try.prog 215 3 209 3 := ⟨by kernel_rfl⟩
instance : FldT Try.prog 215 4 5 4 := ⟨by kernel_rfl⟩
instance : FldT Try.prog 215 5 5 5 := ⟨by kernel_rfl⟩
instance : FldT Try.prog 215 6 210 6 := ⟨by kernel_rfl⟩
instance : FldT Try.prog 215 7 211 7 := ⟨by kernel_rfl⟩
instance : FldT Try.prog 215 8 212 8 := ⟨by kernel_rfl⟩
instance : FldT Try.prog 215 9 213 9 := ⟨by kernel_rfl⟩
instance : FldT Try.prog 215 10 214 10 := ⟨by kernel_rfl⟩
instance : FldT Try.prog 216 0 12 0 := ⟨by kernel_rfl⟩
instance : FldT Try.prog 216 1 12 1 := ⟨by kernel_rfl⟩
instance : FldT Try.prog 216 2 208 2 := ⟨by kernel_rfl⟩
instance : FldT Try.prog 216 3 209 3 := ⟨by kernel_rfl⟩
instance : FldT Try.prog 216 4 5 4 := ⟨by kernel_rfl⟩
instance : FldT Try.prog 216 5 5 5 := ⟨by kernel_rfl⟩
instance : FldT Try.prog 216 6 210 6 := ⟨by kernel_rfl⟩
instance : FldT Try.prog 216 7 211 7 := ⟨by kernel_rfl⟩
instance : FldT Try.prog 216 8 212 8 := ⟨by kernel_rfl⟩
instance : FldT Try.prog 216 9 213 9 := ⟨by kernel_rfl⟩
instance : FldT Try.prog 216 10 214 10 := ⟨by kernel_rfl⟩
end Go.Proofs.Yteaaidfjbhcofaa.St
