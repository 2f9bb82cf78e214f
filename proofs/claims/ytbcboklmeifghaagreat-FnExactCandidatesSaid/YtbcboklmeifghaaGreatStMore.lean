/-
  Fields of values that are structs.
-/
import Derived.Test.YtbcboklmeifghaaGreatJ2
set_option linter.unusedSimpArgs false
set_option linter.unusedVariables false
namespace Go.Proofs.YtbcboklmeifghaaGreat.St
open Go.RowKit
def fldTB (P : Program) (t : TypeId) (k ft off : Nat) : Bool :=
  match P.underlying t with
  | some (.struct fs) => match fs[k]? with
    | some f => f.type == ft && f.offset == off
    | none => false
  | _ => false
class FldT (P : Program) (t : TypeId) (k : Nat) (ft off : outParam Nat) : Prop where
  out : fldTB P t k ft off = true
section
variable {P : Program} {E : Env} {w : World} {Φ : Value → World → Prop} {ty t : TypeId} {x : Operand}
theorem fldT_parts {k ft off : Nat} [h : FldT P t k ft off] : ∃ fs f, P.underlying t = some (.struct fs) ∧ fs[k]? = some f ∧ f.type = ft ∧ f.offset = off := by
  have := h.out
  unfold fldTB at this
  split at this
  · rename_i fs hfs
    split at this
    · rename_i f hf
      simp only [Bool.and_eq_true, beq_iff_eq] at this
      exact ⟨fs, f, hfs, hf, this.1, this.2⟩
    · cases this
  · cases this
theorem does_fieldV1 {n ft off : Nat} {cs : List Value} {u : Value} [FldT P t n ft off] [Scalar P ft] (hx : ev E x = some (.agg cs.toArray)) (hu : cs[off]? = some u) (k : Φ u w) : Does P (.field t x n) ty E w Φ := by
  obtain ⟨fs, f, h1, h2, h3, h4⟩ := fldT_parts (P := P) (t := t) (k := n) (ft := ft) (off := off)
  subst h3 h4
  refine does_fieldV (off := 0) hx (fun w => ?_) k
  simp only [Instr.field, Sem.run_bind, run_underlying h1, Result.andThen_ok, h2]
  simp [part, run_isAggF (P := P) (t := f.type), asAgg, hu]
theorem does_fieldVA {n ft off s : Nat} {cs : List Value} [FldT P t n ft off] [Aggr P ft s] (hx : ev E x = some (.agg cs.toArray)) (k : Φ (.agg ((cs.drop off).take s).toArray) w) : Does P (.field t x n) ty E w Φ := by
  obtain ⟨fs, f, h1, h2, h3, h4⟩ := fldT_parts (P := P) (t := t) (k := n) (ft := ft) (off := off)
  subst h3 h4
  refine does_fieldV (off := 0) hx (fun w => ?_) k
  simp only [Instr.field, Sem.run_bind, run_underlying h1, Result.andThen_ok, h2]
  simp [part, asAgg, run_isAggT (P := P) (t := f.type), run_aggSize (P := P) (t := f.type), List.extract_eq_take_drop]
end
instance : FldT Tryz.prog 7 0 2 0 := ⟨by kernel_rfl⟩
instance : FldT Tryz.prog 7 1 3 1 := ⟨by kernel_rfl⟩
instance : FldT Tryz.prog 7 2 4 2 := ⟨by kernel_rfl⟩
instance : FldT Tryz.prog 7 3 6 3 := ⟨by kernel_rfl⟩
instance : FldT Tryz.prog 8 0 2 0 := ⟨by kernel_rfl⟩
instance : FldT Tryz.prog 8 1 3 1 := ⟨by kernel_rfl⟩
instance : FldT Tryz.prog 8 2 4 2 := ⟨by kernel_rfl⟩
instance : FldT Tryz.prog 8 3 6 3 := ⟨by kernel_rfl⟩
instance : FldT Tryz.prog 13 0 9 0 := ⟨by kernel_rfl⟩
instance : FldT Tryz.prog 13 1 12 1 := ⟨by kernel_rfl⟩
instance : FldT Tryz.prog 14 0 9 0 := ⟨by kernel_rfl⟩
instance : FldT Tryz.prog 14 1 12 1 := ⟨by kernel_rfl⟩
instance : FldT Tryz.prog 18 0 17 0 := ⟨by kernel_rfl⟩
instance : FldT Tryz.prog 19 0 17 0 := ⟨by kernel_rfl⟩
instance : FldT Tryz.prog 22 0 3 0 := ⟨by kernel_rfl⟩
instance : FldT Tryz.prog 22 1 3 1 := ⟨by kernel_rfl⟩
instance : FldT Tryz.prog 22 2 3 2 := ⟨by kernel_rfl⟩
instance : FldT Tryz.prog 22 3 3 3 := ⟨by kernel_rfl⟩
instance : FldT Tryz.prog 22 4 4 4 := ⟨by kernel_rfl⟩
instance : FldT Tryz.prog 22 5 3 5 := ⟨by kernel_rfl⟩
instance : FldT Tryz.prog 22 6 3 6 := ⟨by kernel_rfl⟩
instance : FldT Tryz.prog 23 0 3 0 := ⟨by kernel_rfl⟩
instance : FldT Tryz.prog 23 1 3 1 := ⟨by kernel_rfl⟩
instance : FldT Tryz.prog 23 2 3 2 := ⟨by kernel_rfl⟩
instance : FldT Tryz.prog 23 3 3 3 := ⟨by kernel_rfl⟩
instance : FldT Tryz.prog 23 4 4 4 := ⟨by kernel_rfl⟩
instance : FldT Tryz.prog 23 5 3 5 := ⟨by kernel_rfl⟩
instance : FldT Tryz.prog 23 6 3 6 := ⟨by kernel_rfl⟩
instance : FldT Tryz.prog 25 0 3 0 := ⟨by kernel_rfl⟩
instance : FldT Tryz.prog 25 1 24 1 := ⟨by kernel_rfl⟩
instance : FldT Tryz.prog 26 0 3 0 := ⟨by kernel_rfl⟩
instance : FldT Tryz.prog 26 1 24 1 := ⟨by kernel_rfl⟩
instance : FldT Tryz.prog 29 0 23 0 := ⟨by kernel_rfl⟩
instance : FldT Tryz.prog 29 1 26 7 := ⟨by kernel_rfl⟩
instance : FldT Tryz.prog 29 2 27 9 := ⟨by kernel_rfl⟩
instance : FldT Tryz.prog 29 3 28 10 := ⟨by kernel_rfl⟩
instance : FldT Tryz.prog 29 4 3 11 := ⟨by kernel_rfl⟩
instance : FldT Tryz.prog 30 0 23 0 := ⟨by kernel_rfl⟩
instance : FldT Tryz.prog 30 1 26 7 := ⟨by kernel_rfl⟩
instance : FldT Tryz.prog 30 2 27 9 := ⟨by kernel_rfl⟩
instance : FldT Tryz.prog 30 3 28 10 := ⟨by kernel_rfl⟩
instance : FldT Tryz.prog 30 4 3 11 := ⟨by kernel_rfl⟩
instance : FldT Tryz.prog 31 0 3 0 := ⟨by kernel_rfl⟩
instance : FldT Tryz.prog 31 1 3 1 := ⟨by kernel_rfl⟩
instance : FldT Tryz.prog 31 2 3 2 := ⟨by kernel_rfl⟩
instance : FldT Tryz.prog 32 0 3 0 := ⟨by kernel_rfl⟩
instance : FldT Tryz.prog 32 1 3 1 := ⟨by kernel_rfl⟩
instance : FldT Tryz.prog 32 2 3 2 := ⟨by kernel_rfl⟩
instance : FldT Tryz.prog 34 0 33 0 := ⟨by kernel_rfl⟩
instance : FldT Tryz.prog 35 0 33 0 := ⟨by kernel_rfl⟩
instance : FldT Tryz.prog 36 0 35 0 := ⟨by kernel_rfl⟩
instance : FldT Tryz.prog 36 1 35 12 := ⟨by kernel_rfl⟩
instance : FldT Tryz.prog 36 2 3 24 := ⟨by kernel_rfl⟩
instance : FldT Tryz.prog 36 3 3 25 := ⟨by kernel_rfl⟩
instance : FldT Tryz.prog 37 0 35 0 := ⟨by kernel_rfl⟩
instance : FldT Tryz.prog 37 1 35 12 := ⟨by kernel_rfl⟩
instance : FldT Tryz.prog 37 2 3 24 := ⟨by kernel_rfl⟩
instance : FldT Tryz.prog 37 3 3 25 := ⟨by kernel_rfl⟩
instance : FldT Tryz.prog 39 0 3 0 := ⟨by kernel_rfl⟩
instance : FldT Tryz.prog 39 1 3 1 := ⟨by kernel_rfl⟩
instance : FldT Tryz.prog 39 2 3 2 := ⟨by kernel_rfl⟩
instance : FldT Tryz.prog 39 3 3 3 := ⟨by kernel_rfl⟩
instance : FldT Tryz.prog 39 4 4 4 := ⟨by kernel_rfl⟩
instance : FldT Tryz.prog 39 5 3 5 := ⟨by kernel_rfl⟩
instance : FldT Tryz.prog 39 6 3 6 := ⟨by kernel_rfl⟩
instance : FldT Tryz.prog 40 0 3 0 := ⟨by kernel_rfl⟩
instance : FldT Tryz.prog 40 1 24 1 := ⟨by kernel_rfl⟩
instance : FldT Tryz.prog 43 0 39 0 := ⟨by kernel_rfl⟩
instance : FldT Tryz.prog 43 1 40 7 := ⟨by kernel_rfl⟩
instance : FldT Tryz.prog 43 2 41 9 := ⟨by kernel_rfl⟩
instance : FldT Tryz.prog 43 3 42 10 := ⟨by kernel_rfl⟩
instance : FldT Tryz.prog 43 4 3 11 := ⟨by kernel_rfl⟩
instance : FldT Tryz.prog 44 0 39 0 := ⟨by kernel_rfl⟩
instance : FldT Tryz.prog 44 1 40 7 := ⟨by kernel_rfl⟩
instance : FldT Tryz.prog 44 2 41 9 := ⟨by kernel_rfl⟩
instance : FldT Tryz.prog 44 3 42 10 := ⟨by kernel_rfl⟩
instance : FldT Tryz.prog 44 4 3 11 := ⟨by kernel_rfl⟩
instance : FldT Tryz.prog 48 0 3 0 := ⟨by kernel_rfl⟩
instance : FldT Tryz.prog 48 1 3 1 := ⟨by kernel_rfl⟩
instance : FldT Tryz.prog 48 2 3 2 := ⟨by kernel_rfl⟩
instance : FldT Tryz.prog 50 0 49 0 := ⟨by kernel_rfl⟩
instance : FldT Tryz.prog 51 0 49 0 := ⟨by kernel_rfl⟩
instance : FldT Tryz.prog 52 0 51 0 := ⟨by kernel_rfl⟩
instance : FldT Tryz.prog 52 1 51 12 := ⟨by kernel_rfl⟩
instance : FldT Tryz.prog 52 2 3 24 := ⟨by kernel_rfl⟩
instance : FldT Tryz.prog 52 3 3 25 := ⟨by kernel_rfl⟩
instance : FldT Tryz.prog 53 0 51 0 := ⟨by kernel_rfl⟩
instance : FldT Tryz.prog 53 1 51 12 := ⟨by kernel_rfl⟩
instance : FldT Tryz.prog 53 2 3 24 := ⟨by kernel_rfl⟩
instance : FldT Tryz.prog 53 3 3 25 := ⟨by kernel_rfl⟩
instance : FldT Tryz.prog 58 0 3 0 := ⟨by kernel_rfl⟩
instance : FldT Tryz.prog 58 1 3 1 := ⟨by kernel_rfl⟩
instance : FldT Tryz.prog 58 2 3 2 := ⟨by kernel_rfl⟩
instance : FldT Tryz.prog 58 3 3 3 := ⟨by kernel_rfl⟩
instance : FldT Tryz.prog 59 0 3 0 := ⟨by kernel_rfl⟩
instance : FldT Tryz.prog 59 1 3 1 := ⟨by kernel_rfl⟩
instance : FldT Tryz.prog 59 2 3 2 := ⟨by kernel_rfl⟩
instance : FldT Tryz.prog 59 3 3 3 := ⟨by kernel_rfl⟩
instance : FldT Tryz.prog 61 0 3 0 := ⟨by kernel_rfl⟩
instance : FldT Tryz.prog 61 1 3 1 := ⟨by kernel_rfl⟩
instance : FldT Tryz.prog 61 2 3 2 := ⟨by kernel_rfl⟩
instance : FldT Tryz.prog 61 3 3 3 := ⟨by kernel_rfl⟩
instance : FldT Tryz.prog 86 0 48 0 := ⟨by kernel_rfl⟩
instance : FldT Tryz.prog 86 1 48 3 := ⟨by kernel_rfl⟩
instance : FldT Tryz.prog 87 0 48 0 := ⟨by kernel_rfl⟩
instance : FldT Tryz.prog 87 1 48 3 := ⟨by kernel_rfl⟩
instance : FldT Tryz.prog 97 0 95 0 := ⟨by kernel_rfl⟩
instance : FldT Tryz.prog 97 1 96 1 := ⟨by kernel_rfl⟩
instance : FldT Tryz.prog 98 0 95 0 := ⟨by kernel_rfl⟩
instance : FldT Tryz.prog 98 1 96 1 := ⟨by kernel_rfl⟩
instance : FldT Tryz.prog 101 0 99 0 := ⟨by kernel_rfl⟩
instance : FldT Tryz.prog 101 1 100 1 := ⟨by kernel_rfl⟩
instance : FldT Tryz.prog 102 0 99 0 := ⟨by kernel_rfl⟩
instance : FldT Tryz.prog 102 1 100 1 := ⟨by kernel_rfl⟩
instance : FldT Tryz.prog 131 0 3 0 := ⟨by kernel_rfl⟩
instance : FldT Tryz.prog 131 1 9 1 := ⟨by kernel_rfl⟩
instance : FldT Tryz.prog 131 2 3 2 := ⟨by kernel_rfl⟩
instance : FldT Tryz.prog 131 3 24 3 := ⟨by kernel_rfl⟩
instance : FldT Tryz.prog 132 0 3 0 := ⟨by kernel_rfl⟩
instance : FldT Tryz.prog 132 1 9 1 := ⟨by kernel_rfl⟩
instance : FldT Tryz.prog 132 2 3 2 := ⟨by kernel_rfl⟩
instance : FldT Tryz.prog 132 3 24 3 := ⟨by kernel_rfl⟩
instance : FldT Tryz.prog 135 0 9 0 := ⟨by kernel_rfl⟩
instance : FldT Tryz.prog 135 1 3 1 := ⟨by kernel_rfl⟩
instance : FldT Tryz.prog 136 0 9 0 := ⟨by kernel_rfl⟩
instance : FldT Tryz.prog 136 1 3 1 := ⟨by kernel_rfl⟩
instance : FldT Tryz.prog 156 0 3 0 := ⟨by kernel_rfl⟩
instance : FldT Tryz.prog 156 1 9 1 := ⟨by kernel_rfl⟩
instance : FldT Tryz.prog 156 2 3 2 := ⟨by kernel_rfl⟩
instance : FldT Tryz.prog 156 3 24 3 := ⟨by kernel_rfl⟩
instance : FldT Tryz.prog 158 0 9 0 := ⟨by kernel_rfl⟩
instance : FldT Tryz.prog 158 1 3 1 := ⟨by kernel_rfl⟩
instance : FldT Tryz.prog 178 0 48 0 := ⟨by kernel_rfl⟩
instance : FldT Tryz.prog 179 0 48 0 := ⟨by kernel_rfl⟩
instance : FldT Tryz.prog 184 0 132 0 := ⟨by kernel_rfl⟩
instance : FldT Tryz.prog 185 0 132 0 := ⟨by kernel_rfl⟩
instance : FldT Tryz.prog 186 0 132 0 := ⟨by kernel_rfl⟩
instance : FldT Tryz.prog 187 0 132 0 := ⟨by kernel_rfl⟩
instance : FldT Tryz.prog 197 0 17 0 := ⟨by kernel_rfl⟩
instance : FldT Tryz.prog 197 1 17 1 := ⟨by kernel_rfl⟩
instance : FldT Tryz.prog 197 2 17 2 := ⟨by kernel_rfl⟩
instance : FldT Tryz.prog 197 3 9 3 := ⟨by kernel_rfl⟩
instance : FldT Tryz.prog 198 0 17 0 := ⟨by kernel_rfl⟩
instance : FldT Tryz.prog 198 1 17 1 := ⟨by kernel_rfl⟩
instance : FldT Tryz.prog 198 2 17 2 := ⟨by kernel_rfl⟩
instance : FldT Tryz.prog 198 3 9 3 := ⟨by kernel_rfl⟩
instance : FldT Tryz.prog 200 0 199 0 := ⟨by kernel_rfl⟩
instance : FldT Tryz.prog 201 0 199 0 := ⟨by kernel_rfl⟩
instance : FldT Tryz.prog 209 0 12 0 := ⟨by kernel_rfl⟩
instance : FldT Tryz.prog 209 1 12 1 := ⟨by kernel_rfl⟩
instance : FldT Tryz.prog 209 2 202 2 := ⟨by kernel_rfl⟩
instance : FldT Tryz.prog 209 3 203 3 := ⟨by kernel_rfl⟩
instance : FldT Tryz.prog 209 4 5 4 := ⟨by kernel_rfl⟩
instance : FldT Tryz.prog 209 5 5 5 := ⟨by kernel_rfl⟩
instance : FldT Tryz.prog 209 6 204 6 := ⟨by kernel_rfl⟩
instance : FldT Tryz.prog 209 7 205 7 := ⟨by kernel_rfl⟩
instance : FldT Tryz.prog 209 8 206 8 := ⟨by kernel_rfl⟩
instance : FldT Tryz.prog 209 9 207 9 := ⟨by kernel_rfl⟩
instance : FldT Tryz.prog 209 10 208 10 := ⟨by kernel_rfl⟩
instance : FldT Tryz.prog 210 0 12 0 := ⟨by kernel_rfl⟩
instance : FldT Tryz.prog 210 1 12 1 := ⟨by kernel_rfl⟩
instance : FldT Tryz.prog 210 2 202 2 := ⟨by kernel_rfl⟩
instance : FldT Tryz.prog 210 3 203 3 := ⟨by kernel_rfl⟩
instance : FldT Tryz.prog 210 4 5 4 := ⟨by kernel_rfl⟩
instance : FldT Tryz.prog 210 5 5 5 := ⟨by kernel_rfl⟩
instance : FldT Tryz.prog 210 6 204 6 := ⟨by kernel_rfl⟩
instance : FldT Tryz.prog 210 7 205 7 := ⟨by kernel_rfl⟩
instance : FldT Tryz.prog 210 8 206 8 := ⟨by kernel_rfl⟩
instance : FldT Tryz.prog 210 9 207 9 := ⟨by kernel_rfl⟩
instance : FldT Tryz.prog 210 10 208 10 := ⟨by kernel_rfl⟩
end Go.Proofs.YtbcboklmeifghaaGreat.St
