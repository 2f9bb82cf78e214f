/-
  Fields of values that are structs.
-/
import Derived.Test.YtcdjneiaoikpnaaEqs
import Derived.Test.YtcdjneiaoikpnaaStOwn
set_option linter.unusedSimpArgs false
set_option linter.unusedVariables false
namespace Go.Proofs.Ytcdjneiaoikpnaa.St
open Go.RowKit
def fldTB (P : Program) (t : TypeId) (k ft off : Nat) : Bool :=
  match P.underlying t with
  | some (.struct fs) => match fs[k]? with
    | some f => f.type == ft && f.offset == off
    | none => false
  | _ => false
class FldT (P : Program) (t : TypeId) (k : Nat) (ft off : outParam Nat) : Prop where
  out : fldTB P t k ft off = true
section
variable {P : Program} {E : Env} {w : World} {Φ : Value → World → Prop} {ty t : TypeId} {x : Operand}
theorem fldT_parts {k ft off : Nat} [h : FldT P t k ft off] : ∃ fs f, P.underlying t = some (.struct fs) ∧ fs[k]? = some f ∧ f.type = ft ∧ f.offset = off := by
  have := h.out
  unfold fldTB at this
  split at this
  · rename_i fs hfs
    split at this
    · rename_i f hf
      simp only [Bool.and_eq_true, beq_iff_eq] at this
      exact ⟨fs, f, hfs, hf, this.1, this.2⟩
    · cases this
  · cases this
theorem does_fieldV1 {n ft off : Nat} {cs : List Value} {u : Value} [FldT P t n ft off] [Scalar P ft] (hx : ev E x = some (.agg cs.toArray)) (hu : cs[off]? = some u) (k : Φ u w) : Does P (.field t x n) ty E w Φ := by
  obtain ⟨fs, f, h1, h2, h3, h4⟩ := fldT_parts (P := P) (t := t) (k := n) (ft := ft) (off := off)
  subst h3 h4
  refine does_fieldV (off := 0) hx (fun w => ?_) k
  simp only [Instr.field, Sem.run_bind, run_underlying h1, Result.andThen_ok, h2]
  simp [part, run_isAggF (P := P) (t := f.type), asAgg, hu]
theorem does_fieldVA {n ft off s : Nat} {cs : List Value} [FldT P t n ft off] [Aggr P ft s] (hx : ev E x = some (.agg cs.toArray)) (k : Φ (.agg ((cs.drop off).take s).toArray) w) : Does P (.field t x n) ty E w Φ := by
  obtain ⟨fs, f, h1, h2, h3, h4⟩ := fldT_parts (P := P) (t := t) (k := n) (ft := ft) (off := off)
  subst h3 h4
  refine does_fieldV (off := 0) hx (fun w => ?_) k
  simp only [Instr.field, Sem.run_bind, run_underlying h1, Result.andThen_ok, h2]
  simp [part, asAgg, run_isAggT (P := P) (t := f.type), run_aggSize (P := P) (t := f.type), List.extract_eq_take_drop]
end
instance : FldT Try.prog 7 0 2 0 := ⟨by kernel_rfl⟩
instance : FldT Try.prog 7 1 3 1 := ⟨by kernel_rfl⟩
instance : FldT Try.prog 7 2 4 2 := ⟨by kernel_rfl⟩
instance : FldT Try.prog 7 3 6 3 := ⟨by kernel_rfl⟩
instance : FldT Try.prog 8 0 2 0 := ⟨by kernel_rfl⟩
instance : FldT Try.prog 8 1 3 1 := ⟨by kernel_rfl⟩
instance : FldT Try.prog 8 2 4 2 := ⟨by kernel_rfl⟩
instance : FldT Try.prog 8 3 6 3 := ⟨by kernel_rfl⟩
instance : FldT Try.prog 13 0 9 0 := ⟨by kernel_rfl⟩
instance : FldT Try.prog 13 1 12 1 := ⟨by kernel_rfl⟩
instance : FldT Try.prog 14 0 9 0 := ⟨by kernel_rfl⟩
instance : FldT Try.prog 14 1 12 1 := ⟨by kernel_rfl⟩
instance : FldT Try.prog 18 0 17 0 := ⟨by kernel_rfl⟩
instance : FldT Try.prog 19 0 17 0 := ⟨by kernel_rfl⟩
instance : FldT Try.prog 23 0 3 0 := ⟨by kernel_rfl⟩
instance : FldT Try.prog 23 1 22 1 := ⟨by kernel_rfl⟩
instance : FldT Try.prog 23 2 3 2 := ⟨by kernel_rfl⟩
instance : FldT Try.prog 24 0 3 0 := ⟨by kernel_rfl⟩
instance : FldT Try.prog 24 1 22 1 := ⟨by kernel_rfl⟩
instance : FldT Try.prog 24 2 3 2 := ⟨by kernel_rfl⟩
instance : FldT Try.prog 25 0 3 0 := ⟨by kernel_rfl⟩
instance : FldT Try.prog 25 1 3 1 := ⟨by kernel_rfl⟩
instance : FldT Try.prog 25 2 3 2 := ⟨by kernel_rfl⟩
instance : FldT Try.prog 26 0 3 0 := ⟨by kernel_rfl⟩
instance : FldT Try.prog 26 1 3 1 := ⟨by kernel_rfl⟩
instance : FldT Try.prog 26 2 3 2 := ⟨by kernel_rfl⟩
instance : FldT Try.prog 29 0 3 0 := ⟨by kernel_rfl⟩
instance : FldT Try.prog 29 1 28 1 := ⟨by kernel_rfl⟩
instance : FldT Try.prog 29 2 3 2 := ⟨by kernel_rfl⟩
instance : FldT Try.prog 30 0 3 0 := ⟨by kernel_rfl⟩
instance : FldT Try.prog 30 1 28 1 := ⟨by kernel_rfl⟩
instance : FldT Try.prog 30 2 3 2 := ⟨by kernel_rfl⟩
instance : FldT Try.prog 33 0 3 0 := ⟨by kernel_rfl⟩
instance : FldT Try.prog 33 1 3 1 := ⟨by kernel_rfl⟩
instance : FldT Try.prog 33 2 3 2 := ⟨by kernel_rfl⟩
instance : FldT Try.prog 41 0 39 0 := ⟨by kernel_rfl⟩
instance : FldT Try.prog 41 1 40 1 := ⟨by kernel_rfl⟩
instance : FldT Try.prog 42 0 39 0 := ⟨by kernel_rfl⟩
instance : FldT Try.prog 42 1 40 1 := ⟨by kernel_rfl⟩
instance : FldT Try.prog 48 0 9 0 := ⟨by kernel_rfl⟩
instance : FldT Try.prog 48 1 3 1 := ⟨by kernel_rfl⟩
instance : FldT Try.prog 49 0 9 0 := ⟨by kernel_rfl⟩
instance : FldT Try.prog 49 1 3 1 := ⟨by kernel_rfl⟩
instance : FldT Try.prog 53 0 3 0 := ⟨by kernel_rfl⟩
instance : FldT Try.prog 53 1 3 1 := ⟨by kernel_rfl⟩
instance : FldT Try.prog 53 2 3 2 := ⟨by kernel_rfl⟩
instance : FldT Try.prog 54 0 3 0 := ⟨by kernel_rfl⟩
instance : FldT Try.prog 54 1 3 1 := ⟨by kernel_rfl⟩
instance : FldT Try.prog 54 2 3 2 := ⟨by kernel_rfl⟩
instance : FldT Try.prog 56 0 55 0 := ⟨by kernel_rfl⟩
instance : FldT Try.prog 57 0 55 0 := ⟨by kernel_rfl⟩
instance : FldT Try.prog 59 0 3 0 := ⟨by kernel_rfl⟩
instance : FldT Try.prog 59 1 58 1 := ⟨by kernel_rfl⟩
instance : FldT Try.prog 60 0 3 0 := ⟨by kernel_rfl⟩
instance : FldT Try.prog 60 1 58 1 := ⟨by kernel_rfl⟩
instance : FldT Try.prog 63 0 3 0 := ⟨by kernel_rfl⟩
instance : FldT Try.prog 63 1 58 1 := ⟨by kernel_rfl⟩
instance : FldT Try.prog 64 0 3 0 := ⟨by kernel_rfl⟩
instance : FldT Try.prog 64 1 62 1 := ⟨by kernel_rfl⟩
instance : FldT Try.prog 64 2 3 2 := ⟨by kernel_rfl⟩
instance : FldT Try.prog 64 3 63 3 := ⟨by kernel_rfl⟩
instance : FldT Try.prog 65 0 3 0 := ⟨by kernel_rfl⟩
instance : FldT Try.prog 65 1 62 1 := ⟨by kernel_rfl⟩
instance : FldT Try.prog 65 2 3 2 := ⟨by kernel_rfl⟩
instance : FldT Try.prog 65 3 63 3 := ⟨by kernel_rfl⟩
instance : FldT Try.prog 68 0 3 0 := ⟨by kernel_rfl⟩
instance : FldT Try.prog 68 1 3 1 := ⟨by kernel_rfl⟩
instance : FldT Try.prog 68 2 3 2 := ⟨by kernel_rfl⟩
instance : FldT Try.prog 70 0 69 0 := ⟨by kernel_rfl⟩
instance : FldT Try.prog 71 0 69 0 := ⟨by kernel_rfl⟩
instance : FldT Try.prog 79 0 3 0 := ⟨by kernel_rfl⟩
instance : FldT Try.prog 79 1 3 1 := ⟨by kernel_rfl⟩
instance : FldT Try.prog 79 2 3 2 := ⟨by kernel_rfl⟩
instance : FldT Try.prog 79 3 3 3 := ⟨by kernel_rfl⟩
instance : FldT Try.prog 79 4 4 4 := ⟨by kernel_rfl⟩
instance : FldT Try.prog 79 5 3 5 := ⟨by kernel_rfl⟩
instance : FldT Try.prog 79 6 3 6 := ⟨by kernel_rfl⟩
instance : FldT Try.prog 80 0 3 0 := ⟨by kernel_rfl⟩
instance : FldT Try.prog 80 1 3 1 := ⟨by kernel_rfl⟩
instance : FldT Try.prog 80 2 3 2 := ⟨by kernel_rfl⟩
instance : FldT Try.prog 80 3 3 3 := ⟨by kernel_rfl⟩
instance : FldT Try.prog 80 4 4 4 := ⟨by kernel_rfl⟩
instance : FldT Try.prog 80 5 3 5 := ⟨by kernel_rfl⟩
instance : FldT Try.prog 80 6 3 6 := ⟨by kernel_rfl⟩
instance : FldT Try.prog 83 0 80 0 := ⟨by kernel_rfl⟩
instance : FldT Try.prog 83 1 60 7 := ⟨by kernel_rfl⟩
instance : FldT Try.prog 83 2 81 9 := ⟨by kernel_rfl⟩
instance : FldT Try.prog 83 3 82 10 := ⟨by kernel_rfl⟩
instance : FldT Try.prog 83 4 3 11 := ⟨by kernel_rfl⟩
instance : FldT Try.prog 84 0 80 0 := ⟨by kernel_rfl⟩
instance : FldT Try.prog 84 1 60 7 := ⟨by kernel_rfl⟩
instance : FldT Try.prog 84 2 81 9 := ⟨by kernel_rfl⟩
instance : FldT Try.prog 84 3 82 10 := ⟨by kernel_rfl⟩
instance : FldT Try.prog 84 4 3 11 := ⟨by kernel_rfl⟩
instance : FldT Try.prog 87 0 3 0 := ⟨by kernel_rfl⟩
instance : FldT Try.prog 87 1 3 1 := ⟨by kernel_rfl⟩
instance : FldT Try.prog 87 2 3 2 := ⟨by kernel_rfl⟩
instance : FldT Try.prog 87 3 3 3 := ⟨by kernel_rfl⟩
instance : FldT Try.prog 87 4 4 4 := ⟨by kernel_rfl⟩
instance : FldT Try.prog 87 5 3 5 := ⟨by kernel_rfl⟩
instance : FldT Try.prog 87 6 3 6 := ⟨by kernel_rfl⟩
instance : FldT Try.prog 90 0 87 0 := ⟨by kernel_rfl⟩
instance : FldT Try.prog 90 1 63 7 := ⟨by kernel_rfl⟩
instance : FldT Try.prog 90 2 88 9 := ⟨by kernel_rfl⟩
instance : FldT Try.prog 90 3 89 10 := ⟨by kernel_rfl⟩
instance : FldT Try.prog 90 4 3 11 := ⟨by kernel_rfl⟩
instance : FldT Try.prog 91 0 87 0 := ⟨by kernel_rfl⟩
instance : FldT Try.prog 91 1 63 7 := ⟨by kernel_rfl⟩
instance : FldT Try.prog 91 2 88 9 := ⟨by kernel_rfl⟩
instance : FldT Try.prog 91 3 89 10 := ⟨by kernel_rfl⟩
instance : FldT Try.prog 91 4 3 11 := ⟨by kernel_rfl⟩
instance : FldT Try.prog 118 0 3 0 := ⟨by kernel_rfl⟩
instance : FldT Try.prog 118 1 9 1 := ⟨by kernel_rfl⟩
instance : FldT Try.prog 118 2 3 2 := ⟨by kernel_rfl⟩
instance : FldT Try.prog 118 3 58 3 := ⟨by kernel_rfl⟩
instance : FldT Try.prog 119 0 3 0 := ⟨by kernel_rfl⟩
instance : FldT Try.prog 119 1 9 1 := ⟨by kernel_rfl⟩
instance : FldT Try.prog 119 2 3 2 := ⟨by kernel_rfl⟩
instance : FldT Try.prog 119 3 58 3 := ⟨by kernel_rfl⟩
instance : FldT Try.prog 133 0 3 0 := ⟨by kernel_rfl⟩
instance : FldT Try.prog 133 1 3 1 := ⟨by kernel_rfl⟩
instance : FldT Try.prog 133 2 3 2 := ⟨by kernel_rfl⟩
instance : FldT Try.prog 133 3 3 3 := ⟨by kernel_rfl⟩
instance : FldT Try.prog 133 4 3 4 := ⟨by kernel_rfl⟩
instance : FldT Try.prog 134 0 3 0 := ⟨by kernel_rfl⟩
instance : FldT Try.prog 134 1 3 1 := ⟨by kernel_rfl⟩
instance : FldT Try.prog 134 2 3 2 := ⟨by kernel_rfl⟩
instance : FldT Try.prog 134 3 3 3 := ⟨by kernel_rfl⟩
instance : FldT Try.prog 134 4 3 4 := ⟨by kernel_rfl⟩
instance : FldT Try.prog 153 0 71 0 := ⟨by kernel_rfl⟩
instance : FldT Try.prog 153 1 71 12 := ⟨by kernel_rfl⟩
instance : FldT Try.prog 153 2 3 24 := ⟨by kernel_rfl⟩
instance : FldT Try.prog 153 3 3 25 := ⟨by kernel_rfl⟩
instance : FldT Try.prog 154 0 71 0 := ⟨by kernel_rfl⟩
instance : FldT Try.prog 154 1 71 12 := ⟨by kernel_rfl⟩
instance : FldT Try.prog 154 2 3 24 := ⟨by kernel_rfl⟩
instance : FldT Try.prog 154 3 3 25 := ⟨by kernel_rfl⟩
instance : FldT Try.prog 167 0 38 0 := ⟨by kernel_rfl⟩
instance : FldT Try.prog 167 1 3 1 := ⟨by kernel_rfl⟩
instance : FldT Try.prog 167 2 3 2 := ⟨by kernel_rfl⟩
instance : FldT Try.prog 168 0 38 0 := ⟨by kernel_rfl⟩
instance : FldT Try.prog 168 1 3 1 := ⟨by kernel_rfl⟩
instance : FldT Try.prog 168 2 3 2 := ⟨by kernel_rfl⟩
instance : FldT Try.prog 173 0 119 0 := ⟨by kernel_rfl⟩
instance : FldT Try.prog 174 0 119 0 := ⟨by kernel_rfl⟩
instance : FldT Try.prog 175 0 119 0 := ⟨by kernel_rfl⟩
instance : FldT Try.prog 177 0 119 0 := ⟨by kernel_rfl⟩
instance : FldT Try.prog 192 0 190 0 := ⟨by kernel_rfl⟩
instance : FldT Try.prog 192 1 191 1 := ⟨by kernel_rfl⟩
instance : FldT Try.prog 193 0 190 0 := ⟨by kernel_rfl⟩
instance : FldT Try.prog 193 1 191 1 := ⟨by kernel_rfl⟩
instance : FldT Try.prog 196 0 57 0 := ⟨by kernel_rfl⟩
instance : FldT Try.prog 196 1 57 12 := ⟨by kernel_rfl⟩
instance : FldT Try.prog 196 2 3 24 := ⟨by kernel_rfl⟩
instance : FldT Try.prog 196 3 3 25 := ⟨by kernel_rfl⟩
instance : FldT Try.prog 197 0 57 0 := ⟨by kernel_rfl⟩
instance : FldT Try.prog 197 1 57 12 := ⟨by kernel_rfl⟩
instance : FldT Try.prog 197 2 3 24 := ⟨by kernel_rfl⟩
instance : FldT Try.prog 197 3 3 25 := ⟨by kernel_rfl⟩
instance : FldT Try.prog 199 0 68 0 := ⟨by kernel_rfl⟩
instance : FldT Try.prog 199 1 68 3 := ⟨by kernel_rfl⟩
instance : FldT Try.prog 200 0 68 0 := ⟨by kernel_rfl⟩
instance : FldT Try.prog 200 1 68 3 := ⟨by kernel_rfl⟩
instance : FldT Try.prog 213 0 209 0 := ⟨by kernel_rfl⟩
instance : FldT Try.prog 213 1 3 1 := ⟨by kernel_rfl⟩
instance : FldT Try.prog 213 2 42 2 := ⟨by kernel_rfl⟩
instance : FldT Try.prog 213 3 3 4 := ⟨by kernel_rfl⟩
instance : FldT Try.prog 214 0 209 0 := ⟨by kernel_rfl⟩
instance : FldT Try.prog 214 1 3 1 := ⟨by kernel_rfl⟩
instance : FldT Try.prog 214 2 42 2 := ⟨by kernel_rfl⟩
instance : FldT Try.prog 214 3 3 4 := ⟨by kernel_rfl⟩
instance : FldT Try.prog 215 0 3 0 := ⟨by kernel_rfl⟩
instance : FldT Try.prog 215 1 9 1 := ⟨by kernel_rfl⟩
instance : FldT Try.prog 215 2 3 2 := ⟨by kernel_rfl⟩
instance : FldT Try.prog 215 3 3 3 := ⟨by kernel_rfl⟩
instance : FldT Try.prog 216 0 3 0 := ⟨by kernel_rfl⟩
instance : FldT Try.prog 216 1 9 1 := ⟨by kernel_rfl⟩
instance : FldT Try.prog 216 2 3 2 := ⟨by kernel_rfl⟩
instance : FldT Try.prog 216 3 3 3 := ⟨by kernel_rfl⟩
instance : FldT Try.prog 257 0 3 0 := ⟨by kernel_rfl⟩
instance : FldT Try.prog 257 1 9 1 := ⟨by kernel_rfl⟩
instance : FldT Try.prog 257 2 3 2 := ⟨by kernel_rfl⟩
instance : FldT Try.prog 257 3 58 3 := ⟨by kernel_rfl⟩
instance : FldT Try.prog 259 0 9 0 := ⟨by kernel_rfl⟩
instance : FldT Try.prog 259 1 3 1 := ⟨by kernel_rfl⟩
instance : FldT Try.prog 286 0 17 0 := ⟨by kernel_rfl⟩
instance : FldT Try.prog 286 1 17 1 := ⟨by kernel_rfl⟩
instance : FldT Try.prog 286 2 17 2 := ⟨by kernel_rfl⟩
instance : FldT Try.prog 286 3 9 3 := ⟨by kernel_rfl⟩
instance : FldT Try.prog 287 0 17 0 := ⟨by kernel_rfl⟩
instance : FldT Try.prog 287 1 17 1 := ⟨by kernel_rfl⟩
instance : FldT Try.prog 287 2 17 2 := ⟨by kernel_rfl⟩
instance : FldT Try.prog 287 3 9 3 := ⟨by kernel_rfl⟩
instance : FldT Try.prog 289 0 288 0 := ⟨by kernel_rfl⟩
instance : FldT Try.prog 290 0 288 0 := ⟨by kernel_rfl⟩
instance : FldT Try.prog 298 0 12 0 := ⟨by kernel_rfl⟩
instance : FldT Try.prog 298 1 12 1 := ⟨by kernel_rfl⟩
instance : FldT Try.prog 298 2 246 2 := ⟨by kernel_rfl⟩
instance : FldT Try.prog 298 3 292 3 := ⟨by kernel_rfl⟩
instance : FldT Try.prog 298 4 5 4 := ⟨by kernel_rfl⟩
instance : FldT Try.prog 298 5 5 5 := ⟨by kernel_rfl⟩
instance : FldT Try.prog 298 6 293 6 := ⟨by kernel_rfl⟩
instance : FldT Try.prog 298 7 294 7 := ⟨by kernel_rfl⟩
instance : FldT Try.prog 298 8 295 8 := ⟨by kernel_rfl⟩
instance : FldT Try.prog 298 9 296 9 := ⟨by kernel_rfl⟩
instance : FldT Try.prog 298 10 297 10 := ⟨by kernel_rfl⟩
instance : FldT Try.prog 299 0 12 0 := ⟨by kernel_rfl⟩
instance : FldT Try.prog 299 1 12 1 := ⟨by kernel_rfl⟩
instance : FldT Try.prog 299 2 246 2 := ⟨by kernel_rfl⟩
instance : FldT Try.prog 299 3 292 3 := ⟨by kernel_rfl⟩
instance : FldT Try.prog 299 4 5 4 := ⟨by kernel_rfl⟩
instance : FldT Try.prog 299 5 5 5 := ⟨by kernel_rfl⟩
instance : FldT Try.prog 299 6 293 6 := ⟨by kernel_rfl⟩
instance : FldT Try.prog 299 7 294 7 := ⟨by kernel_rfl⟩
instance : FldT Try.prog 299 8 295 8 := ⟨by kernel_rfl⟩
instance : FldT Try.prog 299 9 296 9 := ⟨by kernel_rfl⟩
instance : FldT Try.prog 299 10 297 10 := ⟨by kernel_rfl⟩
end Go.Proofs.Ytcdjneiaoikpnaa.St
