/-
  Fields of values that are structs.
-/
import Derived.Test.YtgphmhjnnppbnaaEqs
import Derived.Test.YtgphmhjnnppbnaaStOwn
set_option linter.unusedSimpArgs false
set_option linter.unusedVariables false
namespace Go.Proofs.Ytgphmhjnnppbnaa.St
open Go.RowKit
def fldTB (P : Program) (t : TypeId) (k ft off : Nat) : Bool :=
  match P.underlying t with
  | some (.struct fs) => match fs[k]? with
    | some f => f.type == ft && f.offset == off
    | none => false
  | _ => false
class FldT (P : Program) (t : TypeId) (k : Nat) (ft off : outParam Nat) : Prop where
  out : fldTB P t k ft off = true
section
variable {P : Program} {E : Env} {w : World} {Φ : Value → World → Prop} {ty t : TypeId} {x : Operand}
theorem fldT_parts {k ft off : Nat} [h : FldT P t k ft off] : ∃ fs f, P.underlying t = some (.struct fs) ∧ fs[k]? = some f ∧ f.type = ft ∧ f.offset = off := by
  have := h.out
  unfold fldTB at this
  split at this
  · rename_i fs hfs
    split at this
    · rename_i f hf
      simp only [Bool.and_eq_true, beq_iff_eq] at this
      exact ⟨fs, f, hfs, hf, this.1, this.2⟩
    · cases this
  · cases this
theorem does_fieldV1 {n ft off : Nat} {cs : List Value} {u : Value} [FldT P t n ft off] [Scalar P ft] (hx : ev E x = some (.agg cs.toArray)) (hu : cs[off]? = some u) (k : Φ u w) : Does P (.field t x n) ty E w Φ := by
  obtain ⟨fs, f, h1, h2, h3, h4⟩ := fldT_parts (P := P) (t := t) (k := n) (ft := ft) (off := off)
  subst h3 h4
  refine does_fieldV (off := 0) hx (fun w => ?_) k
  simp only [Instr.field, Sem.run_bind, run_underlying h1, Result.andThen_ok, h2]
  simp [part, run_isAggF (P := P) (t := f.type), asAgg, hu]
theorem does_fieldVA {n ft off s : Nat} {cs : List Value} [FldT P t n ft off] [Aggr P ft s] (hx : ev E x = some (.agg cs.toArray)) (k : Φ (.agg ((cs.drop off).take s).toArray) w) : Does P (.field t x n) ty E w Φ := by
  obtain ⟨fs, f, h1, h2, h3, h4⟩ := fldT_parts (P := P) (t := t) (k := n) (ft := ft) (off := off)
  subst h3 h4
  refine does_fieldV (off := 0) hx (fun w => ?_) k
  simp only [Instr.field, Sem.run_bind, run_underlying h1, Result.andThen_ok, h2]
  simp [part, asAgg, run_isAggT (P := P) (t := f.type), run_aggSize (P := P) (t := f.type), List.extract_eq_take_drop]
end
instance : FldT Try.prog 7 0 2 0 := ⟨by kernel_rfl⟩
instance : FldT Try.prog 7 1 3 1 := ⟨by kernel_rfl⟩
instance : FldT Try.prog 7 2 4 2 := ⟨by kernel_rfl⟩
instance : FldT Try.prog 7 3 6 3 := ⟨by kernel_rfl⟩
instance : FldT Try.prog 8 0 2 0 := ⟨by kernel_rfl⟩
instance : FldT Try.prog 8 1 3 1 := ⟨by kernel_rfl⟩
instance : FldT Try.prog 8 2 4 2 := ⟨by kernel_rfl⟩
instance : FldT Try.prog 8 3 6 3 := ⟨by kernel_rfl⟩
instance : FldT Try.prog 13 0 9 0 := ⟨by kernel_rfl⟩
instance : FldT Try.prog 13 1 12 1 := ⟨by kernel_rfl⟩
instance : FldT Try.prog 14 0 9 0 := ⟨by kernel_rfl⟩
instance : FldT Try.prog 14 1 12 1 := ⟨by kernel_rfl⟩
instance : FldT Try.prog 18 0 17 0 := ⟨by kernel_rfl⟩
instance : FldT Try.prog 19 0 17 0 := ⟨by kernel_rfl⟩
instance : FldT Try.prog 22 0 3 0 := ⟨by kernel_rfl⟩
instance : FldT Try.prog 22 1 3 1 := ⟨by kernel_rfl⟩
instance : FldT Try.prog 22 2 3 2 := ⟨by kernel_rfl⟩
instance : FldT Try.prog 22 3 3 3 := ⟨by kernel_rfl⟩
instance : FldT Try.prog 22 4 4 4 := ⟨by kernel_rfl⟩
instance : FldT Try.prog 22 5 3 5 := ⟨by kernel_rfl⟩
instance : FldT Try.prog 22 6 3 6 := ⟨by kernel_rfl⟩
instance : FldT Try.prog 23 0 3 0 := ⟨by kernel_rfl⟩
instance : FldT Try.prog 23 1 3 1 := ⟨by kernel_rfl⟩
instance : FldT Try.prog 23 2 3 2 := ⟨by kernel_rfl⟩
instance : FldT Try.prog 23 3 3 3 := ⟨by kernel_rfl⟩
instance : FldT Try.prog 23 4 4 4 := ⟨by kernel_rfl⟩
instance : FldT Try.prog 23 5 3 5 := ⟨by kernel_rfl⟩
instance : FldT Try.prog 23 6 3 6 := ⟨by kernel_rfl⟩
instance : FldT Try.prog 26 0 3 0 := ⟨by kernel_rfl⟩
instance : FldT Try.prog 26 1 3 1 := ⟨by kernel_rfl⟩
instance : FldT Try.prog 26 2 3 2 := ⟨by kernel_rfl⟩
instance : FldT Try.prog 26 3 3 3 := ⟨by kernel_rfl⟩
instance : FldT Try.prog 26 4 4 4 := ⟨by kernel_rfl⟩
instance : FldT Try.prog 26 5 3 5 := ⟨by kernel_rfl⟩
instance : FldT Try.prog 26 6 3 6 := ⟨by kernel_rfl⟩
instance : FldT Try.prog 31 0 3 0 := ⟨by kernel_rfl⟩
instance : FldT Try.prog 31 1 3 1 := ⟨by kernel_rfl⟩
instance : FldT Try.prog 31 2 3 2 := ⟨by kernel_rfl⟩
instance : FldT Try.prog 32 0 3 0 := ⟨by kernel_rfl⟩
instance : FldT Try.prog 32 1 3 1 := ⟨by kernel_rfl⟩
instance : FldT Try.prog 32 2 3 2 := ⟨by kernel_rfl⟩
instance : FldT Try.prog 34 0 33 0 := ⟨by kernel_rfl⟩
instance : FldT Try.prog 35 0 33 0 := ⟨by kernel_rfl⟩
instance : FldT Try.prog 37 0 3 0 := ⟨by kernel_rfl⟩
instance : FldT Try.prog 37 1 36 1 := ⟨by kernel_rfl⟩
instance : FldT Try.prog 38 0 3 0 := ⟨by kernel_rfl⟩
instance : FldT Try.prog 38 1 36 1 := ⟨by kernel_rfl⟩
instance : FldT Try.prog 41 0 3 0 := ⟨by kernel_rfl⟩
instance : FldT Try.prog 41 1 36 1 := ⟨by kernel_rfl⟩
instance : FldT Try.prog 42 0 3 0 := ⟨by kernel_rfl⟩
instance : FldT Try.prog 42 1 40 1 := ⟨by kernel_rfl⟩
instance : FldT Try.prog 42 2 3 2 := ⟨by kernel_rfl⟩
instance : FldT Try.prog 42 3 41 3 := ⟨by kernel_rfl⟩
instance : FldT Try.prog 43 0 3 0 := ⟨by kernel_rfl⟩
instance : FldT Try.prog 43 1 40 1 := ⟨by kernel_rfl⟩
instance : FldT Try.prog 43 2 3 2 := ⟨by kernel_rfl⟩
instance : FldT Try.prog 43 3 41 3 := ⟨by kernel_rfl⟩
instance : FldT Try.prog 46 0 3 0 := ⟨by kernel_rfl⟩
instance : FldT Try.prog 46 1 3 1 := ⟨by kernel_rfl⟩
instance : FldT Try.prog 46 2 3 2 := ⟨by kernel_rfl⟩
instance : FldT Try.prog 48 0 47 0 := ⟨by kernel_rfl⟩
instance : FldT Try.prog 49 0 47 0 := ⟨by kernel_rfl⟩
instance : FldT Try.prog 59 0 23 0 := ⟨by kernel_rfl⟩
instance : FldT Try.prog 59 1 38 7 := ⟨by kernel_rfl⟩
instance : FldT Try.prog 59 2 57 9 := ⟨by kernel_rfl⟩
instance : FldT Try.prog 59 3 58 10 := ⟨by kernel_rfl⟩
instance : FldT Try.prog 59 4 3 11 := ⟨by kernel_rfl⟩
instance : FldT Try.prog 60 0 23 0 := ⟨by kernel_rfl⟩
instance : FldT Try.prog 60 1 38 7 := ⟨by kernel_rfl⟩
instance : FldT Try.prog 60 2 57 9 := ⟨by kernel_rfl⟩
instance : FldT Try.prog 60 3 58 10 := ⟨by kernel_rfl⟩
instance : FldT Try.prog 60 4 3 11 := ⟨by kernel_rfl⟩
instance : FldT Try.prog 65 0 26 0 := ⟨by kernel_rfl⟩
instance : FldT Try.prog 65 1 41 7 := ⟨by kernel_rfl⟩
instance : FldT Try.prog 65 2 63 9 := ⟨by kernel_rfl⟩
instance : FldT Try.prog 65 3 64 10 := ⟨by kernel_rfl⟩
instance : FldT Try.prog 65 4 3 11 := ⟨by kernel_rfl⟩
instance : FldT Try.prog 66 0 26 0 := ⟨by kernel_rfl⟩
instance : FldT Try.prog 66 1 41 7 := ⟨by kernel_rfl⟩
instance : FldT Try.prog 66 2 63 9 := ⟨by kernel_rfl⟩
instance : FldT Try.prog 66 3 64 10 := ⟨by kernel_rfl⟩
instance : FldT Try.prog 66 4 3 11 := ⟨by kernel_rfl⟩
instance : FldT Try.prog 71 0 69 0 := ⟨by kernel_rfl⟩
instance : FldT Try.prog 71 1 70 1 := ⟨by kernel_rfl⟩
instance : FldT Try.prog 72 0 69 0 := ⟨by kernel_rfl⟩
instance : FldT Try.prog 72 1 70 1 := ⟨by kernel_rfl⟩
instance : FldT Try.prog 77 0 75 0 := ⟨by kernel_rfl⟩
instance : FldT Try.prog 77 1 76 1 := ⟨by kernel_rfl⟩
instance : FldT Try.prog 78 0 75 0 := ⟨by kernel_rfl⟩
instance : FldT Try.prog 78 1 76 1 := ⟨by kernel_rfl⟩
instance : FldT Try.prog 85 0 3 0 := ⟨by kernel_rfl⟩
instance : FldT Try.prog 85 1 84 1 := ⟨by kernel_rfl⟩
instance : FldT Try.prog 85 2 3 2 := ⟨by kernel_rfl⟩
instance : FldT Try.prog 86 0 3 0 := ⟨by kernel_rfl⟩
instance : FldT Try.prog 86 1 84 1 := ⟨by kernel_rfl⟩
instance : FldT Try.prog 86 2 3 2 := ⟨by kernel_rfl⟩
instance : FldT Try.prog 87 0 3 0 := ⟨by kernel_rfl⟩
instance : FldT Try.prog 87 1 3 1 := ⟨by kernel_rfl⟩
instance : FldT Try.prog 87 2 3 2 := ⟨by kernel_rfl⟩
instance : FldT Try.prog 88 0 3 0 := ⟨by kernel_rfl⟩
instance : FldT Try.prog 88 1 3 1 := ⟨by kernel_rfl⟩
instance : FldT Try.prog 88 2 3 2 := ⟨by kernel_rfl⟩
instance : FldT Try.prog 91 0 3 0 := ⟨by kernel_rfl⟩
instance : FldT Try.prog 91 1 90 1 := ⟨by kernel_rfl⟩
instance : FldT Try.prog 91 2 3 2 := ⟨by kernel_rfl⟩
instance : FldT Try.prog 92 0 3 0 := ⟨by kernel_rfl⟩
instance : FldT Try.prog 92 1 90 1 := ⟨by kernel_rfl⟩
instance : FldT Try.prog 92 2 3 2 := ⟨by kernel_rfl⟩
instance : FldT Try.prog 95 0 3 0 := ⟨by kernel_rfl⟩
instance : FldT Try.prog 95 1 3 1 := ⟨by kernel_rfl⟩
instance : FldT Try.prog 95 2 3 2 := ⟨by kernel_rfl⟩
instance : FldT Try.prog 105 0 9 0 := ⟨by kernel_rfl⟩
instance : FldT Try.prog 105 1 3 1 := ⟨by kernel_rfl⟩
instance : FldT Try.prog 106 0 9 0 := ⟨by kernel_rfl⟩
instance : FldT Try.prog 106 1 3 1 := ⟨by kernel_rfl⟩
instance : FldT Try.prog 111 0 109 0 := ⟨by kernel_rfl⟩
instance : FldT Try.prog 111 1 110 1 := ⟨by kernel_rfl⟩
instance : FldT Try.prog 112 0 109 0 := ⟨by kernel_rfl⟩
instance : FldT Try.prog 112 1 110 1 := ⟨by kernel_rfl⟩
instance : FldT Try.prog 115 0 114 0 := ⟨by kernel_rfl⟩
instance : FldT Try.prog 115 1 110 1 := ⟨by kernel_rfl⟩
instance : FldT Try.prog 116 0 114 0 := ⟨by kernel_rfl⟩
instance : FldT Try.prog 116 1 110 1 := ⟨by kernel_rfl⟩
instance : FldT Try.prog 135 0 3 0 := ⟨by kernel_rfl⟩
instance : FldT Try.prog 135 1 3 1 := ⟨by kernel_rfl⟩
instance : FldT Try.prog 135 2 3 2 := ⟨by kernel_rfl⟩
instance : FldT Try.prog 135 3 3 3 := ⟨by kernel_rfl⟩
instance : FldT Try.prog 136 0 3 0 := ⟨by kernel_rfl⟩
instance : FldT Try.prog 136 1 3 1 := ⟨by kernel_rfl⟩
instance : FldT Try.prog 136 2 3 2 := ⟨by kernel_rfl⟩
instance : FldT Try.prog 136 3 3 3 := ⟨by kernel_rfl⟩
instance : FldT Try.prog 143 0 3 0 := ⟨by kernel_rfl⟩
instance : FldT Try.prog 143 1 3 1 := ⟨by kernel_rfl⟩
instance : FldT Try.prog 143 2 3 2 := ⟨by kernel_rfl⟩
instance : FldT Try.prog 143 3 3 3 := ⟨by kernel_rfl⟩
instance : FldT Try.prog 143 4 3 4 := ⟨by kernel_rfl⟩
instance : FldT Try.prog 144 0 3 0 := ⟨by kernel_rfl⟩
instance : FldT Try.prog 144 1 3 1 := ⟨by kernel_rfl⟩
instance : FldT Try.prog 144 2 3 2 := ⟨by kernel_rfl⟩
instance : FldT Try.prog 144 3 3 3 := ⟨by kernel_rfl⟩
instance : FldT Try.prog 144 4 3 4 := ⟨by kernel_rfl⟩
instance : FldT Try.prog 154 0 49 0 := ⟨by kernel_rfl⟩
instance : FldT Try.prog 154 1 49 12 := ⟨by kernel_rfl⟩
instance : FldT Try.prog 154 2 3 24 := ⟨by kernel_rfl⟩
instance : FldT Try.prog 154 3 3 25 := ⟨by kernel_rfl⟩
instance : FldT Try.prog 155 0 49 0 := ⟨by kernel_rfl⟩
instance : FldT Try.prog 155 1 49 12 := ⟨by kernel_rfl⟩
instance : FldT Try.prog 155 2 3 24 := ⟨by kernel_rfl⟩
instance : FldT Try.prog 155 3 3 25 := ⟨by kernel_rfl⟩
instance : FldT Try.prog 189 0 3 0 := ⟨by kernel_rfl⟩
instance : FldT Try.prog 189 1 9 1 := ⟨by kernel_rfl⟩
instance : FldT Try.prog 189 2 3 2 := ⟨by kernel_rfl⟩
instance : FldT Try.prog 189 3 36 3 := ⟨by kernel_rfl⟩
instance : FldT Try.prog 190 0 3 0 := ⟨by kernel_rfl⟩
instance : FldT Try.prog 190 1 9 1 := ⟨by kernel_rfl⟩
instance : FldT Try.prog 190 2 3 2 := ⟨by kernel_rfl⟩
instance : FldT Try.prog 190 3 36 3 := ⟨by kernel_rfl⟩
instance : FldT Try.prog 200 0 3 0 := ⟨by kernel_rfl⟩
instance : FldT Try.prog 200 1 9 1 := ⟨by kernel_rfl⟩
instance : FldT Try.prog 200 2 3 2 := ⟨by kernel_rfl⟩
instance : FldT Try.prog 201 0 3 0 := ⟨by kernel_rfl⟩
instance : FldT Try.prog 201 1 9 1 := ⟨by kernel_rfl⟩
instance : FldT Try.prog 201 2 3 2 := ⟨by kernel_rfl⟩
instance : FldT Try.prog 239 0 35 0 := ⟨by kernel_rfl⟩
instance : FldT Try.prog 239 1 35 12 := ⟨by kernel_rfl⟩
instance : FldT Try.prog 239 2 3 24 := ⟨by kernel_rfl⟩
instance : FldT Try.prog 239 3 3 25 := ⟨by kernel_rfl⟩
instance : FldT Try.prog 240 0 35 0 := ⟨by kernel_rfl⟩
instance : FldT Try.prog 240 1 35 12 := ⟨by kernel_rfl⟩
instance : FldT Try.prog 240 2 3 24 := ⟨by kernel_rfl⟩
instance : FldT Try.prog 240 3 3 25 := ⟨by kernel_rfl⟩
instance : FldT Try.prog 245 0 3 0 := ⟨by kernel_rfl⟩
instance : FldT Try.prog 245 1 9 1 := ⟨by kernel_rfl⟩
instance : FldT Try.prog 245 2 3 2 := ⟨by kernel_rfl⟩
instance : FldT Try.prog 245 3 36 3 := ⟨by kernel_rfl⟩
instance : FldT Try.prog 247 0 9 0 := ⟨by kernel_rfl⟩
instance : FldT Try.prog 247 1 3 1 := ⟨by kernel_rfl⟩
instance : FldT Try.prog 260 0 100 0 := ⟨by kernel_rfl⟩
instance : FldT Try.prog 260 1 3 1 := ⟨by kernel_rfl⟩
instance : FldT Try.prog 260 2 3 2 := ⟨by kernel_rfl⟩
instance : FldT Try.prog 261 0 100 0 := ⟨by kernel_rfl⟩
instance : FldT Try.prog 261 1 3 1 := ⟨by kernel_rfl⟩
instance : FldT Try.prog 261 2 3 2 := ⟨by kernel_rfl⟩
instance : FldT Try.prog 265 0 190 0 := ⟨by kernel_rfl⟩
instance : FldT Try.prog 266 0 190 0 := ⟨by kernel_rfl⟩
instance : FldT Try.prog 267 0 190 0 := ⟨by kernel_rfl⟩
instance : FldT Try.prog 268 0 190 0 := ⟨by kernel_rfl⟩
instance : FldT Try.prog 271 0 3 0 := ⟨by kernel_rfl⟩
instance : FldT Try.prog 271 1 9 1 := ⟨by kernel_rfl⟩
instance : FldT Try.prog 271 2 3 2 := ⟨by kernel_rfl⟩
instance : FldT Try.prog 285 0 46 0 := ⟨by kernel_rfl⟩
instance : FldT Try.prog 285 1 46 3 := ⟨by kernel_rfl⟩
instance : FldT Try.prog 286 0 46 0 := ⟨by kernel_rfl⟩
instance : FldT Try.prog 286 1 46 3 := ⟨by kernel_rfl⟩
instance : FldT Try.prog 299 0 295 0 := ⟨by kernel_rfl⟩
instance : FldT Try.prog 299 1 3 1 := ⟨by kernel_rfl⟩
instance : FldT Try.prog 299 2 78 2 := ⟨by kernel_rfl⟩
instance : FldT Try.prog 299 3 3 4 := ⟨by kernel_rfl⟩
instance : FldT Try.prog 300 0 295 0 := ⟨by kernel_rfl⟩
instance : FldT Try.prog 300 1 3 1 := ⟨by kernel_rfl⟩
instance : FldT Try.prog 300 2 78 2 := ⟨by kernel_rfl⟩
instance : FldT Try.prog 300 3 3 4 := ⟨by kernel_rfl⟩
instance : FldT Try.prog 301 0 3 0 := ⟨by kernel_rfl⟩
instance : FldT Try.prog 301 1 9 1 := ⟨by kernel_rfl⟩
instance : FldT Try.prog 301 2 3 2 := ⟨by kernel_rfl⟩
instance : FldT Try.prog 301 3 3 3 := ⟨by kernel_rfl⟩
instance : FldT Try.prog 302 0 3 0 := ⟨by kernel_rfl⟩
instance : FldT Try.prog 302 1 9 1 := ⟨by kernel_rfl⟩
instance : FldT Try.prog 302 2 3 2 := ⟨by kernel_rfl⟩
instance : FldT Try.prog 302 3 3 3 := ⟨by kernel_rfl⟩
instance : FldT Try.prog 355 0 17 0 := ⟨by kernel_rfl⟩
instance : FldT Try.prog 355 1 17 1 := ⟨by kernel_rfl⟩
instance : FldT Try.prog 355 2 17 2 := ⟨by kernel_rfl⟩
instance : FldT Try.prog 355 3 9 3 := ⟨by kernel_rfl⟩
instance : FldT Try.prog 356 0 17 0 := ⟨by kernel_rfl⟩
instance : FldT Try.prog 356 1 17 1 := ⟨by kernel_rfl⟩
instance : FldT Try.prog 356 2 17 2 := ⟨by kernel_rfl⟩
instance : FldT Try.prog 356 3 9 3 := ⟨by kernel_rfl⟩
instance : FldT Try.prog 358 0 357 0 := ⟨by kernel_rfl⟩
instance : FldT Try.prog 359 0 357 0 := ⟨by kernel_rfl⟩
instance : FldT Try.prog 367 0 12 0 := ⟨by kernel_rfl⟩
instance : FldT Try.prog 367 1 12 1 := ⟨by kernel_rfl⟩
instance : FldT Try.prog 367 2 325 2 := ⟨by kernel_rfl⟩
instance : FldT Try.prog 367 3 361 3 := ⟨by kernel_rfl⟩
instance : FldT Try.prog 367 4 5 4 := ⟨by kernel_rfl⟩
instance : FldT Try.prog 367 5 5 5 := ⟨by kernel_rfl⟩
instance : FldT Try.prog 367 6 362 6 := ⟨by kernel_rfl⟩
instance : FldT Try.prog 367 7 363 7 := ⟨by kernel_rfl⟩
instance : FldT Try.prog 367 8 364 8 := ⟨by kernel_rfl⟩
instance : FldT Try.prog 367 9 365 9 := ⟨by kernel_rfl⟩
instance : FldT Try.prog 367 10 366 10 := ⟨by kernel_rfl⟩
instance : FldT Try.prog 368 0 12 0 := ⟨by kernel_rfl⟩
instance : FldT Try.prog 368 1 12 1 := ⟨by kernel_rfl⟩
instance : FldT Try.prog 368 2 325 2 := ⟨by kernel_rfl⟩
instance : FldT Try.prog 368 3 361 3 := ⟨by kernel_rfl⟩
instance : FldT Try.prog 368 4 5 4 := ⟨by kernel_rfl⟩
instance : FldT Try.prog 368 5 5 5 := ⟨by kernel_rfl⟩
instance : FldT Try.prog 368 6 362 6 := ⟨by kernel_rfl⟩
instance : FldT Try.prog 368 7 363 7 := ⟨by kernel_rfl⟩
instance : FldT Try.prog 368 8 364 8 := ⟨by kernel_rfl⟩
instance : FldT Try.prog 368 9 365 9 := ⟨by kernel_rfl⟩
instance : FldT Try.prog 368 10 366 10 := ⟨by kernel_rfl⟩
end Go.Proofs.Ytgphmhjnnppbnaa.St
