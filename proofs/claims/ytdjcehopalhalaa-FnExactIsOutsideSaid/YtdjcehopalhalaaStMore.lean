/-
  Fields of values that are structs.
-/
import Derived.Test.YtdjcehopalhalaaEqs
import Derived.Test.YtdjcehopalhalaaStOwn
set_option linter.unusedSimpArgs false
set_option linter.unusedVariables false
namespace Go.Proofs.Ytdjcehopalhalaa.St
open Go.RowKit
def fldTB (P : Program) (t : TypeId) (k ft off : Nat) : Bool :=
  match P.underlying t with
  | some (.struct fs) => match fs[k]? with
    | some f => f.type == ft && f.offset == off
    | none => false
  | _ => false
class FldT (P : Program) (t : TypeId) (k : Nat) (ft off : outParam Nat) : Prop where
  out : fldTB P t k ft off = true
section
variable {P : Program} {E : Env} {w : World} {Φ : Value → World → Prop} {ty t : TypeId} {x : Operand}
theorem fldT_parts {k ft off : Nat} [h : FldT P t k ft off] : ∃ fs f, P.underlying t = some (.struct fs) ∧ fs[k]? = some f ∧ f.type = ft ∧ f.offset = off := by
  have := h.out
  unfold fldTB at this
  split at this
  · rename_i fs hfs
    split at this
    · rename_i f hf
      simp only [Bool.and_eq_true, beq_iff_eq] at this
      exact ⟨fs, f, hfs, hf, this.1, this.2⟩
    · cases this
  · cases this
theorem does_fieldV1 {n ft off : Nat} {cs : List Value} {u : Value} [FldT P t n ft off] [Scalar P ft] (hx : ev E x = some (.agg cs.toArray)) (hu : cs[off]? = some u) (k : Φ u w) : Does P (.field t x n) ty E w Φ := by
  obtain ⟨fs, f, h1, h2, h3, h4⟩ := fldT_parts (P := P) (t := t) (k := n) (ft := ft) (off := off)
  subst h3 h4
  refine does_fieldV (off := 0) hx (fun w => ?_) k
  simp only [Instr.field, Sem.run_bind, run_underlying h1, Result.andThen_ok, h2]
  simp [part, run_isAggF (P := P) (t := f.type), asAgg, hu]
theorem does_fieldVA {n ft off s : Nat} {cs : List Value} [FldT P t n ft off] [Aggr P ft s] (hx : ev E x = some (.agg cs.toArray)) (k : Φ (.agg ((cs.drop off).take s).toArray) w) : Does P (.field t x n) ty E w Φ := by
  obtain ⟨fs, f, h1, h2, h3, h4⟩ := fldT_parts (P := P) (t := t) (k := n) (ft := ft) (off := off)
  subst h3 h4
  refine does_fieldV (off := 0) hx (fun w => ?_) k
  simp only [Instr.field, Sem.run_bind, run_underlying h1, Result.andThen_ok, h2]
  simp [part, asAgg, run_isAggT (P := P) (t := f.type), run_aggSize (P := P) (t := f.type), List.extract_eq_take_drop]
end
instance : FldT Try.prog 7 0 2 0 := ⟨by kernel_rfl⟩
instance : FldT Try.prog 7 1 3 1 := ⟨by kernel_rfl⟩
instance : FldT Try.prog 7 2 4 2 := ⟨by kernel_rfl⟩
instance : FldT Try.prog 7 3 6 3 := ⟨by kernel_rfl⟩
instance : FldT Try.prog 8 0 2 0 := ⟨by kernel_rfl⟩
instance : FldT Try.prog 8 1 3 1 := ⟨by kernel_rfl⟩
instance : FldT Try.prog 8 2 4 2 := ⟨by kernel_rfl⟩
instance : FldT Try.prog 8 3 6 3 := ⟨by kernel_rfl⟩
instance : FldT Try.prog 13 0 9 0 := ⟨by kernel_rfl⟩
instance : FldT Try.prog 13 1 12 1 := ⟨by kernel_rfl⟩
instance : FldT Try.prog 14 0 9 0 := ⟨by kernel_rfl⟩
instance : FldT Try.prog 14 1 12 1 := ⟨by kernel_rfl⟩
instance : FldT Try.prog 18 0 17 0 := ⟨by kernel_rfl⟩
instance : FldT Try.prog 19 0 17 0 := ⟨by kernel_rfl⟩
instance : FldT Try.prog 27 0 3 0 := ⟨by kernel_rfl⟩
instance : FldT Try.prog 27 1 3 1 := ⟨by kernel_rfl⟩
instance : FldT Try.prog 27 2 3 2 := ⟨by kernel_rfl⟩
instance : FldT Try.prog 28 0 3 0 := ⟨by kernel_rfl⟩
instance : FldT Try.prog 28 1 3 1 := ⟨by kernel_rfl⟩
instance : FldT Try.prog 28 2 3 2 := ⟨by kernel_rfl⟩
instance : FldT Try.prog 30 0 29 0 := ⟨by kernel_rfl⟩
instance : FldT Try.prog 31 0 29 0 := ⟨by kernel_rfl⟩
instance : FldT Try.prog 42 0 3 0 := ⟨by kernel_rfl⟩
instance : FldT Try.prog 42 1 3 1 := ⟨by kernel_rfl⟩
instance : FldT Try.prog 42 2 3 2 := ⟨by kernel_rfl⟩
instance : FldT Try.prog 42 3 3 3 := ⟨by kernel_rfl⟩
instance : FldT Try.prog 42 4 3 4 := ⟨by kernel_rfl⟩
instance : FldT Try.prog 43 0 3 0 := ⟨by kernel_rfl⟩
instance : FldT Try.prog 43 1 3 1 := ⟨by kernel_rfl⟩
instance : FldT Try.prog 43 2 3 2 := ⟨by kernel_rfl⟩
instance : FldT Try.prog 43 3 3 3 := ⟨by kernel_rfl⟩
instance : FldT Try.prog 43 4 3 4 := ⟨by kernel_rfl⟩
instance : FldT Try.prog 50 0 48 0 := ⟨by kernel_rfl⟩
instance : FldT Try.prog 50 1 49 1 := ⟨by kernel_rfl⟩
instance : FldT Try.prog 51 0 48 0 := ⟨by kernel_rfl⟩
instance : FldT Try.prog 51 1 49 1 := ⟨by kernel_rfl⟩
instance : FldT Try.prog 55 0 54 0 := ⟨by kernel_rfl⟩
instance : FldT Try.prog 55 1 49 1 := ⟨by kernel_rfl⟩
instance : FldT Try.prog 56 0 54 0 := ⟨by kernel_rfl⟩
instance : FldT Try.prog 56 1 49 1 := ⟨by kernel_rfl⟩
instance : FldT Try.prog 66 0 3 0 := ⟨by kernel_rfl⟩
instance : FldT Try.prog 66 1 3 1 := ⟨by kernel_rfl⟩
instance : FldT Try.prog 66 2 3 2 := ⟨by kernel_rfl⟩
instance : FldT Try.prog 66 3 3 3 := ⟨by kernel_rfl⟩
instance : FldT Try.prog 66 4 3 4 := ⟨by kernel_rfl⟩
instance : FldT Try.prog 74 0 28 0 := ⟨by kernel_rfl⟩
instance : FldT Try.prog 74 1 28 3 := ⟨by kernel_rfl⟩
instance : FldT Try.prog 75 0 28 0 := ⟨by kernel_rfl⟩
instance : FldT Try.prog 75 1 28 3 := ⟨by kernel_rfl⟩
instance : FldT Try.prog 78 0 3 0 := ⟨by kernel_rfl⟩
instance : FldT Try.prog 78 1 3 1 := ⟨by kernel_rfl⟩
instance : FldT Try.prog 78 2 3 2 := ⟨by kernel_rfl⟩
instance : FldT Try.prog 78 3 3 3 := ⟨by kernel_rfl⟩
instance : FldT Try.prog 78 4 4 4 := ⟨by kernel_rfl⟩
instance : FldT Try.prog 78 5 3 5 := ⟨by kernel_rfl⟩
instance : FldT Try.prog 78 6 3 6 := ⟨by kernel_rfl⟩
instance : FldT Try.prog 79 0 3 0 := ⟨by kernel_rfl⟩
instance : FldT Try.prog 79 1 3 1 := ⟨by kernel_rfl⟩
instance : FldT Try.prog 79 2 3 2 := ⟨by kernel_rfl⟩
instance : FldT Try.prog 79 3 3 3 := ⟨by kernel_rfl⟩
instance : FldT Try.prog 79 4 4 4 := ⟨by kernel_rfl⟩
instance : FldT Try.prog 79 5 3 5 := ⟨by kernel_rfl⟩
instance : FldT Try.prog 79 6 3 6 := ⟨by kernel_rfl⟩
instance : FldT Try.prog 80 0 3 0 := ⟨by kernel_rfl⟩
instance : FldT Try.prog 80 1 3 1 := ⟨by kernel_rfl⟩
instance : FldT Try.prog 80 2 3 2 := ⟨by kernel_rfl⟩
instance : FldT Try.prog 81 0 80 0 := ⟨by kernel_rfl⟩
instance : FldT Try.prog 81 1 80 3 := ⟨by kernel_rfl⟩
instance : FldT Try.prog 82 0 80 0 := ⟨by kernel_rfl⟩
instance : FldT Try.prog 82 1 80 3 := ⟨by kernel_rfl⟩
instance : FldT Try.prog 85 0 3 0 := ⟨by kernel_rfl⟩
instance : FldT Try.prog 85 1 3 1 := ⟨by kernel_rfl⟩
instance : FldT Try.prog 85 2 3 2 := ⟨by kernel_rfl⟩
instance : FldT Try.prog 85 3 3 3 := ⟨by kernel_rfl⟩
instance : FldT Try.prog 85 4 4 4 := ⟨by kernel_rfl⟩
instance : FldT Try.prog 85 5 3 5 := ⟨by kernel_rfl⟩
instance : FldT Try.prog 85 6 3 6 := ⟨by kernel_rfl⟩
instance : FldT Try.prog 91 0 3 0 := ⟨by kernel_rfl⟩
instance : FldT Try.prog 91 1 24 1 := ⟨by kernel_rfl⟩
instance : FldT Try.prog 92 0 3 0 := ⟨by kernel_rfl⟩
instance : FldT Try.prog 92 1 24 1 := ⟨by kernel_rfl⟩
instance : FldT Try.prog 93 0 3 0 := ⟨by kernel_rfl⟩
instance : FldT Try.prog 93 1 90 1 := ⟨by kernel_rfl⟩
instance : FldT Try.prog 93 2 3 2 := ⟨by kernel_rfl⟩
instance : FldT Try.prog 93 3 92 3 := ⟨by kernel_rfl⟩
instance : FldT Try.prog 94 0 3 0 := ⟨by kernel_rfl⟩
instance : FldT Try.prog 94 1 90 1 := ⟨by kernel_rfl⟩
instance : FldT Try.prog 94 2 3 2 := ⟨by kernel_rfl⟩
instance : FldT Try.prog 94 3 92 3 := ⟨by kernel_rfl⟩
instance : FldT Try.prog 98 0 3 0 := ⟨by kernel_rfl⟩
instance : FldT Try.prog 98 1 24 1 := ⟨by kernel_rfl⟩
instance : FldT Try.prog 99 0 3 0 := ⟨by kernel_rfl⟩
instance : FldT Try.prog 99 1 97 1 := ⟨by kernel_rfl⟩
instance : FldT Try.prog 99 2 3 2 := ⟨by kernel_rfl⟩
instance : FldT Try.prog 99 3 98 3 := ⟨by kernel_rfl⟩
instance : FldT Try.prog 100 0 3 0 := ⟨by kernel_rfl⟩
instance : FldT Try.prog 100 1 97 1 := ⟨by kernel_rfl⟩
instance : FldT Try.prog 100 2 3 2 := ⟨by kernel_rfl⟩
instance : FldT Try.prog 100 3 98 3 := ⟨by kernel_rfl⟩
instance : FldT Try.prog 107 0 106 0 := ⟨by kernel_rfl⟩
instance : FldT Try.prog 108 0 106 0 := ⟨by kernel_rfl⟩
instance : FldT Try.prog 109 0 108 0 := ⟨by kernel_rfl⟩
instance : FldT Try.prog 109 1 108 12 := ⟨by kernel_rfl⟩
instance : FldT Try.prog 109 2 3 24 := ⟨by kernel_rfl⟩
instance : FldT Try.prog 109 3 3 25 := ⟨by kernel_rfl⟩
instance : FldT Try.prog 110 0 108 0 := ⟨by kernel_rfl⟩
instance : FldT Try.prog 110 1 108 12 := ⟨by kernel_rfl⟩
instance : FldT Try.prog 110 2 3 24 := ⟨by kernel_rfl⟩
instance : FldT Try.prog 110 3 3 25 := ⟨by kernel_rfl⟩
instance : FldT Try.prog 113 0 112 0 := ⟨by kernel_rfl⟩
instance : FldT Try.prog 114 0 112 0 := ⟨by kernel_rfl⟩
instance : FldT Try.prog 115 0 114 0 := ⟨by kernel_rfl⟩
instance : FldT Try.prog 115 1 114 12 := ⟨by kernel_rfl⟩
instance : FldT Try.prog 115 2 3 24 := ⟨by kernel_rfl⟩
instance : FldT Try.prog 115 3 3 25 := ⟨by kernel_rfl⟩
instance : FldT Try.prog 116 0 114 0 := ⟨by kernel_rfl⟩
instance : FldT Try.prog 116 1 114 12 := ⟨by kernel_rfl⟩
instance : FldT Try.prog 116 2 3 24 := ⟨by kernel_rfl⟩
instance : FldT Try.prog 116 3 3 25 := ⟨by kernel_rfl⟩
instance : FldT Try.prog 130 0 79 0 := ⟨by kernel_rfl⟩
instance : FldT Try.prog 130 1 92 7 := ⟨by kernel_rfl⟩
instance : FldT Try.prog 130 2 128 9 := ⟨by kernel_rfl⟩
instance : FldT Try.prog 130 3 129 10 := ⟨by kernel_rfl⟩
instance : FldT Try.prog 130 4 3 11 := ⟨by kernel_rfl⟩
instance : FldT Try.prog 131 0 79 0 := ⟨by kernel_rfl⟩
instance : FldT Try.prog 131 1 92 7 := ⟨by kernel_rfl⟩
instance : FldT Try.prog 131 2 128 9 := ⟨by kernel_rfl⟩
instance : FldT Try.prog 131 3 129 10 := ⟨by kernel_rfl⟩
instance : FldT Try.prog 131 4 3 11 := ⟨by kernel_rfl⟩
instance : FldT Try.prog 136 0 85 0 := ⟨by kernel_rfl⟩
instance : FldT Try.prog 136 1 98 7 := ⟨by kernel_rfl⟩
instance : FldT Try.prog 136 2 134 9 := ⟨by kernel_rfl⟩
instance : FldT Try.prog 136 3 135 10 := ⟨by kernel_rfl⟩
instance : FldT Try.prog 136 4 3 11 := ⟨by kernel_rfl⟩
instance : FldT Try.prog 137 0 85 0 := ⟨by kernel_rfl⟩
instance : FldT Try.prog 137 1 98 7 := ⟨by kernel_rfl⟩
instance : FldT Try.prog 137 2 134 9 := ⟨by kernel_rfl⟩
instance : FldT Try.prog 137 3 135 10 := ⟨by kernel_rfl⟩
instance : FldT Try.prog 137 4 3 11 := ⟨by kernel_rfl⟩
instance : FldT Try.prog 159 0 40 0 := ⟨by kernel_rfl⟩
instance : FldT Try.prog 159 1 158 1 := ⟨by kernel_rfl⟩
instance : FldT Try.prog 160 0 40 0 := ⟨by kernel_rfl⟩
instance : FldT Try.prog 160 1 158 1 := ⟨by kernel_rfl⟩
instance : FldT Try.prog 164 0 3 0 := ⟨by kernel_rfl⟩
instance : FldT Try.prog 164 1 9 1 := ⟨by kernel_rfl⟩
instance : FldT Try.prog 164 2 3 2 := ⟨by kernel_rfl⟩
instance : FldT Try.prog 165 0 3 0 := ⟨by kernel_rfl⟩
instance : FldT Try.prog 165 1 9 1 := ⟨by kernel_rfl⟩
instance : FldT Try.prog 165 2 3 2 := ⟨by kernel_rfl⟩
instance : FldT Try.prog 183 0 3 0 := ⟨by kernel_rfl⟩
instance : FldT Try.prog 183 1 3 1 := ⟨by kernel_rfl⟩
instance : FldT Try.prog 183 2 3 2 := ⟨by kernel_rfl⟩
instance : FldT Try.prog 183 3 3 3 := ⟨by kernel_rfl⟩
instance : FldT Try.prog 183 4 3 4 := ⟨by kernel_rfl⟩
instance : FldT Try.prog 184 0 3 0 := ⟨by kernel_rfl⟩
instance : FldT Try.prog 184 1 3 1 := ⟨by kernel_rfl⟩
instance : FldT Try.prog 184 2 3 2 := ⟨by kernel_rfl⟩
instance : FldT Try.prog 184 3 3 3 := ⟨by kernel_rfl⟩
instance : FldT Try.prog 184 4 3 4 := ⟨by kernel_rfl⟩
instance : FldT Try.prog 206 0 204 0 := ⟨by kernel_rfl⟩
instance : FldT Try.prog 206 1 205 1 := ⟨by kernel_rfl⟩
instance : FldT Try.prog 207 0 204 0 := ⟨by kernel_rfl⟩
instance : FldT Try.prog 207 1 205 1 := ⟨by kernel_rfl⟩
instance : FldT Try.prog 215 0 22 0 := ⟨by kernel_rfl⟩
instance : FldT Try.prog 215 1 3 1 := ⟨by kernel_rfl⟩
instance : FldT Try.prog 215 2 3 2 := ⟨by kernel_rfl⟩
instance : FldT Try.prog 216 0 22 0 := ⟨by kernel_rfl⟩
instance : FldT Try.prog 216 1 3 1 := ⟨by kernel_rfl⟩
instance : FldT Try.prog 216 2 3 2 := ⟨by kernel_rfl⟩
instance : FldT Try.prog 225 0 3 0 := ⟨by kernel_rfl⟩
instance : FldT Try.prog 225 1 9 1 := ⟨by kernel_rfl⟩
instance : FldT Try.prog 225 2 3 2 := ⟨by kernel_rfl⟩
instance : FldT Try.prog 231 0 28 0 := ⟨by kernel_rfl⟩
instance : FldT Try.prog 232 0 28 0 := ⟨by kernel_rfl⟩
instance : FldT Try.prog 237 0 3 0 := ⟨by kernel_rfl⟩
instance : FldT Try.prog 237 1 3 1 := ⟨by kernel_rfl⟩
instance : FldT Try.prog 237 2 3 2 := ⟨by kernel_rfl⟩
instance : FldT Try.prog 237 3 3 3 := ⟨by kernel_rfl⟩
instance : FldT Try.prog 237 4 3 4 := ⟨by kernel_rfl⟩
instance : FldT Try.prog 251 0 249 0 := ⟨by kernel_rfl⟩
instance : FldT Try.prog 251 1 250 1 := ⟨by kernel_rfl⟩
instance : FldT Try.prog 252 0 249 0 := ⟨by kernel_rfl⟩
instance : FldT Try.prog 252 1 250 1 := ⟨by kernel_rfl⟩
instance : FldT Try.prog 253 0 3 0 := ⟨by kernel_rfl⟩
instance : FldT Try.prog 253 1 9 1 := ⟨by kernel_rfl⟩
instance : FldT Try.prog 253 2 3 2 := ⟨by kernel_rfl⟩
instance : FldT Try.prog 253 3 24 3 := ⟨by kernel_rfl⟩
instance : FldT Try.prog 254 0 3 0 := ⟨by kernel_rfl⟩
instance : FldT Try.prog 254 1 9 1 := ⟨by kernel_rfl⟩
instance : FldT Try.prog 254 2 3 2 := ⟨by kernel_rfl⟩
instance : FldT Try.prog 254 3 24 3 := ⟨by kernel_rfl⟩
instance : FldT Try.prog 255 0 9 0 := ⟨by kernel_rfl⟩
instance : FldT Try.prog 255 1 3 1 := ⟨by kernel_rfl⟩
instance : FldT Try.prog 256 0 9 0 := ⟨by kernel_rfl⟩
instance : FldT Try.prog 256 1 3 1 := ⟨by kernel_rfl⟩
instance : FldT Try.prog 271 0 3 0 := ⟨by kernel_rfl⟩
instance : FldT Try.prog 271 1 9 1 := ⟨by kernel_rfl⟩
instance : FldT Try.prog 271 2 3 2 := ⟨by kernel_rfl⟩
instance : FldT Try.prog 271 3 24 3 := ⟨by kernel_rfl⟩
instance : FldT Try.prog 273 0 9 0 := ⟨by kernel_rfl⟩
instance : FldT Try.prog 273 1 3 1 := ⟨by kernel_rfl⟩
instance : FldT Try.prog 279 0 17 0 := ⟨by kernel_rfl⟩
instance : FldT Try.prog 279 1 17 1 := ⟨by kernel_rfl⟩
instance : FldT Try.prog 279 2 17 2 := ⟨by kernel_rfl⟩
instance : FldT Try.prog 279 3 9 3 := ⟨by kernel_rfl⟩
instance : FldT Try.prog 280 0 17 0 := ⟨by kernel_rfl⟩
instance : FldT Try.prog 280 1 17 1 := ⟨by kernel_rfl⟩
instance : FldT Try.prog 280 2 17 2 := ⟨by kernel_rfl⟩
instance : FldT Try.prog 280 3 9 3 := ⟨by kernel_rfl⟩
instance : FldT Try.prog 282 0 281 0 := ⟨by kernel_rfl⟩
instance : FldT Try.prog 283 0 281 0 := ⟨by kernel_rfl⟩
instance : FldT Try.prog 291 0 12 0 := ⟨by kernel_rfl⟩
instance : FldT Try.prog 291 1 12 1 := ⟨by kernel_rfl⟩
instance : FldT Try.prog 291 2 284 2 := ⟨by kernel_rfl⟩
instance : FldT Try.prog 291 3 285 3 := ⟨by kernel_rfl⟩
instance : FldT Try.prog 291 4 5 4 := ⟨by kernel_rfl⟩
instance : FldT Try.prog 291 5 5 5 := ⟨by kernel_rfl⟩
instance : FldT Try.prog 291 6 286 6 := ⟨by kernel_rfl⟩
instance : FldT Try.prog 291 7 287 7 := ⟨by kernel_rfl⟩
instance : FldT Try.prog 291 8 288 8 := ⟨by kernel_rfl⟩
instance : FldT Try.prog 291 9 289 9 := ⟨by kernel_rfl⟩
instance : FldT Try.prog 291 10 290 10 := ⟨by kernel_rfl⟩
instance : FldT Try.prog 292 0 12 0 := ⟨by kernel_rfl⟩
instance : FldT Try.prog 292 1 12 1 := ⟨by kernel_rfl⟩
instance : FldT Try.prog 292 2 284 2 := ⟨by kernel_rfl⟩
instance : FldT Try.prog 292 3 285 3 := ⟨by kernel_rfl⟩
instance : FldT Try.prog 292 4 5 4 := ⟨by kernel_rfl⟩
instance : FldT Try.prog 292 5 5 5 := ⟨by kernel_rfl⟩
instance : FldT Try.prog 292 6 286 6 := ⟨by kernel_rfl⟩
instance : FldT Try.prog 292 7 287 7 := ⟨by kernel_rfl⟩
instance : FldT Try.prog 292 8 288 8 := ⟨by kernel_rfl⟩
instance : FldT Try.prog 292 9 289 9 := ⟨by kernel_rfl⟩
instance : FldT Try.prog 292 10 290 10 := ⟨by kernel_rfl⟩
end Go.Proofs.Ytdjcehopalhalaa.St
