/-
  Fields of values that are structs.
-/
import Derived.Test.YtnclbllhflinfaaJ3
import Derived.Test.YtnclbllhflinfaaStOwn
import Derived.Laws.Slices
import Derived.Laws.DeepStrings4

section
set_option linter.unusedSimpArgs false
set_option linter.unusedVariables false
namespace Go.Proofs.Ytnclbllhflinfaa.St
open Go.RowKit
def fldTB (P : Program) (t : TypeId) (k ft off : Nat) : Bool :=
  match P.underlying t with
  | some (.struct fs) => match fs[k]? with
    | some f => f.type == ft && f.offset == off
    | none => false
  | _ => false
class FldT (P : Program) (t : TypeId) (k : Nat) (ft off : outParam Nat) : Prop where
  out : fldTB P t k ft off = true
section
variable {P : Program} {E : Env} {w : World} {Φ : Value → World → Prop} {ty t : TypeId} {x : Operand}
theorem fldT_parts {k ft off : Nat} [h : FldT P t k ft off] : ∃ fs f, P.underlying t = some (.struct fs) ∧ fs[k]? = some f ∧ f.type = ft ∧ f.offset = off := by
  have := h.out
  unfold fldTB at this
  split at this
  · rename_i fs hfs
    split at this
    · rename_i f hf
      simp only [Bool.and_eq_true, beq_iff_eq] at this
      exact ⟨fs, f, hfs, hf, this.1, this.2⟩
    · cases this
  · cases this
theorem does_fieldV1 {n ft off : Nat} {cs : List Value} {u : Value} [FldT P t n ft off] [Scalar P ft] (hx : ev E x = some (.agg cs.toArray)) (hu : cs[off]? = some u) (k : Φ u w) : Does P (.field t x n) ty E w Φ := by
  obtain ⟨fs, f, h1, h2, h3, h4⟩ := fldT_parts (P := P) (t := t) (k := n) (ft := ft) (off := off)
  subst h3 h4
  refine does_fieldV (off := 0) hx (fun w => ?_) k
  simp only [Instr.field, Sem.run_bind, run_underlying h1, Result.andThen_ok, h2]
  simp [part, run_isAggF (P := P) (t := f.type), asAgg, hu]
theorem does_fieldVA {n ft off s : Nat} {cs : List Value} [FldT P t n ft off] [Aggr P ft s] (hx : ev E x = some (.agg cs.toArray)) (k : Φ (.agg ((cs.drop off).take s).toArray) w) : Does P (.field t x n) ty E w Φ := by
  obtain ⟨fs, f, h1, h2, h3, h4⟩ := fldT_parts (P := P) (t := t) (k := n) (ft := ft) (off := off)
  subst h3 h4
  refine does_fieldV (off := 0) hx (fun w => ?_) k
  simp only [Instr.field, Sem.run_bind, run_underlying h1, Result.andThen_ok, h2]
  simp [part, asAgg, run_isAggT (P := P) (t := f.type), run_aggSize (P := P) (t := f.type), List.extract_eq_take_drop]
end
instance : FldT Try.prog 7 0 2 0 := ⟨by kernel_rfl⟩
instance : FldT Try.prog 7 1 3 1 := ⟨by kernel_rfl⟩
instance : FldT Try.prog 7 2 4 2 := ⟨by kernel_rfl⟩
instance : FldT Try.prog 7 3 6 3 := ⟨by kernel_rfl⟩
instance : FldT Try.prog 8 0 2 0 := ⟨by kernel_rfl⟩
instance : FldT Try.prog 8 1 3 1 := ⟨by kernel_rfl⟩
instance : FldT Try.prog 8 2 4 2 := ⟨by kernel_rfl⟩
instance : FldT Try.prog 8 3 6 3 := ⟨by kernel_rfl⟩
instance : FldT Try.prog 13 0 9 0 := ⟨by kernel_rfl⟩
instance : FldT Try.prog 13 1 12 1 := ⟨by kernel_rfl⟩
instance : FldT Try.prog 14 0 9 0 := ⟨by kernel_rfl⟩
instance : FldT Try.prog 14 1 12 1 := ⟨by kernel_rfl⟩
instance : FldT Try.prog 18 0 17 0 := ⟨by kernel_rfl⟩
instance : FldT Try.prog 19 0 17 0 := ⟨by kernel_rfl⟩
instance : FldT Try.prog 25 0 23 0 := ⟨by kernel_rfl⟩
instance : FldT Try.prog 25 1 24 1 := ⟨by kernel_rfl⟩
instance : FldT Try.prog 26 0 23 0 := ⟨by kernel_rfl⟩
instance : FldT Try.prog 26 1 24 1 := ⟨by kernel_rfl⟩
instance : FldT Try.prog 32 0 9 0 := ⟨by kernel_rfl⟩
instance : FldT Try.prog 32 1 3 1 := ⟨by kernel_rfl⟩
instance : FldT Try.prog 33 0 9 0 := ⟨by kernel_rfl⟩
instance : FldT Try.prog 33 1 3 1 := ⟨by kernel_rfl⟩
instance : FldT Try.prog 45 0 3 0 := ⟨by kernel_rfl⟩
instance : FldT Try.prog 45 1 9 1 := ⟨by kernel_rfl⟩
instance : FldT Try.prog 45 2 3 2 := ⟨by kernel_rfl⟩
instance : FldT Try.prog 45 3 43 3 := ⟨by kernel_rfl⟩
instance : FldT Try.prog 46 0 3 0 := ⟨by kernel_rfl⟩
instance : FldT Try.prog 46 1 9 1 := ⟨by kernel_rfl⟩
instance : FldT Try.prog 46 2 3 2 := ⟨by kernel_rfl⟩
instance : FldT Try.prog 46 3 43 3 := ⟨by kernel_rfl⟩
instance : FldT Try.prog 61 0 22 0 := ⟨by kernel_rfl⟩
instance : FldT Try.prog 61 1 3 1 := ⟨by kernel_rfl⟩
instance : FldT Try.prog 61 2 3 2 := ⟨by kernel_rfl⟩
instance : FldT Try.prog 62 0 22 0 := ⟨by kernel_rfl⟩
instance : FldT Try.prog 62 1 3 1 := ⟨by kernel_rfl⟩
instance : FldT Try.prog 62 2 3 2 := ⟨by kernel_rfl⟩
instance : FldT Try.prog 68 0 46 0 := ⟨by kernel_rfl⟩
instance : FldT Try.prog 69 0 46 0 := ⟨by kernel_rfl⟩
instance : FldT Try.prog 70 0 46 0 := ⟨by kernel_rfl⟩
instance : FldT Try.prog 72 0 46 0 := ⟨by kernel_rfl⟩
instance : FldT Try.prog 78 0 74 0 := ⟨by kernel_rfl⟩
instance : FldT Try.prog 78 1 3 1 := ⟨by kernel_rfl⟩
instance : FldT Try.prog 78 2 26 2 := ⟨by kernel_rfl⟩
instance : FldT Try.prog 78 3 3 4 := ⟨by kernel_rfl⟩
instance : FldT Try.prog 79 0 74 0 := ⟨by kernel_rfl⟩
instance : FldT Try.prog 79 1 3 1 := ⟨by kernel_rfl⟩
instance : FldT Try.prog 79 2 26 2 := ⟨by kernel_rfl⟩
instance : FldT Try.prog 79 3 3 4 := ⟨by kernel_rfl⟩
instance : FldT Try.prog 80 0 3 0 := ⟨by kernel_rfl⟩
instance : FldT Try.prog 80 1 9 1 := ⟨by kernel_rfl⟩
instance : FldT Try.prog 80 2 3 2 := ⟨by kernel_rfl⟩
instance : FldT Try.prog 80 3 3 3 := ⟨by kernel_rfl⟩
instance : FldT Try.prog 81 0 3 0 := ⟨by kernel_rfl⟩
instance : FldT Try.prog 81 1 9 1 := ⟨by kernel_rfl⟩
instance : FldT Try.prog 81 2 3 2 := ⟨by kernel_rfl⟩
instance : FldT Try.prog 81 3 3 3 := ⟨by kernel_rfl⟩
instance : FldT Try.prog 105 0 17 0 := ⟨by kernel_rfl⟩
instance : FldT Try.prog 105 1 17 1 := ⟨by kernel_rfl⟩
instance : FldT Try.prog 105 2 17 2 := ⟨by kernel_rfl⟩
instance : FldT Try.prog 105 3 9 3 := ⟨by kernel_rfl⟩
instance : FldT Try.prog 106 0 17 0 := ⟨by kernel_rfl⟩
instance : FldT Try.prog 106 1 17 1 := ⟨by kernel_rfl⟩
instance : FldT Try.prog 106 2 17 2 := ⟨by kernel_rfl⟩
instance : FldT Try.prog 106 3 9 3 := ⟨by kernel_rfl⟩
instance : FldT Try.prog 108 0 107 0 := ⟨by kernel_rfl⟩
instance : FldT Try.prog 109 0 107 0 := ⟨by kernel_rfl⟩
instance : FldT Try.prog 118 0 12 0 := ⟨by kernel_rfl⟩
instance : FldT Try.prog 118 1 12 1 := ⟨by kernel_rfl⟩
instance : FldT Try.prog 118 2 111 2 := ⟨by kernel_rfl⟩
instance : FldT Try.prog 118 3 112 3 := ⟨by kernel_rfl⟩
instance : FldT Try.prog 118 4 5 4 := ⟨by kernel_rfl⟩
instance : FldT Try.prog 118 5 5 5 := ⟨by kernel_rfl⟩
instance : FldT Try.prog 118 6 113 6 := ⟨by kernel_rfl⟩
instance : FldT Try.prog 118 7 114 7 := ⟨by kernel_rfl⟩
instance : FldT Try.prog 118 8 115 8 := ⟨by kernel_rfl⟩
instance : FldT Try.prog 118 9 116 9 := ⟨by kernel_rfl⟩
instance : FldT Try.prog 118 10 117 10 := ⟨by kernel_rfl⟩
instance : FldT Try.prog 119 0 12 0 := ⟨by kernel_rfl⟩
instance : FldT Try.prog 119 1 12 1 := ⟨by kernel_rfl⟩
instance : FldT Try.prog 119 2 111 2 := ⟨by kernel_rfl⟩
instance : FldT Try.prog 119 3 112 3 := ⟨by kernel_rfl⟩
instance : FldT Try.prog 119 4 5 4 := ⟨by kernel_rfl⟩
instance : FldT Try.prog 119 5 5 5 := ⟨by kernel_rfl⟩
instance : FldT Try.prog 119 6 113 6 := ⟨by kernel_rfl⟩
instance : FldT Try.prog 119 7 114 7 := ⟨by kernel_rfl⟩
instance : FldT Try.prog 119 8 115 8 := ⟨by kernel_rfl⟩
instance : FldT Try.prog 119 9 116 9 := ⟨by kernel_rfl⟩
instance : FldT Try.prog 119 10 117 10 := ⟨by kernel_rfl⟩
end Go.Proofs.Ytnclbllhflinfaa.St
end

section
/-
  Parts of strings.
-/
set_option linter.unusedSimpArgs false
set_option linter.unusedVariables false
namespace Go.Proofs.Ytnclbllhflinfaa.St
open Go.RowKit
section
variable {P : Program} {w : World} {E : Env} {Φ : Value → World → Prop} {ty t : TypeId} {x lo hi : Operand} {s : ByteArray}
theorem does_strLo {j : IntKind} (i : Nat) (hu : P.underlying t = some .string) (hx : ev E x = some (.string s)) (hy : ev E lo = some (.int j i)) (h0 : i ≤ s.size) (k : Φ (.string (s.extract i s.size)) w) : Does P (.slice t x (some lo) none none) ty E w Φ := by
  refine ⟨fun ρ hρ => ?_⟩
  have hr := run_slice_string_l (P := P) w t s hu j (i : Int) (by omega) (by omega)
  have : (execOp ρ (mk (.slice t x (some lo) none none) ty)).run P w = .ok (.value (.string (s.extract i s.size))) w := by
    simp only [execOp, mk, hρ _ _ hx, hρ _ _ hy, Sem.run_bind, Option.map_none, Option.map_some, run_sliceAt_string (P := P) w t _ _ _ _ hu, hr, Result.andThen_ok]
    rfl
  rw [this]; exact k
theorem does_strLoHi {j j' : IntKind} (i m : Nat) (hu : P.underlying t = some .string) (hx : ev E x = some (.string s)) (hy : ev E lo = some (.int j i)) (hz : ev E hi = some (.int j' m)) (h0 : i ≤ m ∧ m ≤ s.size) (k : Φ (.string (s.extract i m)) w) : Does P (.slice t x (some lo) (some hi) none) ty E w Φ := by
  refine ⟨fun ρ hρ => ?_⟩
  have hr := run_slice_string_if (P := P) w t s j j' (i : Int) (m : Int) hu
  have : (execOp ρ (mk (.slice t x (some lo) (some hi) none) ty)).run P w = .ok (.value (.string (s.extract i m))) w := by
    simp only [execOp, mk, hρ _ _ hx, hρ _ _ hy, hρ _ _ hz, Sem.run_bind, Option.map_none, Option.map_some, run_sliceAt_string (P := P) w t _ _ _ _ hu, hr, Result.andThen_ok]
    rw [if_pos (by omega), if_pos (by omega)]
    rfl
  rw [this]; exact k
theorem does_strLoHiN {j j' : IntKind} {a b : Int} (i m : Nat) (hu : P.underlying t = some .string) (hx : ev E x = some (.string s)) (hy : ev E lo = some (.int j a)) (hz : ev E hi = some (.int j' b)) (ha : a = (i : Int)) (hb : b = (m : Int)) (h0 : i ≤ m ∧ m ≤ s.size) (k : Φ (.string (s.extract i m)) w) : Does P (.slice t x (some lo) (some hi) none) ty E w Φ := by
  subst ha hb
  exact does_strLoHi i m hu hx hy hz h0 k
end
end Go.Proofs.Ytnclbllhflinfaa.St
end
