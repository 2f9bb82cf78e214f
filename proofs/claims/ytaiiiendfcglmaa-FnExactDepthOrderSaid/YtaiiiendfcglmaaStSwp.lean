/-
  A row of ints that is sorted in place: loads and stores at a place.
-/
import Derived.Test.YtaiiiendfcglmaaPStb
import Derived.Test.YtaiiiendfcglmaaStHld
import Derived.Test.YtaiiiendfcglmaaStIns
import Derived.Test.YtaiiiendfcglmaaJ3
import Derived.Test.YtaiiiendfcglmaaScal
set_option linter.unusedSimpArgs false
set_option linter.unusedVariables false
namespace Go.Proofs.Ytaiiiendfcglmaa.St
open Go.RowKit
/-- the kind of a type of ints -/
class KindT (P : Program) (t : TypeId) (j : outParam IntKind) : Prop where
  out : P.underlying t = some (.int j)
theorem k_normal {P : Program} {fn : Func} {R : Value → World → Prop} {a : Act} {w : World} (h : Cont (Post P fn R) .ret a w) : Cont (Post P fn R) .normal a w := ⟨h.out⟩
theorem c_isReg {P : Program} {l : Array Oper} {d : Bool} {c : Code} {Q : Exit → Act → World → Prop} {a : Act} {w : World} (n : Nat) (h : CW P (Code.seq (Code.region n l d) c) Q a w) : CW P (Code.seq (Code.region n l d) c) Q a w := h
/-- the cells of a row of ints, and what lies behind it in its block -/
abbrev rc (ds : List Int) (sp : List Value) : List Value := ds.map (Value.int .i64) ++ sp
theorem rc_get {ds : List Int} {sp : List Value} {i : Nat} {v : Int} (h : ds[i]? = some v) : (rc ds sp)[i]? = some (I v) := by
  have hl := (List.getElem?_eq_some_iff.1 h).1
  rw [List.getElem?_append_left (by rw [List.length_map]; exact hl), List.getElem?_map, h]
  rfl
theorem rc_splice {ds : List Int} {sp : List Value} {i : Nat} {v : Int} (h : i < ds.length) : splice (rc ds sp) i [I v] = rc (ds.set i v) sp := by
  rw [splice, splice, rc, List.set_append_left _ _ (by rw [List.length_map]; exact h), ← List.map_set]
section
variable {P : Program} {E : Env} {w W0 : World} {X : List Nat} {B : Heap} {L : List Own} {Φ : Value → World → Prop} {ty t : TypeId} {x y : Operand}
theorem does_loadD (i : Nat) {ds : List Int} {sp : List Value} {u : Int} {b off o : Nat} {T : TypeId} {fz : Nat × Nat} [Scalar P t] (hm : Mem W0 X B L w) (hx : ev E x = some (.pointer (some ⟨b, off, none⟩))) (hL : L[i]? = some (.blk b (.cells (rc ds sp).toArray T fz)))
    (ho : off = o) (hu : ds[o]? = some u) (k : Φ (I u) w) : Does P (.load t x) ty E w Φ := by
  subst ho
  exact does_loadO i hm hx hL (rc_get hu) k
theorem does_storeD (i : Nat) {ds : List Int} {sp : List Value} {b off o s b_ : Nat} {z v : Value} {u : Int} {T : TypeId} [Sz P t z s b_] (hm : Mem W0 X B L w) (hx : ev E x = some (.pointer (some ⟨b, off, none⟩))) (hy : ev E y = some v) (hvu : v = I u)
    (hL : L[i]? = some (.blk b (.cells (rc ds sp).toArray T (0, 0)))) (ho : off = o) (hlt : o < ds.length) (hs : Nat.beq 1 s = true)
    (k : ∀ w', Mem W0 X B (L.set i (.blk b (.cells (rc (ds.set o u) sp).toArray T (0, 0)))) w' → Φ undef w') : Does P (.store t x y) ty E w Φ := by
  subst ho
  subst hvu
  refine does_storeO i hm hx hy hL rfl rfl hs (Nat.ble_eq_true_of_le (by simp only [rc, List.length_append, List.length_map, List.length_singleton]; omega)) fun w' hm' => k w' ?_
  rwa [rc_splice hlt] at hm'
theorem does_toU {t' : TypeId} {m : Int} [hu : KindT P t .i64] [hu' : KindT P t' .u64] (hx : ev E x = some (.int .i64 m)) (hb : 0 ≤ m ∧ m ≤ 9223372036854775807) (k : Φ (.int .u64 m) w) : Does P (.convert t t' x) ty E w Φ := by
  refine ⟨fun ρ hρ => ?_⟩
  have hw : IntKind.u64.wrap m = m := by simp [IntKind.wrap, IntKind.signed, IntKind.bits]; omega
  have : (execOp ρ (mk (.convert t t' x) ty)).run P w = .ok (.value (.int .u64 m)) w := by
    simp only [execOp, mk, hρ _ _ hx, convert, Sem.run_bind, run_underlying hu.out, run_underlying hu'.out, Result.andThen_ok]
    simp [Conv.intToInt, hw]
  rw [this]; exact k
theorem does_fromU {t' : TypeId} {m : Int} [hu : KindT P t .u64] [hu' : KindT P t' .i64] (hx : ev E x = some (.int .u64 m)) (hb : 0 ≤ m ∧ m ≤ 9223372036854775807) (k : Φ (.int .i64 m) w) : Does P (.convert t t' x) ty E w Φ := by
  refine ⟨fun ρ hρ => ?_⟩
  have hw : IntKind.i64.wrap m = m := by simp [IntKind.wrap, IntKind.signed, IntKind.bits]; omega
  have : (execOp ρ (mk (.convert t t' x) ty)).run P w = .ok (.value (.int .i64 m)) w := by
    simp only [execOp, mk, hρ _ _ hx, convert, Sem.run_bind, run_underlying hu.out, run_underlying hu'.out, Result.andThen_ok]
    simp [Conv.intToInt, hw]
  rw [this]; exact k
theorem does_half {t' : TypeId} {m : Int} (hx : ev E x = some (.int .u64 m)) (k : Φ (.int .u64 (m / 2)) w) : Does P (.binOp .shr t x (.const (.int .u64 1)) t') ty E w Φ :=
  does_bin hx rfl (by cases x <;> rfl) (by rw [binOp_shr, shift_shr .u64 .u64 m 1 (by decide) (by decide)]; rfl) k
end
end Go.Proofs.Ytaiiiendfcglmaa.St
