/-
  Which types' values are compared cell by cell.
-/
import Derived.Test.YtbcboklmeifghaaGreatStEq
import Derived.Test.YtbcboklmeifghaaGreatFns
import Derived.Test.YtbcboklmeifghaaGreatLNum
import Derived.Test.YtbcboklmeifghaaGreatJ2
import Derived.Test.YtbcboklmeifghaaGreatJ3
import Derived.Laws.BytesArg
import Derived.Laws.Concat

section
set_option linter.unusedSimpArgs false
set_option linter.unusedVariables false
namespace Go.Proofs.YtbcboklmeifghaaGreat.St
instance : EqT Tryz.prog 22 [.int .i64, .int .i64, .int .i64, .int .i64, .bool, .int .i64, .int .i64] := ⟨by kernel_rfl, by kernel_rfl, by kernel_rfl, by kernel_rfl⟩
instance : EqT Tryz.prog 23 [.int .i64, .int .i64, .int .i64, .int .i64, .bool, .int .i64, .int .i64] := ⟨by kernel_rfl, by kernel_rfl, by kernel_rfl, by kernel_rfl⟩
instance : EqT Tryz.prog 31 [.int .i64, .int .i64, .int .i64] := ⟨by kernel_rfl, by kernel_rfl, by kernel_rfl, by kernel_rfl⟩
instance : EqT Tryz.prog 32 [.int .i64, .int .i64, .int .i64] := ⟨by kernel_rfl, by kernel_rfl, by kernel_rfl, by kernel_rfl⟩
instance : EqT Tryz.prog 33 [.int .i64, .int .i64, .int .i64, .int .i64, .int .i64, .int .i64, .int .i64, .int .i64, .int .i64, .int .i64, .int .i64, .int .i64] := ⟨by kernel_rfl, by kernel_rfl, by kernel_rfl, by kernel_rfl⟩
instance : EqT Tryz.prog 34 [.int .i64, .int .i64, .int .i64, .int .i64, .int .i64, .int .i64, .int .i64, .int .i64, .int .i64, .int .i64, .int .i64, .int .i64] := ⟨by kernel_rfl, by kernel_rfl, by kernel_rfl, by kernel_rfl⟩
instance : EqT Tryz.prog 35 [.int .i64, .int .i64, .int .i64, .int .i64, .int .i64, .int .i64, .int .i64, .int .i64, .int .i64, .int .i64, .int .i64, .int .i64] := ⟨by kernel_rfl, by kernel_rfl, by kernel_rfl, by kernel_rfl⟩
instance : EqT Tryz.prog 36 [.int .i64, .int .i64, .int .i64, .int .i64, .int .i64, .int .i64, .int .i64, .int .i64, .int .i64, .int .i64, .int .i64, .int .i64, .int .i64, .int .i64, .int .i64, .int .i64, .int .i64, .int .i64, .int .i64, .int .i64, .int .i64, .int .i64, .int .i64, .int .i64, .int .i64, .int .i64] := ⟨by kernel_rfl, by kernel_rfl, by kernel_rfl, by kernel_rfl⟩
instance : EqT Tryz.prog 37 [.int .i64, .int .i64, .int .i64, .int .i64, .int .i64, .int .i64, .int .i64, .int .i64, .int .i64, .int .i64, .int .i64, .int .i64, .int .i64, .int .i64, .int .i64, .int .i64, .int .i64, .int .i64, .int .i64, .int .i64, .int .i64, .int .i64, .int .i64, .int .i64, .int .i64, .int .i64] := ⟨by kernel_rfl, by kernel_rfl, by kernel_rfl, by kernel_rfl⟩
instance : EqT Tryz.prog 39 [.int .i64, .int .i64, .int .i64, .int .i64, .bool, .int .i64, .int .i64] := ⟨by kernel_rfl, by kernel_rfl, by kernel_rfl, by kernel_rfl⟩
instance : EqT Tryz.prog 48 [.int .i64, .int .i64, .int .i64] := ⟨by kernel_rfl, by kernel_rfl, by kernel_rfl, by kernel_rfl⟩
instance : EqT Tryz.prog 49 [.int .i64, .int .i64, .int .i64, .int .i64, .int .i64, .int .i64, .int .i64, .int .i64, .int .i64, .int .i64, .int .i64, .int .i64] := ⟨by kernel_rfl, by kernel_rfl, by kernel_rfl, by kernel_rfl⟩
instance : EqT Tryz.prog 50 [.int .i64, .int .i64, .int .i64, .int .i64, .int .i64, .int .i64, .int .i64, .int .i64, .int .i64, .int .i64, .int .i64, .int .i64] := ⟨by kernel_rfl, by kernel_rfl, by kernel_rfl, by kernel_rfl⟩
instance : EqT Tryz.prog 51 [.int .i64, .int .i64, .int .i64, .int .i64, .int .i64, .int .i64, .int .i64, .int .i64, .int .i64, .int .i64, .int .i64, .int .i64] := ⟨by kernel_rfl, by kernel_rfl, by kernel_rfl, by kernel_rfl⟩
instance : EqT Tryz.prog 52 [.int .i64, .int .i64, .int .i64, .int .i64, .int .i64, .int .i64, .int .i64, .int .i64, .int .i64, .int .i64, .int .i64, .int .i64, .int .i64, .int .i64, .int .i64, .int .i64, .int .i64, .int .i64, .int .i64, .int .i64, .int .i64, .int .i64, .int .i64, .int .i64, .int .i64, .int .i64] := ⟨by kernel_rfl, by kernel_rfl, by kernel_rfl, by kernel_rfl⟩
instance : EqT Tryz.prog 53 [.int .i64, .int .i64, .int .i64, .int .i64, .int .i64, .int .i64, .int .i64, .int .i64, .int .i64, .int .i64, .int .i64, .int .i64, .int .i64, .int .i64, .int .i64, .int .i64, .int .i64, .int .i64, .int .i64, .int .i64, .int .i64, .int .i64, .int .i64, .int .i64, .int .i64, .int .i64] := ⟨by kernel_rfl, by kernel_rfl, by kernel_rfl, by kernel_rfl⟩
instance : EqT Tryz.prog 58 [.int .i64, .int .i64, .int .i64, .int .i64] := ⟨by kernel_rfl, by kernel_rfl, by kernel_rfl, by kernel_rfl⟩
instance : EqT Tryz.prog 59 [.int .i64, .int .i64, .int .i64, .int .i64] := ⟨by kernel_rfl, by kernel_rfl, by kernel_rfl, by kernel_rfl⟩
instance : EqT Tryz.prog 61 [.int .i64, .int .i64, .int .i64, .int .i64] := ⟨by kernel_rfl, by kernel_rfl, by kernel_rfl, by kernel_rfl⟩
instance : EqT Tryz.prog 86 [.int .i64, .int .i64, .int .i64, .int .i64, .int .i64, .int .i64] := ⟨by kernel_rfl, by kernel_rfl, by kernel_rfl, by kernel_rfl⟩
instance : EqT Tryz.prog 87 [.int .i64, .int .i64, .int .i64, .int .i64, .int .i64, .int .i64] := ⟨by kernel_rfl, by kernel_rfl, by kernel_rfl, by kernel_rfl⟩
instance : EqT Tryz.prog 135 [.str, .int .i64] := ⟨by kernel_rfl, by kernel_rfl, by kernel_rfl, by kernel_rfl⟩
instance : EqT Tryz.prog 136 [.str, .int .i64] := ⟨by kernel_rfl, by kernel_rfl, by kernel_rfl, by kernel_rfl⟩
instance : EqT Tryz.prog 158 [.str, .int .i64] := ⟨by kernel_rfl, by kernel_rfl, by kernel_rfl, by kernel_rfl⟩
instance : EqT Tryz.prog 178 [.int .i64, .int .i64, .int .i64] := ⟨by kernel_rfl, by kernel_rfl, by kernel_rfl, by kernel_rfl⟩
instance : EqT Tryz.prog 179 [.int .i64, .int .i64, .int .i64] := ⟨by kernel_rfl, by kernel_rfl, by kernel_rfl, by kernel_rfl⟩
end Go.Proofs.YtbcboklmeifghaaGreat.St
end

section
/-
  Comparing strings.
-/
set_option linter.unusedSimpArgs false
set_option linter.unusedVariables false
namespace Go.Proofs.YtbcboklmeifghaaGreat.St
open Go.RowKit
section
variable {P : Program} {w : World} {E : Env} {Φ : Value → World → Prop} {ty t t' : TypeId} {x y : Operand}
theorem strB (m n : ByteArray) : (m.toList == n.toList) = dB (m = n) := by
  rw [dB_eq, ByteArray.toList_eq, ByteArray.toList_eq]
  have : m.data.toList = n.data.toList ↔ m = n := ⟨fun h => ByteArray.ext (Array.toList_inj.mp h), fun h => by rw [h]⟩
  by_cases h : m = n
  · simp [h]
  · have h' : ¬ m.data.toList = n.data.toList := fun e => h (this.1 e)
    rw [decide_eq_false h]
    exact beq_eq_false_iff_ne.2 h'
theorem does_eqlStr [StrT P t] {m n : ByteArray} (hx : ev E x = some (.string m)) (hy : ev E y = some (.string n)) (k : Φ (.bool (dB (m = n))) w) :
    Does P (.binOp .eql t x y t') ty E w Φ :=
  does_bin hx hy rfl (by rw [binOp_string_eql, strB]; rfl) k
theorem does_neqStr [StrT P t] {m n : ByteArray} (hx : ev E x = some (.string m)) (hy : ev E y = some (.string n)) (k : Φ (.bool (dB (¬ m = n))) w) :
    Does P (.binOp .neq t x y t') ty E w Φ :=
  does_bin hx hy rfl (by rw [binOp_string_neq, strB, dB_not]; rfl) k
theorem does_neqStrS [hu : StrT P t] {m : ByteArray} (hx : ev E x = some (.string m)) (hy : ev E y = some (.string m)) (k : Φ (.bool false) w) :
    Does P (.binOp .neq t x y t') ty E w Φ := does_neqStr hx hy (by rw [bF (fun h => h rfl)]; exact k)
end
end Go.Proofs.YtbcboklmeifghaaGreat.St
end

section
/-
  Contracts of the functions on compiled code.
-/
set_option linter.unusedSimpArgs false
set_option linter.unusedVariables false
namespace Go.Proofs.YtbcboklmeifghaaGreat.St
open Go.RowKit Go.WideShapes
/-- what is left of a size's bound, or -1 -/
def leftR (n left : Int) (v : Value) : Prop := ∃ r, v = I r ∧ (r = -1 ∨ (0 ≤ r ∧ r + n ≤ left))
abbrev eS (s : ByteArray) : List Value := [.string s]
def smallS (xs : List ByteArray) : Prop := ∀ s ∈ xs, s.size ≤ maxLen
theorem smallS.get {xs : List ByteArray} (h : smallS xs) {k : Nat} (hk : k < xs.length) : xs[k].size ≤ 9223372036854775807 := by
  have := h _ (List.getElem_mem hk)
  simp only [maxLen] at this
  omega
abbrev TInstruction := Int × ByteArray × Int
abbrev eInstruction (x : TInstruction) : List Value := [I x.1, .string x.2.1, I x.2.2]

def bdInstruction (x : TInstruction) : Prop := (-9223372036854775808 ≤ x.1 ∧ x.1 ≤ 9223372036854775807) ∧ (x.2.1).size ≤ maxLen ∧ (-9223372036854775808 ≤ x.2.2 ∧ x.2.2 ≤ 9223372036854775807)
def smallI (xs : List TInstruction) : Prop := ∀ x ∈ xs, x.2.1.size ≤ maxLen
theorem smallI.get {xs : List TInstruction} (h : smallI xs) {k : Nat} (hk : k < xs.length) : xs[k].2.1.size ≤ 9223372036854775807 := by
  have := h _ (List.getElem_mem hk)
  simp only [maxLen] at this
  omega
def CodeR (xs : List TInstruction) (ys : List ByteArray) (v : Value) (H : Heap) : Prop := ∃ p c q d, v = .agg #[.slice p xs.length c, .slice q ys.length d] ∧ (xs.length ≤ c ∧ c ≤ maxLen) ∧ (ys.length ≤ d ∧ d ≤ maxLen) ∧ Sl H p eInstruction 3 xs ∧ Sl H q eS 1 ys
instance (xs : List TInstruction) (ys : List ByteArray) : MonoR (CodeR xs ys) := ⟨fun _ _ _ hle ⟨p, c, q, d, h0, h1, h2, h3, h4⟩ => ⟨p, c, q, d, h0, h1, h2, h3.mono hle, h4.mono hle⟩⟩
end Go.Proofs.YtbcboklmeifghaaGreat.St
end

section
/-
  Strings made of bytes, and one behind the other; a slice that is a row of one's own or empty.
-/
set_option linter.unusedSimpArgs false
set_option linter.unusedVariables false
namespace Go.Proofs.YtbcboklmeifghaaGreat.St
open Go.RowKit
section
variable {P : Program} {w W0 : World} {X : List Nat} {B : Heap} {L : List Own} {E : Env} {Φ : Value → World → Prop} {ty t t' : TypeId} {x y : Operand}
theorem does_addStr {m n : ByteArray} (hx : ev E x = some (.string m)) (hy : ev E y = some (.string n)) (hs : m.size + n.size ≤ 9223372036854775807) (k : Φ (.string (m ++ n)) w) :
    Does P (.binOp .add t x y t') ty E w Φ :=
  does_bin hx hy rfl (by rw [binOp_string_add, run_string_add_sum w m n hs]) k
theorem does_convU8 {m : Int} (hu : P.underlying t = some (.int .i64)) (hu' : P.underlying t' = some (.int .u8)) (hx : ev E x = some (.int .i64 m)) (hb : 0 ≤ m ∧ m ≤ 255) (k : Φ (.int .u8 m) w) : Does P (.convert t t' x) ty E w Φ := by
  refine ⟨fun ρ hρ => ?_⟩
  have hw : IntKind.u8.wrap m = m := by simp [IntKind.wrap, IntKind.signed, IntKind.bits]; omega
  have : (execOp ρ (mk (.convert t t' x) ty)).run P w = .ok (.value (.int .u8 m)) w := by
    simp only [execOp, mk, hρ _ _ hx, convert, Sem.run_bind, run_underlying hu, run_underlying hu', Result.andThen_ok]
    simp [Conv.intToInt, hw]
  rw [this]; exact k
theorem does_bytes (i : Nat) {e : TypeId} {b len cap : Nat} {xs : List Int} {T : TypeId} {fz : Nat × Nat} (hu : P.underlying t = some (.slice e)) (he : P.underlying e = some (.int .u8)) (hd : P.underlying t' = some .string) (hm : Mem W0 X B L w)
    (hx : ev E x = some (.slice (some ⟨b, 0, none⟩) len cap)) (hL : L[i]? = some (.blk b (.cells (xs.map (Value.int .u8)).toArray T fz))) (hl : xs.length = len) (k : Φ (.string (strOfNums xs)) w) : Does P (.convert t t' x) ty E w Φ := by
  refine ⟨fun ρ hρ => ?_⟩
  have hb := mem_idx hm hL
  have hr := run_convert_bytes_arg w t e hu he b 0 len cap xs hl (fun j hj => by
    rw [Nat.zero_add]
    refine own_cell hb ?_
    rw [List.getElem?_map, List.getElem?_eq_getElem (by omega)]
    simp [List.getD, List.getElem?_eq_getElem (show j < xs.length by omega)]) t' hd
  have : (execOp ρ (mk (.convert t t' x) ty)).run P w = .ok (.value (.string (strOfNums xs))) w := by
    simp only [execOp, mk, hρ _ _ hx, Sem.run_bind, hr, Result.andThen_ok]
    rfl
  rw [this]; exact k
theorem does_bytes1 (i : Nat) {e : TypeId} {b : Nat} {n : Int} {T : TypeId} {fz : Nat × Nat} (hu : P.underlying t = some (.slice e)) (he : P.underlying e = some (.int .u8)) (hd : P.underlying t' = some .string) (hm : Mem W0 X B L w)
    (hx : ev E x = some (.slice (some ⟨b, 0, none⟩) 1 1)) (hL : L[i]? = some (.blk b (.cells [.int .u8 n].toArray T fz))) (k : Φ (.string (strOfNums [n])) w) : Does P (.convert t t' x) ty E w Φ :=
  does_bytes i (xs := [n]) hu he hd hm hx hL rfl k
theorem perm_erase {α : Type} : ∀ {l : List α} {i : Nat} {x : α}, l[i]? = some x → List.Perm (x :: l.eraseIdx i) l
  | [], i, x, h => by simp at h
  | a :: l, 0, x, h => by
    simp only [List.getElem?_cons_zero, Option.some.injEq] at h
    subst h
    exact .refl _
  | a :: l, i + 1, x, h => by
    simp only [List.getElem?_cons_succ] at h
    exact (List.Perm.swap a x _).trans ((perm_erase h).cons a)
theorem Mem.pull (i : Nat) {o : Own} (hm : Mem W0 X B L w) (hL : L[i]? = some o) : Mem W0 X B (o :: L.eraseIdx i) w := by
  exact hm.perm (perm_erase hL).symm
end
/-- a slice that is a row of one's own, or an empty one wherever -/
structure Shd (v u : Value) (n : Nat) : Prop where
  out : v = u ∨ (n = 0 ∧ u = .slice none 0 0 ∧ ∃ p c, v = .slice p 0 c)
theorem Shd.refl (v : Value) (n : Nat) : Shd v v n := ⟨.inl rfl⟩
theorem Shd.sl {α : Type} {enc : α → List Value} {sz n cap : Nat} {xs : List α} {p : Option Addr} {u : Value} {T : TypeId} {W0 w : World} {X : List Nat} {B : Heap} {L : List Own} (hs : Shd (.slice p n cap) u xs.length) (i : Nat) (hm : Mem W0 X B L w) (hL : L[i]? = some (.row u T sz (xs.map enc).flatten)) (hf : ∀ x, (enc x).length = sz) (hsz : 0 < sz) :
    Sl (fun b => w.heap[b]?) p enc sz xs := by
  rcases hs.out with rfl | ⟨h0, rfl, p', c', h⟩
  · exact row_sl i hm hL hf hsz
  · intro j y hj
    have := (List.getElem?_eq_some_iff.1 hj).1
    omega
section
variable {P : Program} {w W0 : World} {X : List Nat} {B : Heap} {L : List Own} {E : Env} {Φ : Value → World → Prop} {ty t t' : TypeId} {x y : Operand}
end
end Go.Proofs.YtbcboklmeifghaaGreat.St
end
