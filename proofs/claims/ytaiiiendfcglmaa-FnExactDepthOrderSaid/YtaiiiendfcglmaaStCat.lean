/-
  Strings made of bytes, and one behind the other; a slice that is a row of one's own or empty.
-/
import Derived.Test.YtaiiiendfcglmaaStZip
import Derived.Test.YtaiiiendfcglmaaJ2
import Derived.Laws.BytesArg
import Derived.Laws.Concat
set_option linter.unusedSimpArgs false
set_option linter.unusedVariables false
namespace Go.Proofs.Ytaiiiendfcglmaa.St
open Go.RowKit
section
variable {P : Program} {w W0 : World} {X : List Nat} {B : Heap} {L : List Own} {E : Env} {Φ : Value → World → Prop} {ty t t' : TypeId} {x y : Operand}
theorem does_addStr {m n : ByteArray} (hx : ev E x = some (.string m)) (hy : ev E y = some (.string n)) (hs : m.size + n.size ≤ 9223372036854775807) (k : Φ (.string (m ++ n)) w) :
    Does P (.binOp .add t x y t') ty E w Φ :=
  does_bin hx hy rfl (by rw [binOp_string_add, run_string_add_sum w m n hs]) k
theorem does_convU8 {m : Int} (hu : P.underlying t = some (.int .i64)) (hu' : P.underlying t' = some (.int .u8)) (hx : ev E x = some (.int .i64 m)) (hb : 0 ≤ m ∧ m ≤ 255) (k : Φ (.int .u8 m) w) : Does P (.convert t t' x) ty E w Φ := by
  refine ⟨fun ρ hρ => ?_⟩
  have hw : IntKind.u8.wrap m = m := by simp [IntKind.wrap, IntKind.signed, IntKind.bits]; omega
  have : (execOp ρ (mk (.convert t t' x) ty)).run P w = .ok (.value (.int .u8 m)) w := by
    simp only [execOp, mk, hρ _ _ hx, convert, Sem.run_bind, run_underlying hu, run_underlying hu', Result.andThen_ok]
    simp [Conv.intToInt, hw]
  rw [this]; exact k
theorem does_bytes (i : Nat) {e : TypeId} {b len cap : Nat} {xs : List Int} {T : TypeId} {fz : Nat × Nat} (hu : P.underlying t = some (.slice e)) (he : P.underlying e = some (.int .u8)) (hd : P.underlying t' = some .string) (hm : Mem W0 X B L w)
    (hx : ev E x = some (.slice (some ⟨b, 0, none⟩) len cap)) (hL : L[i]? = some (.blk b (.cells (xs.map (Value.int .u8)).toArray T fz))) (hl : xs.length = len) (k : Φ (.string (strOfNums xs)) w) : Does P (.convert t t' x) ty E w Φ := by
  refine ⟨fun ρ hρ => ?_⟩
  have hb := mem_idx hm hL
  have hr := run_convert_bytes_arg w t e hu he b 0 len cap xs hl (fun j hj => by
    rw [Nat.zero_add]
    refine own_cell hb ?_
    rw [List.getElem?_map, List.getElem?_eq_getElem (by omega)]
    simp [List.getD, List.getElem?_eq_getElem (show j < xs.length by omega)]) t' hd
  have : (execOp ρ (mk (.convert t t' x) ty)).run P w = .ok (.value (.string (strOfNums xs))) w := by
    simp only [execOp, mk, hρ _ _ hx, Sem.run_bind, hr, Result.andThen_ok]
    rfl
  rw [this]; exact k
theorem does_bytes1 (i : Nat) {e : TypeId} {b : Nat} {n : Int} {T : TypeId} {fz : Nat × Nat} (hu : P.underlying t = some (.slice e)) (he : P.underlying e = some (.int .u8)) (hd : P.underlying t' = some .string) (hm : Mem W0 X B L w)
    (hx : ev E x = some (.slice (some ⟨b, 0, none⟩) 1 1)) (hL : L[i]? = some (.blk b (.cells [.int .u8 n].toArray T fz))) (k : Φ (.string (strOfNums [n])) w) : Does P (.convert t t' x) ty E w Φ :=
  does_bytes i (xs := [n]) hu he hd hm hx hL rfl k
theorem perm_erase {α : Type} : ∀ {l : List α} {i : Nat} {x : α}, l[i]? = some x → List.Perm (x :: l.eraseIdx i) l
  | [], i, x, h => by simp at h
  | a :: l, 0, x, h => by
    simp only [List.getElem?_cons_zero, Option.some.injEq] at h
    subst h
    exact .refl _
  | a :: l, i + 1, x, h => by
    simp only [List.getElem?_cons_succ] at h
    exact (List.Perm.swap a x _).trans ((perm_erase h).cons a)
theorem Mem.pull (i : Nat) {o : Own} (hm : Mem W0 X B L w) (hL : L[i]? = some o) : Mem W0 X B (o :: L.eraseIdx i) w := by
  exact hm.perm (perm_erase hL).symm
end
/-- a slice that is a row of one's own, or an empty one wherever -/
structure Shd (v u : Value) (n : Nat) : Prop where
  out : v = u ∨ (n = 0 ∧ u = .slice none 0 0 ∧ ∃ p c, v = .slice p 0 c)
theorem Shd.refl (v : Value) (n : Nat) : Shd v v n := ⟨.inl rfl⟩
theorem Shd.sl {α : Type} {enc : α → List Value} {sz n cap : Nat} {xs : List α} {p : Option Addr} {u : Value} {T : TypeId} {W0 w : World} {X : List Nat} {B : Heap} {L : List Own} (hs : Shd (.slice p n cap) u xs.length) (i : Nat) (hm : Mem W0 X B L w) (hL : L[i]? = some (.row u T sz (xs.map enc).flatten)) (hf : ∀ x, (enc x).length = sz) (hsz : 0 < sz) :
    Sl (fun b => w.heap[b]?) p enc sz xs := by
  rcases hs.out with rfl | ⟨h0, rfl, p', c', h⟩
  · exact row_sl i hm hL hf hsz
  · intro j y hj
    have := (List.getElem?_eq_some_iff.1 hj).1
    omega
theorem Shd.shape {α : Type} {enc : α → List Value} {sz i : Nat} {xs : List α} {v u : Value} {T : TypeId} {W0 w : World} {X : List Nat} {B : Heap} {L : List Own} (hs : Shd v u xs.length) (hm : Mem W0 X B L w) (hL : L[i]? = some (.row u T sz (xs.map enc).flatten)) (hf : ∀ x, (enc x).length = sz) (hsz : 0 < sz) :
    ∃ p cap, v = .slice p xs.length cap := by
  rcases hs.out with rfl | ⟨h0, rfl, p', c', h⟩
  · obtain ⟨p, cap, h, _⟩ := row_slice hm hL hf hsz
    exact ⟨p, cap, h⟩
  · exact ⟨p', c', by rw [h, h0]⟩
section
variable {P : Program} {w W0 : World} {X : List Nat} {B : Heap} {L : List Own} {E : Env} {Φ : Value → World → Prop} {ty t t' : TypeId} {x y : Operand}
theorem does_funWS (i : Nat) {f : FuncId} {args : List Operand} {ats : Array TypeId} {g : Value → List Value} {v u : Value} {n : Nat} {T : TypeId} {sz : Nat} {cs cs' : List Value} {r : Value} (hm : Mem W0 X B L w) (hen : Enters P f) (hx : evs E args = some (g v)) (hs : Shd v u n) (hn : cs'.length = n * sz)
    (hc : FunW P f (g u) u T sz cs cs' r) (h0 : ∀ p c, n = 0 → Fun P f (g (.slice p 0 c)) r) (hL : L[i]? = some (.row u T sz cs)) (hl : cs.length = cs'.length) (k : ∀ w', Mem W0 X B (L.set i (.row u T sz cs')) w' → Φ r w') : Does P (.call { callee := .value (.func f), args := args.toArray, argTypes := ats }) ty E w Φ := by
  rcases hs.out with rfl | ⟨hz, rfl, p, c, rfl⟩
  · exact does_funW i hm hen hx hc hL k
  · refine does_funM hm hen hx (h0 p c hz) fun w' hm' => k w' ?_
    have e1 : cs' = [] := List.eq_nil_of_length_eq_zero (by rw [hn, hz, Nat.zero_mul])
    have e2 : cs = [] := List.eq_nil_of_length_eq_zero (by rw [hl, e1]; rfl)
    subst e1 e2
    have : L.set i (.row (.slice none 0 0) T sz []) = L := by
      apply List.ext_getElem?
      intro j
      by_cases hj : i = j
      · subst hj
        rw [hL, List.getElem?_set_self ((List.getElem?_eq_some_iff.1 hL).1)]
      · rw [List.getElem?_set_ne hj]
    rw [this]
    exact hm'
end
end Go.Proofs.Ytaiiiendfcglmaa.St
