/-
  Comparing strings.
-/
import Derived.Test.YtbcboklmeifghaaGreatJ2
import Derived.Test.YtbcboklmeifghaaGreatLNum
import Derived.Test.YtbcboklmeifghaaGreatJ3
import Derived.Test.YtbcboklmeifghaaGreatScal
import Derived.Laws.BytesArg
import Derived.Laws.Concat

section
set_option linter.unusedSimpArgs false
set_option linter.unusedVariables false
namespace Go.Proofs.YtbcboklmeifghaaGreat.St
open Go.RowKit
section
variable {P : Program} {w : World} {E : Env} {Φ : Value → World → Prop} {ty t t' : TypeId} {x y : Operand}
theorem strB (m n : ByteArray) : (m.toList == n.toList) = dB (m = n) := by
  rw [dB_eq, ByteArray.toList_eq, ByteArray.toList_eq]
  have : m.data.toList = n.data.toList ↔ m = n := ⟨fun h => ByteArray.ext (Array.toList_inj.mp h), fun h => by rw [h]⟩
  by_cases h : m = n
  · simp [h]
  · have h' : ¬ m.data.toList = n.data.toList := fun e => h (this.1 e)
    rw [decide_eq_false h]
    exact beq_eq_false_iff_ne.2 h'
theorem does_eqlStr [StrT P t] {m n : ByteArray} (hx : ev E x = some (.string m)) (hy : ev E y = some (.string n)) (k : Φ (.bool (dB (m = n))) w) :
    Does P (.binOp .eql t x y t') ty E w Φ :=
  does_bin hx hy rfl (by rw [binOp_string_eql, strB]; rfl) k
theorem does_neqStr [StrT P t] {m n : ByteArray} (hx : ev E x = some (.string m)) (hy : ev E y = some (.string n)) (k : Φ (.bool (dB (¬ m = n))) w) :
    Does P (.binOp .neq t x y t') ty E w Φ :=
  does_bin hx hy rfl (by rw [binOp_string_neq, strB, dB_not]; rfl) k
theorem does_eqlStrS [hu : StrT P t] {m : ByteArray} (hx : ev E x = some (.string m)) (hy : ev E y = some (.string m)) (k : Φ (.bool true) w) :
    Does P (.binOp .eql t x y t') ty E w Φ := does_eqlStr hx hy (by rw [bT rfl]; exact k)
theorem does_neqStrS [hu : StrT P t] {m : ByteArray} (hx : ev E x = some (.string m)) (hy : ev E y = some (.string m)) (k : Φ (.bool false) w) :
    Does P (.binOp .neq t x y t') ty E w Φ := does_neqStr hx hy (by rw [bF (fun h => h rfl)]; exact k)
end
end Go.Proofs.YtbcboklmeifghaaGreat.St
end

section
/-
  Contracts of the functions on compiled code.
-/
set_option linter.unusedSimpArgs false
set_option linter.unusedVariables false
namespace Go.Proofs.YtbcboklmeifghaaGreat.St
open Go.RowKit Go.WideShapes
/-- what is left of a size's bound, or -1 -/
def leftR (n left : Int) (v : Value) : Prop := ∃ r, v = I r ∧ (r = -1 ∨ (0 ≤ r ∧ r + n ≤ left))
abbrev eS (s : ByteArray) : List Value := [.string s]
theorem Sl.atS {B : Heap} {p : Option Addr} {xs : List ByteArray} (h : Sl B p eS 1 xs) {k : Nat} (hk : k < xs.length) : ∃ a, p = some a ∧ At B (a.add k) [.string xs[k]] := by
  obtain ⟨a, ha, hat⟩ := h.at hk
  rw [Nat.mul_one] at hat
  exact ⟨a, ha, hat⟩
def smallS (xs : List ByteArray) : Prop := ∀ s ∈ xs, s.size ≤ maxLen
theorem smallS.get {xs : List ByteArray} (h : smallS xs) {k : Nat} (hk : k < xs.length) : xs[k].size ≤ 9223372036854775807 := by
  have := h _ (List.getElem_mem hk)
  simp only [maxLen] at this
  omega
theorem openStringS {H : Type} {enc : TypeId × Value → H} {P : Program} {w : World} {spare : Nat → Bool} {held : Bool} {t e : TypeId} {fuel : Nat} {c : Value} {x : DataW H × List MemPlace} (hu : P.underlying t = some (.slice e)) (hf : flatT P 9 e = some [.str]) (hc : P.cellsOf e = 1)
    (h : DataW.trod enc P w 0 spare held fuel t [c] = some x) : ∃ (p : Option Addr) (xs : List ByteArray) (cap : Nat), c = .slice p xs.length cap ∧ xs.length ≤ cap ∧ cap ≤ maxLen ∧ Sl (fun b => w.heap[b]?) p eS 1 xs ∧ smallS xs := by
  obtain ⟨p, css, cap, rfl, h1, h2, h3, h4⟩ := openSlice hu hf (by simp) (by simpa using hc) h
  obtain ⟨xs, rfl, hq⟩ := list_of eS (fun x => x.size ≤ maxLen) css fun cs hcs => by
    obtain ⟨n0, r0, rfl, b0, f1⟩ := fits_str (h4 cs hcs)
    obtain rfl := fits_nil f1
    exact ⟨n0, rfl, b0⟩
  refine ⟨p, xs, cap, by rw [List.length_map], by rwa [List.length_map] at h1, h2, fun i x hi => ?_, hq⟩
  exact h3 i (eS x) (by rw [List.getElem?_map, hi]; rfl)
abbrev TInstruction := Int × ByteArray × Int
abbrev eInstruction (x : TInstruction) : List Value := [I x.1, .string x.2.1, I x.2.2]

def bdInstruction (x : TInstruction) : Prop := (-9223372036854775808 ≤ x.1 ∧ x.1 ≤ 9223372036854775807) ∧ (x.2.1).size ≤ maxLen ∧ (-9223372036854775808 ≤ x.2.2 ∧ x.2.2 ≤ 9223372036854775807)
theorem openInstructionS {H : Type} {enc : TypeId × Value → H} {P : Program} {w : World} {spare : Nat → Bool} {held : Bool} {t e : TypeId} {fuel : Nat} {c : Value} {x : DataW H × List MemPlace} (hu : P.underlying t = some (.slice e)) (hf : flatT P 9 e = some [.int .i64, .str, .int .i64]) (hc : P.cellsOf e = 3)
    (h : DataW.trod enc P w 0 spare held fuel t [c] = some x) : ∃ (p : Option Addr) (xs : List TInstruction) (cap : Nat), c = .slice p xs.length cap ∧ xs.length ≤ cap ∧ cap ≤ maxLen ∧ Sl (fun b => w.heap[b]?) p eInstruction 3 xs ∧ ∀ x ∈ xs, bdInstruction x := by
  obtain ⟨p, css, cap, rfl, h1, h2, h3, h4⟩ := openSlice hu hf (by simp) (by simpa using hc) h
  obtain ⟨xs, rfl, hq⟩ := list_of eInstruction bdInstruction css fun cs hcs => by
    have f0 := h4 cs hcs
    obtain ⟨n0, r0, rfl, b0, f1⟩ := fits_i64 f0
    obtain ⟨n1, r1, rfl, b1, f2⟩ := fits_str f1
    obtain ⟨n2, r2, rfl, b2, f3⟩ := fits_i64 f2
    obtain rfl := fits_nil f3
    exact ⟨(n0, n1, n2), rfl, b0, b1, b2⟩
  refine ⟨p, xs, cap, by rw [List.length_map], by rwa [List.length_map] at h1, h2, fun i x hi => ?_, hq⟩
  exact h3 i (eInstruction x) (by rw [List.getElem?_map, hi]; rfl)
theorem eInstruction_inj {x y : TInstruction} (h : eInstruction x = eInstruction y) : x = y := by
  obtain ⟨x0, x1, x2⟩ := x
  obtain ⟨y0, y1, y2⟩ := y
  simp only [eInstruction, List.cons.injEq, Value.int.injEq, Value.string.injEq, Value.bool.injEq, true_and, and_true] at h
  simp only [Prod.mk.injEq]
  exact h

def smallI (xs : List TInstruction) : Prop := ∀ x ∈ xs, x.2.1.size ≤ maxLen
theorem smallI.get {xs : List TInstruction} (h : smallI xs) {k : Nat} (hk : k < xs.length) : xs[k].2.1.size ≤ 9223372036854775807 := by
  have := h _ (List.getElem_mem hk)
  simp only [maxLen] at this
  omega
def CodeR (xs : List TInstruction) (ys : List ByteArray) (v : Value) (H : Heap) : Prop := ∃ p c q d, v = .agg #[.slice p xs.length c, .slice q ys.length d] ∧ (xs.length ≤ c ∧ c ≤ maxLen) ∧ (ys.length ≤ d ∧ d ≤ maxLen) ∧ Sl H p eInstruction 3 xs ∧ Sl H q eS 1 ys
instance (xs : List TInstruction) (ys : List ByteArray) : MonoR (CodeR xs ys) := ⟨fun _ _ _ hle ⟨p, c, q, d, h0, h1, h2, h3, h4⟩ => ⟨p, c, q, d, h0, h1, h2, h3.mono hle, h4.mono hle⟩⟩
end Go.Proofs.YtbcboklmeifghaaGreat.St
end

section
/-
  Strings made of bytes, and one behind the other; a slice that is a row of one's own or empty.
-/
set_option linter.unusedSimpArgs false
set_option linter.unusedVariables false
namespace Go.Proofs.YtbcboklmeifghaaGreat.St
open Go.RowKit
section
variable {P : Program} {w W0 : World} {X : List Nat} {B : Heap} {L : List Own} {E : Env} {Φ : Value → World → Prop} {ty t t' : TypeId} {x y : Operand}
theorem does_addStr {m n : ByteArray} (hx : ev E x = some (.string m)) (hy : ev E y = some (.string n)) (hs : m.size + n.size ≤ 9223372036854775807) (k : Φ (.string (m ++ n)) w) :
    Does P (.binOp .add t x y t') ty E w Φ :=
  does_bin hx hy rfl (by rw [binOp_string_add, run_string_add_sum w m n hs]) k
theorem does_convU8 {m : Int} (hu : P.underlying t = some (.int .i64)) (hu' : P.underlying t' = some (.int .u8)) (hx : ev E x = some (.int .i64 m)) (hb : 0 ≤ m ∧ m ≤ 255) (k : Φ (.int .u8 m) w) : Does P (.convert t t' x) ty E w Φ := by
  refine ⟨fun ρ hρ => ?_⟩
  have hw : IntKind.u8.wrap m = m := by simp [IntKind.wrap, IntKind.signed, IntKind.bits]; omega
  have : (execOp ρ (mk (.convert t t' x) ty)).run P w = .ok (.value (.int .u8 m)) w := by
    simp only [execOp, mk, hρ _ _ hx, convert, Sem.run_bind, run_underlying hu, run_underlying hu', Result.andThen_ok]
    simp [Conv.intToInt, hw]
  rw [this]; exact k
theorem does_bytes (i : Nat) {e : TypeId} {b len cap : Nat} {xs : List Int} {T : TypeId} {fz : Nat × Nat} (hu : P.underlying t = some (.slice e)) (he : P.underlying e = some (.int .u8)) (hd : P.underlying t' = some .string) (hm : Mem W0 X B L w)
    (hx : ev E x = some (.slice (some ⟨b, 0, none⟩) len cap)) (hL : L[i]? = some (.blk b (.cells (xs.map (Value.int .u8)).toArray T fz))) (hl : xs.length = len) (k : Φ (.string (strOfNums xs)) w) : Does P (.convert t t' x) ty E w Φ := by
  refine ⟨fun ρ hρ => ?_⟩
  have hb := mem_idx hm hL
  have hr := run_convert_bytes_arg w t e hu he b 0 len cap xs hl (fun j hj => by
    rw [Nat.zero_add]
    refine own_cell hb ?_
    rw [List.getElem?_map, List.getElem?_eq_getElem (by omega)]
    simp [List.getD, List.getElem?_eq_getElem (show j < xs.length by omega)]) t' hd
  have : (execOp ρ (mk (.convert t t' x) ty)).run P w = .ok (.value (.string (strOfNums xs))) w := by
    simp only [execOp, mk, hρ _ _ hx, Sem.run_bind, hr, Result.andThen_ok]
    rfl
  rw [this]; exact k
theorem does_bytes1 (i : Nat) {e : TypeId} {b : Nat} {n : Int} {T : TypeId} {fz : Nat × Nat} (hu : P.underlying t = some (.slice e)) (he : P.underlying e = some (.int .u8)) (hd : P.underlying t' = some .string) (hm : Mem W0 X B L w)
    (hx : ev E x = some (.slice (some ⟨b, 0, none⟩) 1 1)) (hL : L[i]? = some (.blk b (.cells [.int .u8 n].toArray T fz))) (k : Φ (.string (strOfNums [n])) w) : Does P (.convert t t' x) ty E w Φ :=
  does_bytes i (xs := [n]) hu he hd hm hx hL rfl k
theorem perm_erase {α : Type} : ∀ {l : List α} {i : Nat} {x : α}, l[i]? = some x → List.Perm (x :: l.eraseIdx i) l
  | [], i, x, h => by simp at h
  | a :: l, 0, x, h => by
    simp only [List.getElem?_cons_zero, Option.some.injEq] at h
    subst h
    exact .refl _
  | a :: l, i + 1, x, h => by
    simp only [List.getElem?_cons_succ] at h
    exact (List.Perm.swap a x _).trans ((perm_erase h).cons a)
theorem Mem.pull (i : Nat) {o : Own} (hm : Mem W0 X B L w) (hL : L[i]? = some o) : Mem W0 X B (o :: L.eraseIdx i) w := by
  exact hm.perm (perm_erase hL).symm
end
/-- a slice that is a row of one's own, or an empty one wherever -/
structure Shd (v u : Value) (n : Nat) : Prop where
  out : v = u ∨ (n = 0 ∧ u = .slice none 0 0 ∧ ∃ p c, v = .slice p 0 c)
theorem Shd.refl (v : Value) (n : Nat) : Shd v v n := ⟨.inl rfl⟩
theorem Shd.sl {α : Type} {enc : α → List Value} {sz n cap : Nat} {xs : List α} {p : Option Addr} {u : Value} {T : TypeId} {W0 w : World} {X : List Nat} {B : Heap} {L : List Own} (hs : Shd (.slice p n cap) u xs.length) (i : Nat) (hm : Mem W0 X B L w) (hL : L[i]? = some (.row u T sz (xs.map enc).flatten)) (hf : ∀ x, (enc x).length = sz) (hsz : 0 < sz) :
    Sl (fun b => w.heap[b]?) p enc sz xs := by
  rcases hs.out with rfl | ⟨h0, rfl, p', c', h⟩
  · exact row_sl i hm hL hf hsz
  · intro j y hj
    have := (List.getElem?_eq_some_iff.1 hj).1
    omega
theorem Shd.shape {α : Type} {enc : α → List Value} {sz i : Nat} {xs : List α} {v u : Value} {T : TypeId} {W0 w : World} {X : List Nat} {B : Heap} {L : List Own} (hs : Shd v u xs.length) (hm : Mem W0 X B L w) (hL : L[i]? = some (.row u T sz (xs.map enc).flatten)) (hf : ∀ x, (enc x).length = sz) (hsz : 0 < sz) :
    ∃ p cap, v = .slice p xs.length cap := by
  rcases hs.out with rfl | ⟨h0, rfl, p', c', h⟩
  · obtain ⟨p, cap, h, _⟩ := row_slice hm hL hf hsz
    exact ⟨p, cap, h⟩
  · exact ⟨p', c', by rw [h, h0]⟩
section
variable {P : Program} {w W0 : World} {X : List Nat} {B : Heap} {L : List Own} {E : Env} {Φ : Value → World → Prop} {ty t t' : TypeId} {x y : Operand}
theorem does_funWS (i : Nat) {f : FuncId} {args : List Operand} {ats : Array TypeId} {g : Value → List Value} {v u : Value} {n : Nat} {T : TypeId} {sz : Nat} {cs cs' : List Value} {r : Value} (hm : Mem W0 X B L w) (hen : Enters P f) (hx : evs E args = some (g v)) (hs : Shd v u n) (hn : cs'.length = n * sz)
    (hc : FunW P f (g u) u T sz cs cs' r) (h0 : ∀ p c, n = 0 → Fun P f (g (.slice p 0 c)) r) (hL : L[i]? = some (.row u T sz cs)) (hl : cs.length = cs'.length) (k : ∀ w', Mem W0 X B (L.set i (.row u T sz cs')) w' → Φ r w') : Does P (.call { callee := .value (.func f), args := args.toArray, argTypes := ats }) ty E w Φ := by
  rcases hs.out with rfl | ⟨hz, rfl, p, c, rfl⟩
  · exact does_funW i hm hen hx hc hL k
  · refine does_funM hm hen hx (h0 p c hz) fun w' hm' => k w' ?_
    have e1 : cs' = [] := List.eq_nil_of_length_eq_zero (by rw [hn, hz, Nat.zero_mul])
    have e2 : cs = [] := List.eq_nil_of_length_eq_zero (by rw [hl, e1]; rfl)
    subst e1 e2
    have : L.set i (.row (.slice none 0 0) T sz []) = L := by
      apply List.ext_getElem?
      intro j
      by_cases hj : i = j
      · subst hj
        rw [hL, List.getElem?_set_self ((List.getElem?_eq_some_iff.1 hL).1)]
      · rw [List.getElem?_set_ne hj]
    rw [this]
    exact hm'
end
end Go.Proofs.YtbcboklmeifghaaGreat.St
end
