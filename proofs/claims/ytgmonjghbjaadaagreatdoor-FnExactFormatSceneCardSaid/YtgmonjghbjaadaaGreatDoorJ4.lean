/-
  Strings made of bytes, and one behind the other; a slice that is a row of one's own or empty.
-/
import Derived.Test.YtgmonjghbjaadaaGreatDoorJ3
import Derived.Test.YtgmonjghbjaadaaGreatDoorJ2
import Derived.Laws.BytesArg
import Derived.Laws.Concat
import Derived.Lib.ItoaNum
import Derived.Lib.Join

section
set_option linter.unusedSimpArgs false
set_option linter.unusedVariables false
namespace Go.Proofs.YtgmonjghbjaadaaGreatDoor.St
open Go.RowKit
section
variable {P : Program} {w W0 : World} {X : List Nat} {B : Heap} {L : List Own} {E : Env} {Φ : Value → World → Prop} {ty t t' : TypeId} {x y : Operand}
theorem does_addStr {m n : ByteArray} (hx : ev E x = some (.string m)) (hy : ev E y = some (.string n)) (hs : m.size + n.size ≤ 9223372036854775807) (k : Φ (.string (m ++ n)) w) :
    Does P (.binOp .add t x y t') ty E w Φ :=
  does_bin hx hy rfl (by rw [binOp_string_add, run_string_add_sum w m n hs]) k
theorem does_convU8 {m : Int} (hu : P.underlying t = some (.int .i64)) (hu' : P.underlying t' = some (.int .u8)) (hx : ev E x = some (.int .i64 m)) (hb : 0 ≤ m ∧ m ≤ 255) (k : Φ (.int .u8 m) w) : Does P (.convert t t' x) ty E w Φ := by
  refine ⟨fun ρ hρ => ?_⟩
  have hw : IntKind.u8.wrap m = m := by simp [IntKind.wrap, IntKind.signed, IntKind.bits]; omega
  have : (execOp ρ (mk (.convert t t' x) ty)).run P w = .ok (.value (.int .u8 m)) w := by
    simp only [execOp, mk, hρ _ _ hx, convert, Sem.run_bind, run_underlying hu, run_underlying hu', Result.andThen_ok]
    simp [Conv.intToInt, hw]
  rw [this]; exact k
theorem does_bytes (i : Nat) {e : TypeId} {b len cap : Nat} {xs : List Int} {T : TypeId} {fz : Nat × Nat} (hu : P.underlying t = some (.slice e)) (he : P.underlying e = some (.int .u8)) (hd : P.underlying t' = some .string) (hm : Mem W0 X B L w)
    (hx : ev E x = some (.slice (some ⟨b, 0, none⟩) len cap)) (hL : L[i]? = some (.blk b (.cells (xs.map (Value.int .u8)).toArray T fz))) (hl : xs.length = len) (k : Φ (.string (strOfNums xs)) w) : Does P (.convert t t' x) ty E w Φ := by
  refine ⟨fun ρ hρ => ?_⟩
  have hb := mem_idx hm hL
  have hr := run_convert_bytes_arg w t e hu he b 0 len cap xs hl (fun j hj => by
    rw [Nat.zero_add]
    refine own_cell hb ?_
    rw [List.getElem?_map, List.getElem?_eq_getElem (by omega)]
    simp [List.getD, List.getElem?_eq_getElem (show j < xs.length by omega)]) t' hd
  have : (execOp ρ (mk (.convert t t' x) ty)).run P w = .ok (.value (.string (strOfNums xs))) w := by
    simp only [execOp, mk, hρ _ _ hx, Sem.run_bind, hr, Result.andThen_ok]
    rfl
  rw [this]; exact k
theorem does_bytes1 (i : Nat) {e : TypeId} {b : Nat} {n : Int} {T : TypeId} {fz : Nat × Nat} (hu : P.underlying t = some (.slice e)) (he : P.underlying e = some (.int .u8)) (hd : P.underlying t' = some .string) (hm : Mem W0 X B L w)
    (hx : ev E x = some (.slice (some ⟨b, 0, none⟩) 1 1)) (hL : L[i]? = some (.blk b (.cells [.int .u8 n].toArray T fz))) (k : Φ (.string (strOfNums [n])) w) : Does P (.convert t t' x) ty E w Φ :=
  does_bytes i (xs := [n]) hu he hd hm hx hL rfl k
end
/-- a slice that is a row of one's own, or an empty one wherever -/
structure Shd (v u : Value) (n : Nat) : Prop where
  out : v = u ∨ (n = 0 ∧ u = .slice none 0 0 ∧ ∃ p c, v = .slice p 0 c)
theorem Shd.refl (v : Value) (n : Nat) : Shd v v n := ⟨.inl rfl⟩
theorem Shd.shape {α : Type} {enc : α → List Value} {sz i : Nat} {xs : List α} {v u : Value} {T : TypeId} {W0 w : World} {X : List Nat} {B : Heap} {L : List Own} (hs : Shd v u xs.length) (hm : Mem W0 X B L w) (hL : L[i]? = some (.row u T sz (xs.map enc).flatten)) (hf : ∀ x, (enc x).length = sz) (hsz : 0 < sz) :
    ∃ p cap, v = .slice p xs.length cap := by
  rcases hs.out with rfl | ⟨h0, rfl, p', c', h⟩
  · obtain ⟨p, cap, h, _⟩ := row_slice hm hL hf hsz
    exact ⟨p, cap, h⟩
  · exact ⟨p', c', by rw [h, h0]⟩
section
variable {P : Program} {w W0 : World} {X : List Nat} {B : Heap} {L : List Own} {E : Env} {Φ : Value → World → Prop} {ty t t' : TypeId} {x y : Operand}
end
end Go.Proofs.YtgmonjghbjaadaaGreatDoor.St
end

section
/-
  Texts of numbers, and of rows of numbers: plain laws.
-/
set_option linter.unusedSimpArgs false
set_option linter.unusedVariables false
namespace Go.Proofs.YtgmonjghbjaadaaGreatDoor.St
open Go.RowKit
abbrev bs (l : List UInt8) : ByteArray := ⟨l.toArray⟩
theorem bs_append (a b : List UInt8) : bs a ++ bs b = bs (a ++ b) := by
  apply ByteArray.ext
  simp [ByteArray.data_append]
theorem bs_size (a : List UInt8) : (bs a).size = a.length := by simp [ByteArray.size]
theorem strOne (d : Nat) : strOfNums [((48 + d : Nat) : Int)] = bs [UInt8.ofNat (48 + d)] := by
  simp only [strOfNums, List.map_cons, List.map_nil, Int.toNat_natCast]
abbrev dTx (n : Nat) : ByteArray := bs (Lib.decDigits n)
abbrev iTx (n : Int) : ByteArray := bs (Lib.itoa n)
theorem dTx_big {n : Nat} (h : 10 ≤ n) : dTx n = dTx (n / 10) ++ strOfNums [((48 + n % 10 : Nat) : Int)] := by
  rw [strOne, bs_append]
  unfold dTx
  rw [Lib.decDigits, dif_neg (by omega)]
theorem dTx_small {n : Nat} (h : n < 10) : dTx n = strOfNums [((48 + n : Nat) : Int)] := by
  rw [strOne]
  unfold dTx
  rw [Lib.decDigits, dif_pos h]
theorem iTx_pos {n : Nat} : iTx (n : Int) = dTx n := by
  unfold iTx dTx Lib.itoa
  rw [if_neg (by omega), Int.toNat_natCast]
theorem iTx_neg {n : Nat} (h : 0 < n) : iTx (-(n : Int)) = bs [45] ++ dTx n := by
  unfold iTx dTx Lib.itoa
  rw [if_pos (by omega), bs_append, show (-(n : Int)).natAbs = n by omega]
  rfl
theorem decDigits_pos : ∀ n : Nat, 0 < (Lib.decDigits n).length := fun n => by
  rw [Lib.decDigits]
  split <;> simp
theorem decDigits_bd : ∀ (k n : Nat), n < 10 ^ k → 0 < k → (Lib.decDigits n).length ≤ k
  | 0, _, _, h => absurd h (by omega)
  | k + 1, n, hn, _ => by
    rw [Lib.decDigits]
    split
    · simp
    · rename_i h
      have hk : 0 < k := by
        rcases Nat.eq_zero_or_pos k with rfl | h0
        · simp at hn; omega
        · exact h0
      have := decDigits_bd k (n / 10) (by rw [Nat.pow_succ] at hn; omega) hk
      rw [List.length_append]
      simpa using this
theorem iTx_size {n : Int} (h : -1000000000 ≤ n ∧ n ≤ 1000000000) : 1 ≤ (Lib.itoa n).length ∧ (Lib.itoa n).length ≤ 11 := by
  unfold Lib.itoa
  split
  · have h1 := decDigits_bd 10 n.natAbs (by omega) (by omega)
    have h2 := decDigits_pos n.natAbs
    simp only [List.length_cons]
    omega
  · have h1 := decDigits_bd 10 n.toNat (by omega) (by omega)
    have h2 := decDigits_pos n.toNat
    omega
/-- the numbers of a row, commas between them -/
def lTx (l : List Int) : List UInt8 := if l = [] then [45] else Lib.join (l.map Lib.itoa) [44]
def okTx (l : List Int) : Prop := ∀ n ∈ l, -1000000000 ≤ n ∧ n ≤ 1000000000
theorem lens_bd : ∀ {l : List Int}, okTx l → Lib.lens (l.map Lib.itoa) ≤ 11 * l.length
  | [], _ => by simp [Lib.lens]
  | x :: l, h => by
    have h1 := (iTx_size (h x (List.mem_cons_self ..))).2
    have h2 := lens_bd (l := l) fun n hn => h n (List.mem_cons_of_mem _ hn)
    simp only [Lib.lens, List.map_cons, List.sum_cons, List.length_cons] at h2 ⊢
    omega
theorem join_bd {l : List Int} (h : okTx l) : (Lib.join (l.map Lib.itoa) [44]).length ≤ 12 * l.length := by
  cases l with
  | nil => simp [Lib.join, List.intercalate]
  | cons x l =>
    rw [List.map_cons, Lib.join_length, ← List.map_cons]
    have := lens_bd h
    simp only [List.length_cons, List.length_nil, List.length_map] at this ⊢
    omega
/-- what the reference has written after k numbers -/
def jUpTo (l : List Int) (k : Nat) : List UInt8 := Lib.join ((l.take k).map Lib.itoa) [44]
theorem jUpTo_one {l : List Int} (h : 0 < l.length) : jUpTo l 1 = Lib.itoa l[0] := by
  cases l with
  | nil => simp at h
  | cons x l => simp [jUpTo, Lib.join, List.intercalate]
theorem jUpTo_succ {l : List Int} {k : Nat} (h : k + 1 < l.length) : jUpTo l (k + 2) = jUpTo l (k + 1) ++ [44] ++ Lib.itoa l[k + 1] := by
  cases l with
  | nil => simp at h
  | cons x l =>
    have hk : k < l.length := by simpa using h
    unfold jUpTo
    simp only [List.take_succ_cons, List.map_cons, List.getElem_cons_succ]
    rw [Lib.join_cons, Lib.join_cons, List.map_take, List.map_take, Lib.joinTail_take_succ [44] (l.map Lib.itoa) k (Lib.itoa l[k]) (by simp [hk])]
    simp [List.append_assoc]
end Go.Proofs.YtgmonjghbjaadaaGreatDoor.St
end

section
/-
  The bytes of strings, and ranges over strings.
-/
set_option linter.unusedSimpArgs false
set_option linter.unusedVariables false
namespace Go.Proofs.YtgmonjghbjaadaaGreatDoor.St
open Go.RowKit
/-- a byte of a string, as a number -/
def bt (s : ByteArray) (i : Nat) : Int := ((s.get! i).toNat : Int)
theorem bt_bd (s : ByteArray) (i : Nat) : 0 ≤ bt s i ∧ bt s i ≤ 255 := by
  have := (s.get! i).toNat_lt
  unfold bt
  omega
theorem get_of {s : ByteArray} {i : Nat} (h : i < s.size) : s[i]? = some (s.get! i) := by
  rw [getElem?_pos s i h]
  congr 1
  show s[i] = s.data[i]!
  have h2 : i < s.data.size := h
  rw [getElem!_pos s.data i h2]
  rfl
theorem decode_lo {s : ByteArray} {i : Nat} (h : bt s i < 128) : Utf8.decode s i = ((s.get! i).toNat, 1) := by
  have h1 : (s.get! i).toNat < 128 := by unfold bt at h; omega
  simp [Utf8.decode, h1]
theorem decode_hi {s : ByteArray} {i : Nat} (h : ¬ bt s i < 128) : 128 ≤ (Utf8.decode s i).1 ∧ 1 ≤ (Utf8.decode s i).2 := by
  have h1 : ¬ (s.get! i).toNat < 128 := by unfold bt at h; omega
  have h0 : ∀ k, (s.get! (i + k)).toNat < 256 := fun k => (s.get! (i + k)).toNat_lt
  unfold Utf8.decode
  simp only [Nat.add_zero, h1, if_false, Utf8.runeError]
  split
  · split <;> rename_i hh <;> simp at hh ⊢ <;> omega
  · split
    · split <;> rename_i hh <;> simp at hh ⊢ <;> omega
    · split
      · split <;> rename_i hh <;> simp at hh ⊢ <;> omega
      · simp
def isRow : Obj → Bool
  | .cells _ _ _ => true
  | _ => false
theorem run_get {P : Program} {w : World} {b : Nat} {o : Obj} (h : w.heap[b]? = some o) (ho : isRow o = false) : (getObj b).run P w = .ok o w := by
  cases o <;> first | (cases ho; done) | simp [getObj, Sem.run, h]
theorem run_set {P : Program} {w : World} {b : Nat} {o : Obj} (o' : Obj) (h : w.heap[b]? = some o) (ho : isRow o = false) : (setObj b o').run P w = .ok () { w with heap := w.heap.setIfInBounds b o' } := by
  cases o <;> first | (cases ho; done) | simp [setObj, Sem.run, h]
section
variable {P : Program} {E : Env} {w W0 : World} {X : List Nat} {B : Heap} {L : List Own} {Φ : Value → World → Prop} {ty t : TypeId} {x y : Operand}
theorem does_strIdx {s : ByteArray} {j : IntKind} {m : Int} (h0 : 0 ≤ m ∧ m < s.size) [hs : StrT P t] (hx : ev E x = some (.string s)) (hy : ev E y = some (.int j m)) (k : Φ (.int .u8 (bt s m.toNat)) w) : Does P (.index t x y) ty E w Φ := by
  refine ⟨fun ρ hρ => ?_⟩
  have hg := get_of (s := s) (i := m.toNat) (by omega)
  have : (execOp ρ (mk (.index t x y) ty)).run P w = .ok (.value (.int .u8 (bt s m.toNat))) w := by
    simp only [execOp, mk, Instr.index, hρ _ _ hx, hρ _ _ hy, asIntOf, Sem.run_bind, Sem.run_pure, Result.andThen_ok, run_underlying hs.out, h0.1, if_true, hg]
    rfl
  rw [this]; exact k
theorem does_strIdxN {s : ByteArray} {j : IntKind} {i : Nat} (h0 : i < s.size) [hs : StrT P t] (hx : ev E x = some (.string s)) (hy : ev E y = some (.int j i)) (k : Φ (.int .u8 (bt s i)) w) : Does P (.index t x y) ty E w Φ :=
  does_strIdx (m := i) (by omega) hx hy (by simpa using k)
theorem does_rangeStr {s : ByteArray} [hs : StrT P t] (hm : Mem W0 X B L w) (hx : ev E x = some (.string s)) (k : ∀ b w', Mem W0 X B (.blk b (.stringIter s 0) :: L) w' → Φ (.pointer (some ⟨b, 0, none⟩)) w') : Does P (.range t x) ty E w Φ := by
  refine ⟨fun ρ hρ => ?_⟩
  have : (execOp ρ (mk (.range t x) ty)).run P w = .ok (.value (.pointer (some ⟨w.heap.size, 0, none⟩))) (w.alloc (.stringIter s 0)) := by
    simp [execOp, mk, Instr.range, hρ _ _ hx, run_underlying hs.out]
  rw [this]; exact k _ _ (hm.alloc _)
theorem next_mem (i : Nat) {b : Nat} {o o' : Obj} (hm : Mem W0 X B L w) (hL : L[i]? = some (.blk b o)) : Mem W0 X B (L.set i (.blk b o')) { w with heap := w.heap.setIfInBounds b o' } := by
  have hb := mem_idx hm hL
  have hlt : b < w.heap.size := (Array.getElem?_eq_some_iff.1 hb).1
  exact hm.update i hL rfl rfl rfl (by simp) (by simp [hlt]) (fun c hc _ => by simp [Array.getElem?_setIfInBounds_ne (Ne.symm hc)])
theorem does_nextStr (i : Nat) {s : ByteArray} {b p : Nat} (hm : Mem W0 X B L w) (hx : ev E x = some (.pointer (some ⟨b, 0, none⟩))) (hL : L[i]? = some (.blk b (.stringIter s p))) (hp : p < s.size)
    (k : ∀ w', Mem W0 X B (L.set i (.blk b (.stringIter s (p + (Utf8.decode s p).2)))) w' → Φ (.tuple #[.bool true, .int .i64 p, .int .i32 ((Utf8.decode s p).1 : Nat)]) w') : Does P (.next x true) ty E w Φ := by
  refine ⟨fun ρ hρ => ?_⟩
  have hb := mem_idx hm hL
  have hlt : b < w.heap.size := (Array.getElem?_eq_some_iff.1 hb).1
  have : (execOp ρ (mk (.next x true) ty)).run P w = .ok (.value (.tuple #[.bool true, .int .i64 p, .int .i32 ((Utf8.decode s p).1 : Nat)])) { w with heap := w.heap.setIfInBounds b (.stringIter s (p + (Utf8.decode s p).2)) } := by
    simp only [Own.holds] at hb
    simp [execOp, mk, Instr.next, hρ _ _ hx, run_get hb rfl, hp, run_set _ hb rfl, goInt]
  rw [this]; exact k _ (next_mem i hm hL)
theorem does_nextEnd (i : Nat) {s : ByteArray} {b p : Nat} (hm : Mem W0 X B L w) (hx : ev E x = some (.pointer (some ⟨b, 0, none⟩))) (hL : L[i]? = some (.blk b (.stringIter s p))) (hp : ¬ p < s.size)
    (k : Φ (.tuple #[.bool false]) w) : Does P (.next x true) ty E w Φ := by
  refine ⟨fun ρ hρ => ?_⟩
  have hb := mem_idx hm hL
  have : (execOp ρ (mk (.next x true) ty)).run P w = .ok (.value (.tuple #[.bool false])) w := by
    simp only [Own.holds] at hb
    simp [execOp, mk, Instr.next, hρ _ _ hx, run_get hb rfl, hp]
  rw [this]; exact k
end
end Go.Proofs.YtgmonjghbjaadaaGreatDoor.St
end
