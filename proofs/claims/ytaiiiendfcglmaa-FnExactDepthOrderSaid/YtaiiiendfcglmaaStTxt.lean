/-
  The bytes of strings, and ranges over strings.
-/
import Derived.Test.YtaiiiendfcglmaaStOwn
set_option linter.unusedSimpArgs false
set_option linter.unusedVariables false
namespace Go.Proofs.Ytaiiiendfcglmaa.St
open Go.RowKit
/-- a byte of a string, as a number -/
def bt (s : ByteArray) (i : Nat) : Int := ((s.get! i).toNat : Int)
theorem bt_bd (s : ByteArray) (i : Nat) : 0 ≤ bt s i ∧ bt s i ≤ 255 := by
  have := (s.get! i).toNat_lt
  unfold bt
  omega
theorem get_of {s : ByteArray} {i : Nat} (h : i < s.size) : s[i]? = some (s.get! i) := by
  rw [getElem?_pos s i h]
  congr 1
  show s[i] = s.data[i]!
  have h2 : i < s.data.size := h
  rw [getElem!_pos s.data i h2]
  rfl
theorem decode_lo {s : ByteArray} {i : Nat} (h : bt s i < 128) : Utf8.decode s i = ((s.get! i).toNat, 1) := by
  have h1 : (s.get! i).toNat < 128 := by unfold bt at h; omega
  simp [Utf8.decode, h1]
theorem decode_hi {s : ByteArray} {i : Nat} (h : ¬ bt s i < 128) : 128 ≤ (Utf8.decode s i).1 ∧ 1 ≤ (Utf8.decode s i).2 := by
  have h1 : ¬ (s.get! i).toNat < 128 := by unfold bt at h; omega
  have h0 : ∀ k, (s.get! (i + k)).toNat < 256 := fun k => (s.get! (i + k)).toNat_lt
  unfold Utf8.decode
  simp only [Nat.add_zero, h1, if_false, Utf8.runeError]
  split
  · split <;> rename_i hh <;> simp at hh ⊢ <;> omega
  · split
    · split <;> rename_i hh <;> simp at hh ⊢ <;> omega
    · split
      · split <;> rename_i hh <;> simp at hh ⊢ <;> omega
      · simp
def isRow : Obj → Bool
  | .cells _ _ _ => true
  | _ => false
theorem run_get {P : Program} {w : World} {b : Nat} {o : Obj} (h : w.heap[b]? = some o) (ho : isRow o = false) : (getObj b).run P w = .ok o w := by
  cases o <;> first | (cases ho; done) | simp [getObj, Sem.run, h]
theorem run_set {P : Program} {w : World} {b : Nat} {o : Obj} (o' : Obj) (h : w.heap[b]? = some o) (ho : isRow o = false) : (setObj b o').run P w = .ok () { w with heap := w.heap.setIfInBounds b o' } := by
  cases o <;> first | (cases ho; done) | simp [setObj, Sem.run, h]
section
variable {P : Program} {E : Env} {w W0 : World} {X : List Nat} {B : Heap} {L : List Own} {Φ : Value → World → Prop} {ty t : TypeId} {x y : Operand}
theorem does_strIdx {s : ByteArray} {j : IntKind} {m : Int} (h0 : 0 ≤ m ∧ m < s.size) [hs : StrT P t] (hx : ev E x = some (.string s)) (hy : ev E y = some (.int j m)) (k : Φ (.int .u8 (bt s m.toNat)) w) : Does P (.index t x y) ty E w Φ := by
  refine ⟨fun ρ hρ => ?_⟩
  have hg := get_of (s := s) (i := m.toNat) (by omega)
  have : (execOp ρ (mk (.index t x y) ty)).run P w = .ok (.value (.int .u8 (bt s m.toNat))) w := by
    simp only [execOp, mk, Instr.index, hρ _ _ hx, hρ _ _ hy, asIntOf, Sem.run_bind, Sem.run_pure, Result.andThen_ok, run_underlying hs.out, h0.1, if_true, hg]
    rfl
  rw [this]; exact k
theorem does_strIdxN {s : ByteArray} {j : IntKind} {i : Nat} (h0 : i < s.size) [hs : StrT P t] (hx : ev E x = some (.string s)) (hy : ev E y = some (.int j i)) (k : Φ (.int .u8 (bt s i)) w) : Does P (.index t x y) ty E w Φ :=
  does_strIdx (m := i) (by omega) hx hy (by simpa using k)
theorem does_rangeStr {s : ByteArray} [hs : StrT P t] (hm : Mem W0 X B L w) (hx : ev E x = some (.string s)) (k : ∀ b w', Mem W0 X B (.blk b (.stringIter s 0) :: L) w' → Φ (.pointer (some ⟨b, 0, none⟩)) w') : Does P (.range t x) ty E w Φ := by
  refine ⟨fun ρ hρ => ?_⟩
  have : (execOp ρ (mk (.range t x) ty)).run P w = .ok (.value (.pointer (some ⟨w.heap.size, 0, none⟩))) (w.alloc (.stringIter s 0)) := by
    simp [execOp, mk, Instr.range, hρ _ _ hx, run_underlying hs.out]
  rw [this]; exact k _ _ (hm.alloc _)
theorem next_mem (i : Nat) {b : Nat} {o o' : Obj} (hm : Mem W0 X B L w) (hL : L[i]? = some (.blk b o)) : Mem W0 X B (L.set i (.blk b o')) { w with heap := w.heap.setIfInBounds b o' } := by
  have hb := mem_idx hm hL
  have hlt : b < w.heap.size := (Array.getElem?_eq_some_iff.1 hb).1
  exact hm.update i hL rfl rfl rfl (by simp) (by simp [hlt]) (fun c hc _ => by simp [Array.getElem?_setIfInBounds_ne (Ne.symm hc)])
theorem does_nextStr (i : Nat) {s : ByteArray} {b p : Nat} (hm : Mem W0 X B L w) (hx : ev E x = some (.pointer (some ⟨b, 0, none⟩))) (hL : L[i]? = some (.blk b (.stringIter s p))) (hp : p < s.size)
    (k : ∀ w', Mem W0 X B (L.set i (.blk b (.stringIter s (p + (Utf8.decode s p).2)))) w' → Φ (.tuple #[.bool true, .int .i64 p, .int .i32 ((Utf8.decode s p).1 : Nat)]) w') : Does P (.next x true) ty E w Φ := by
  refine ⟨fun ρ hρ => ?_⟩
  have hb := mem_idx hm hL
  have hlt : b < w.heap.size := (Array.getElem?_eq_some_iff.1 hb).1
  have : (execOp ρ (mk (.next x true) ty)).run P w = .ok (.value (.tuple #[.bool true, .int .i64 p, .int .i32 ((Utf8.decode s p).1 : Nat)])) { w with heap := w.heap.setIfInBounds b (.stringIter s (p + (Utf8.decode s p).2)) } := by
    simp only [Own.holds] at hb
    simp [execOp, mk, Instr.next, hρ _ _ hx, run_get hb rfl, hp, run_set _ hb rfl, goInt]
  rw [this]; exact k _ (next_mem i hm hL)
theorem does_nextEnd (i : Nat) {s : ByteArray} {b p : Nat} (hm : Mem W0 X B L w) (hx : ev E x = some (.pointer (some ⟨b, 0, none⟩))) (hL : L[i]? = some (.blk b (.stringIter s p))) (hp : ¬ p < s.size)
    (k : Φ (.tuple #[.bool false]) w) : Does P (.next x true) ty E w Φ := by
  refine ⟨fun ρ hρ => ?_⟩
  have hb := mem_idx hm hL
  have : (execOp ρ (mk (.next x true) ty)).run P w = .ok (.value (.tuple #[.bool false])) w := by
    simp only [Own.holds] at hb
    simp [execOp, mk, Instr.next, hρ _ _ hx, run_get hb rfl, hp]
  rw [this]; exact k
end
end Go.Proofs.Ytaiiiendfcglmaa.St
