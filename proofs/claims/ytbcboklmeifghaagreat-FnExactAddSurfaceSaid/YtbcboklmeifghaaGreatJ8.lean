/-
  The bytes of strings, and ranges over strings.
-/
import Derived.Test.YtbcboklmeifghaaGreatStOwn
import Derived.Test.YtbcboklmeifghaaGreatLPrg
import Derived.Test.YtbcboklmeifghaaGreatJ3

section
set_option linter.unusedSimpArgs false
set_option linter.unusedVariables false
namespace Go.Proofs.YtbcboklmeifghaaGreat.St
open Go.RowKit
/-- a byte of a string, as a number -/
def bt (s : ByteArray) (i : Nat) : Int := ((s.get! i).toNat : Int)
theorem bt_bd (s : ByteArray) (i : Nat) : 0 ≤ bt s i ∧ bt s i ≤ 255 := by
  have := (s.get! i).toNat_lt
  unfold bt
  omega
theorem get_of {s : ByteArray} {i : Nat} (h : i < s.size) : s[i]? = some (s.get! i) := by
  rw [getElem?_pos s i h]
  congr 1
  show s[i] = s.data[i]!
  have h2 : i < s.data.size := h
  rw [getElem!_pos s.data i h2]
  rfl
theorem decode_lo {s : ByteArray} {i : Nat} (h : bt s i < 128) : Utf8.decode s i = ((s.get! i).toNat, 1) := by
  have h1 : (s.get! i).toNat < 128 := by unfold bt at h; omega
  simp [Utf8.decode, h1]
theorem decode_hi {s : ByteArray} {i : Nat} (h : ¬ bt s i < 128) : 128 ≤ (Utf8.decode s i).1 ∧ 1 ≤ (Utf8.decode s i).2 := by
  have h1 : ¬ (s.get! i).toNat < 128 := by unfold bt at h; omega
  have h0 : ∀ k, (s.get! (i + k)).toNat < 256 := fun k => (s.get! (i + k)).toNat_lt
  unfold Utf8.decode
  simp only [Nat.add_zero, h1, if_false, Utf8.runeError]
  split
  · split <;> rename_i hh <;> simp at hh ⊢ <;> omega
  · split
    · split <;> rename_i hh <;> simp at hh ⊢ <;> omega
    · split
      · split <;> rename_i hh <;> simp at hh ⊢ <;> omega
      · simp
def isRow : Obj → Bool
  | .cells _ _ _ => true
  | _ => false
theorem run_get {P : Program} {w : World} {b : Nat} {o : Obj} (h : w.heap[b]? = some o) (ho : isRow o = false) : (getObj b).run P w = .ok o w := by
  cases o <;> first | (cases ho; done) | simp [getObj, Sem.run, h]
theorem run_set {P : Program} {w : World} {b : Nat} {o : Obj} (o' : Obj) (h : w.heap[b]? = some o) (ho : isRow o = false) : (setObj b o').run P w = .ok () { w with heap := w.heap.setIfInBounds b o' } := by
  cases o <;> first | (cases ho; done) | simp [setObj, Sem.run, h]
section
variable {P : Program} {E : Env} {w W0 : World} {X : List Nat} {B : Heap} {L : List Own} {Φ : Value → World → Prop} {ty t : TypeId} {x y : Operand}
theorem does_strIdx {s : ByteArray} {j : IntKind} {m : Int} (h0 : 0 ≤ m ∧ m < s.size) [hs : StrT P t] (hx : ev E x = some (.string s)) (hy : ev E y = some (.int j m)) (k : Φ (.int .u8 (bt s m.toNat)) w) : Does P (.index t x y) ty E w Φ := by
  refine ⟨fun ρ hρ => ?_⟩
  have hg := get_of (s := s) (i := m.toNat) (by omega)
  have : (execOp ρ (mk (.index t x y) ty)).run P w = .ok (.value (.int .u8 (bt s m.toNat))) w := by
    simp only [execOp, mk, Instr.index, hρ _ _ hx, hρ _ _ hy, asIntOf, Sem.run_bind, Sem.run_pure, Result.andThen_ok, run_underlying hs.out, h0.1, if_true, hg]
    rfl
  rw [this]; exact k
theorem does_strIdxN {s : ByteArray} {j : IntKind} {i : Nat} (h0 : i < s.size) [hs : StrT P t] (hx : ev E x = some (.string s)) (hy : ev E y = some (.int j i)) (k : Φ (.int .u8 (bt s i)) w) : Does P (.index t x y) ty E w Φ :=
  does_strIdx (m := i) (by omega) hx hy (by simpa using k)
theorem does_rangeStr {s : ByteArray} [hs : StrT P t] (hm : Mem W0 X B L w) (hx : ev E x = some (.string s)) (k : ∀ b w', Mem W0 X B (.blk b (.stringIter s 0) :: L) w' → Φ (.pointer (some ⟨b, 0, none⟩)) w') : Does P (.range t x) ty E w Φ := by
  refine ⟨fun ρ hρ => ?_⟩
  have : (execOp ρ (mk (.range t x) ty)).run P w = .ok (.value (.pointer (some ⟨w.heap.size, 0, none⟩))) (w.alloc (.stringIter s 0)) := by
    simp [execOp, mk, Instr.range, hρ _ _ hx, run_underlying hs.out]
  rw [this]; exact k _ _ (hm.alloc _)
theorem next_mem (i : Nat) {b : Nat} {o o' : Obj} (hm : Mem W0 X B L w) (hL : L[i]? = some (.blk b o)) : Mem W0 X B (L.set i (.blk b o')) { w with heap := w.heap.setIfInBounds b o' } := by
  have hb := mem_idx hm hL
  have hlt : b < w.heap.size := (Array.getElem?_eq_some_iff.1 hb).1
  exact hm.update i hL rfl rfl rfl (by simp) (by simp [hlt]) (fun c hc _ => by simp [Array.getElem?_setIfInBounds_ne (Ne.symm hc)])
theorem does_nextStr (i : Nat) {s : ByteArray} {b p : Nat} (hm : Mem W0 X B L w) (hx : ev E x = some (.pointer (some ⟨b, 0, none⟩))) (hL : L[i]? = some (.blk b (.stringIter s p))) (hp : p < s.size)
    (k : ∀ w', Mem W0 X B (L.set i (.blk b (.stringIter s (p + (Utf8.decode s p).2)))) w' → Φ (.tuple #[.bool true, .int .i64 p, .int .i32 ((Utf8.decode s p).1 : Nat)]) w') : Does P (.next x true) ty E w Φ := by
  refine ⟨fun ρ hρ => ?_⟩
  have hb := mem_idx hm hL
  have hlt : b < w.heap.size := (Array.getElem?_eq_some_iff.1 hb).1
  have : (execOp ρ (mk (.next x true) ty)).run P w = .ok (.value (.tuple #[.bool true, .int .i64 p, .int .i32 ((Utf8.decode s p).1 : Nat)])) { w with heap := w.heap.setIfInBounds b (.stringIter s (p + (Utf8.decode s p).2)) } := by
    simp only [Own.holds] at hb
    simp [execOp, mk, Instr.next, hρ _ _ hx, run_get hb rfl, hp, run_set _ hb rfl, goInt]
  rw [this]; exact k _ (next_mem i hm hL)
theorem does_nextEnd (i : Nat) {s : ByteArray} {b p : Nat} (hm : Mem W0 X B L w) (hx : ev E x = some (.pointer (some ⟨b, 0, none⟩))) (hL : L[i]? = some (.blk b (.stringIter s p))) (hp : ¬ p < s.size)
    (k : Φ (.tuple #[.bool false]) w) : Does P (.next x true) ty E w Φ := by
  refine ⟨fun ρ hρ => ?_⟩
  have hb := mem_idx hm hL
  have : (execOp ρ (mk (.next x true) ty)).run P w = .ok (.value (.tuple #[.bool false])) w := by
    simp only [Own.holds] at hb
    simp [execOp, mk, Instr.next, hρ _ _ hx, run_get hb rfl, hp]
  rw [this]; exact k
end
end Go.Proofs.YtbcboklmeifghaaGreat.St
end

section
/-
  Identifiers, and nodes with the right fields.
-/
set_option linter.unusedSimpArgs false
set_option linter.unusedVariables false
namespace Go.Proofs.YtbcboklmeifghaaGreat.St
open Go.RowKit
def okc (s : ByteArray) (i : Nat) : Prop := (97 ≤ bt s i ∧ bt s i ≤ 122) ∨ (i ≠ 0 ∧ 48 ≤ bt s i ∧ bt s i ≤ 57)
def ident (s : ByteArray) : Prop := (1 ≤ s.size ∧ s.size ≤ 8) ∧ ∀ i, i < s.size → okc s i
theorem ident_no {s : ByteArray} {k : Nat} (hk : k < s.size) (h : ¬ okc s k) : ¬ ident s := fun e => h (e.2 k hk)
theorem okc_step {s : ByteArray} {k : Nat} (hpre : ∀ i, i < k → okc s i) (h : okc s k) : ∀ i, i < k + 1 → okc s i := fun i hi => by
  by_cases hik : i < k
  · exact hpre i hik
  · obtain rfl : i = k := by omega
    exact h
section
variable {P : Program} {E : Env} {w W0 : World} {X : List Nat} {B : Heap} {L : List Own} {Φ : Value → World → Prop} {ty t : TypeId} {x y : Operand}
theorem does_nextLo (i : Nat) {s : ByteArray} {b p : Nat} (hlo : bt s p < 128 ∧ p < s.size) (hm : Mem W0 X B L w) (hx : ev E x = some (.pointer (some ⟨b, 0, none⟩))) (hL : L[i]? = some (.blk b (.stringIter s p)))
    (k : ∀ w', Mem W0 X B (L.set i (.blk b (.stringIter s (p + 1)))) w' → Φ (.tuple [.bool true, .int .i64 p, .int .i32 (bt s p)].toArray) w') : Does P (.next x true) ty E w Φ := by
  refine does_nextStr i hm hx hL hlo.2 fun w' hm' => ?_
  rw [decode_lo hlo.1] at hm' ⊢
  exact k w' hm'
theorem does_nextHi (i : Nat) {s : ByteArray} {b p : Nat} (hhi : ¬ bt s p < 128 ∧ p < s.size) (hm : Mem W0 X B L w) (hx : ev E x = some (.pointer (some ⟨b, 0, none⟩))) (hL : L[i]? = some (.blk b (.stringIter s p)))
    (k : ∀ (c : Int) q w', 128 ≤ c → Mem W0 X B (L.set i (.blk b (.stringIter s q))) w' → Φ (.tuple [.bool true, .int .i64 p, .int .i32 c].toArray) w') : Does P (.next x true) ty E w Φ := by
  refine does_nextStr i hm hx hL hhi.2 fun w' hm' => ?_
  have := decode_hi hhi.1
  exact k _ _ w' (by omega) hm'
theorem does_nextEnd' (i : Nat) {s : ByteArray} {b p : Nat} (hp : ¬ p < s.size) (hm : Mem W0 X B L w) (hx : ev E x = some (.pointer (some ⟨b, 0, none⟩))) (hL : L[i]? = some (.blk b (.stringIter s p)))
    (k : Φ (.tuple [.bool false].toArray) w) : Does P (.next x true) ty E w Φ := does_nextEnd i hm hx hL hp k
end
set_option maxHeartbeats 4000000 in
theorem isIdentifier_ok (s : ByteArray) : Fun Tryz.prog 145 [.string s] (.bool (dB (ident s))) := by
  refine enterFun Tryz.func145 rfl Tryz.ntmps145 rfl (fun W0 w a hm h => ?_)
  repeat' (first | refine c_seq ?_ | refine c_region ?_ | refine c_nil ?_ | refine k_then ?_ | refine c_block ?_ | ((refine st_op rfl rfl h ?_); clear h a; (first | (show Does _ (.range _ _) _ _ _ _; ((refine does_rangeStr hm rfl ?_; clear hm; intro b w hm))) | (show Does _ (.move _) _ _ _ _; refine does_move rfl ?_) | (show Does _ (.assign _) _ _ _ _; refine does_assign rfl ?_)); intro a h; (try simp only [Value.cells, splice, nz, Nat.reduceAdd, Nat.reduceMul, Int.reduceAdd, Int.reduceToNat, Int.reduceTMod] at h)))
  refine c_loop (σ := Nat) (fun k a w => k ≤ s.size ∧ (∀ i, i < k → okc s i) ∧ Mem W0 [] (fun b => W0.heap[b]?) [.blk b (.stringIter s k)] w ∧ Holds [(0, .string s), (8, .pointer (some ⟨b, 0, none⟩))] _ a) (fun k => s.size - k) 0
    ⟨Nat.zero_le _, fun i hi => absurd hi (Nat.not_lt_zero _), hm, h.keep ⟨rfl, rfl, trivial⟩⟩ ?_
  clear h hm
  rintro k a w ⟨hk, hpre, hm, h⟩
  by_cases hlt : k < s.size
  · have hb := bt_bd s k
    by_cases hlo : bt s k < 128
    · have hk0 : (k = 0) ∨ (k ≠ 0) := Classical.em _
      have hno : ¬ okc s k → ¬ ident s := ident_no hlt
      repeat' (first | refine c_seq ?_ | refine c_region ?_ | refine c_nil ?_ | refine k_then ?_ | refine k_thenR ?_ | refine k_inN ?_ | refine k_inR ?_ | refine c_skip ?_ | refine c_ret ?_ | refine c_block ?_ | refine c_condT h rfl ?_ | refine c_condF h rfl ?_ | ((refine st_op rfl rfl h ?_); clear h a; (first | (show Does _ (.next _ _) _ _ _ _; ((refine does_nextLo 0 (by omega) hm rfl rfl ?_; clear hm; intro w hm))) | (show Does _ (.move _) _ _ _ _; refine does_move rfl ?_) | (show Does _ (.assign _) _ _ _ _; refine does_assign rfl ?_) | (show Does _ (.pick _ _ _) _ _ _ _; (first | refine does_pickT rfl rfl ?_ | refine does_pickF rfl rfl ?_)) | (show Does _ (.binOp _ _ _ _ _) _ _ _ _; (first | refine zleq rfl rfl ?_ | refine zeql rfl rfl ?_)) | (show Does _ (.unOp _ _ _) _ _ _ _; (first | refine does_notD rfl ?_ | refine does_not rfl ?_)) | (show Does _ (.extract _ _) _ _ _ _; refine does_extract rfl rfl ?_)); intro a h; (try simp only [Value.cells, splice, nz, Nat.reduceAdd, Nat.reduceMul, Int.reduceAdd, Int.reduceToNat, Int.reduceTMod] at h)) | ((refine st_skip rfl rfl h ?_); clear h a; intro a h) | ((refine c_condD h rfl ?_ ?_) <;> intro hc <;> (try (fail))) | (refine st_guardD rfl rfl h ?_ ?_ <;> clear h <;> intro hc h))
      all_goals first
        | ((refine k_ret1 rfl h rfl ⟨?_, hm.below⟩); exact boolF (hno (by unfold okc; omega)))
        | exact k_thenN ⟨k + 1, ⟨by omega, okc_step hpre (by unfold okc; omega), hm, h.keep ⟨rfl, rfl, trivial⟩⟩, by omega⟩
    · have hno : ¬ ident s := ident_no hlt (by unfold okc; omega)
      repeat' (first | refine c_seq ?_ | refine c_region ?_ | refine c_nil ?_ | refine k_then ?_ | refine k_thenR ?_ | refine k_inR ?_ | refine c_skip ?_ | refine c_ret ?_ | refine c_block ?_ | refine c_condT h rfl ?_ | ((refine st_op rfl rfl h ?_); clear h a; (first | (show Does _ (.next _ _) _ _ _ _; ((refine does_nextHi 0 (by omega) hm rfl rfl ?_; clear hm; intro c q w hc128 hm))) | (show Does _ (.move _) _ _ _ _; refine does_move rfl ?_) | (show Does _ (.assign _) _ _ _ _; refine does_assign rfl ?_) | (show Does _ (.pick _ _ _) _ _ _ _; (refine does_pickT rfl rfl ?_)) | (show Does _ (.binOp _ _ _ _ _) _ _ _ _; (refine zleq rfl rfl ?_)) | (show Does _ (.unOp _ _ _) _ _ _ _; (refine does_not rfl ?_)) | (show Does _ (.extract _ _) _ _ _ _; refine does_extract rfl rfl ?_)); intro a h; (try simp only [Value.cells, splice, nz, Nat.reduceAdd, Nat.reduceMul, Int.reduceAdd, Int.reduceToNat, Int.reduceTMod] at h)) | ((refine st_skip rfl rfl h ?_); clear h a; intro a h))
      all_goals ((refine k_ret1 rfl h rfl ⟨?_, hm.below⟩); exact boolF hno)
  · obtain rfl : k = s.size := by omega
    repeat' (first | refine c_seq ?_ | refine c_region ?_ | refine c_nil ?_ | refine k_then ?_ | refine k_thenE ?_ | refine k_inE ?_ | refine c_ret ?_ | refine c_exit ?_ | refine c_condF h rfl ?_ | ((refine st_op rfl rfl h ?_); clear h a; (first | (show Does _ (.next _ _) _ _ _ _; ((refine does_nextEnd' 0 (by omega) hm rfl rfl ?_))) | (show Does _ (.move _) _ _ _ _; refine does_move rfl ?_) | (show Does _ (.assign _) _ _ _ _; refine does_assign rfl ?_) | (show Does _ (.pick _ _ _) _ _ _ _; (first | refine does_pickT rfl rfl ?_ | refine does_pickF rfl rfl ?_)) | (show Does _ (.binOp _ _ _ _ _) _ _ _ _; (first | refine zleq rfl rfl ?_ | refine zgeq rfl rfl ?_)) | (show Does _ (.call _) _ _ _ _; refine does_lenStr (StrT.out) rfl ?_) | (show Does _ (.extract _ _) _ _ _ _; refine does_extract rfl rfl ?_)); intro a h; (try simp only [Value.cells, splice, nz, Nat.reduceAdd, Nat.reduceMul, Int.reduceAdd, Int.reduceToNat, Int.reduceTMod] at h)) | ((refine st_skip rfl rfl h ?_); clear h a; intro a h) | (refine st_guardD rfl rfl h ?_ ?_ <;> clear h <;> intro hc h))
    all_goals (refine k_ret1 rfl h rfl ⟨?_, hm.below⟩)
    all_goals first | exact boolF (fun e => by have := e.1; omega) | exact boolI ⟨fun e => ⟨by omega, hpre⟩, fun e => by have := e.1; omega⟩ | exact boolT ⟨by omega, hpre⟩
set_option maxHeartbeats 4000000 in
theorem sIsIdentifier_ok (s : ByteArray) (hs : s.size ≤ 9223372036854775807) : Fun Tryz.prog 119 [.string s] (.bool (dB (ident s))) := by
  refine enterFun Tryz.func119 rfl Tryz.ntmps119 rfl (fun W0 w a hm h => ?_)
  repeat' (first | refine c_seq ?_ | refine c_region ?_ | refine c_nil ?_ | refine k_then ?_ | refine c_block ?_ | ((refine st_op rfl rfl h ?_); clear h a; ((show Does _ (.assign _) _ _ _ _; refine does_assign rfl ?_)); intro a h; (try simp only [Value.cells, splice, nz, Nat.reduceAdd, Nat.reduceMul, Int.reduceAdd, Int.reduceToNat, Int.reduceTMod] at h)))
  refine c_loop (σ := Nat) (fun k a w => k ≤ s.size ∧ (∀ i, i < k → okc s i) ∧ Mem W0 [] (fun b => W0.heap[b]?) [] w ∧ Holds [(0, .string s), (3, .int .i64 k)] _ a) (fun k => s.size - k) 0
    ⟨Nat.zero_le _, fun i hi => absurd hi (Nat.not_lt_zero _), hm, h.keep ⟨rfl, rfl, trivial⟩⟩ ?_
  clear h hm
  rintro k a w ⟨hk, hpre, hm, h⟩
  by_cases hlt : k < s.size
  · have hb := bt_bd s k
    have hno : ¬ okc s k → ¬ ident s := ident_no hlt
    repeat' (first | refine c_seq ?_ | refine c_region ?_ | refine c_nil ?_ | refine k_then ?_ | refine k_thenR ?_ | refine k_inN ?_ | refine k_inR ?_ | refine c_skip ?_ | refine c_ret ?_ | refine c_block ?_ | refine c_condT h rfl ?_ | refine c_condF h rfl ?_ | ((refine st_op rfl rfl h ?_); clear h a; (first | (show Does _ (.index _ _ _) _ _ _ _; (((refine does_strIdxN (by omega) rfl rfl ?_)))) | (show Does _ (.call _) _ _ _ _; (refine does_lenStr (StrT.out) rfl ?_)) | (show Does _ (.move _) _ _ _ _; refine does_move rfl ?_) | (show Does _ (.assign _) _ _ _ _; refine does_assign rfl ?_) | (show Does _ (.pick _ _ _) _ _ _ _; (first | refine does_pickT rfl rfl ?_ | refine does_pickF rfl rfl ?_)) | (show Does _ (.binOp _ _ _ _ _) _ _ _ _; (first | refine zlss rfl rfl ?_ | refine zleq rfl rfl ?_ | refine zgtr rfl rfl ?_ | refine zgeq rfl rfl ?_ | refine zeql rfl rfl ?_ | refine zadd rfl rfl ?_)) | (show Does _ (.unOp _ _ _) _ _ _ _; (first | refine does_notD rfl ?_ | refine does_not rfl ?_))); intro a h; (try simp only [Value.cells, splice, nz, Nat.reduceAdd, Nat.reduceMul, Int.reduceAdd, Int.reduceToNat, Int.reduceTMod] at h)) | ((refine st_skip rfl rfl h ?_); clear h a; intro a h) | ((refine c_condD h rfl ?_ ?_) <;> intro hc <;> (try (fail))) | (refine st_guardD rfl rfl h ?_ ?_ <;> clear h <;> intro hc h))
    all_goals first
      | ((refine k_ret1 rfl h rfl ⟨?_, hm.below⟩); exact boolF (hno (by unfold okc; omega)))
      | exact k_thenN ⟨k + 1, ⟨by omega, okc_step hpre (by unfold okc; omega), hm, h.keep ⟨rfl, rfl, trivial⟩⟩, by omega⟩
  · obtain rfl : k = s.size := by omega
    repeat' (first | refine c_seq ?_ | refine c_region ?_ | refine c_nil ?_ | refine k_then ?_ | refine k_thenE ?_ | refine k_inE ?_ | refine c_ret ?_ | refine c_exit ?_ | refine c_condF h rfl ?_ | ((refine st_op rfl rfl h ?_); clear h a; (first | (show Does _ (.call _) _ _ _ _; (first | ((refine does_funM hm en55 rfl (sIn_ok _ _ _) ?_); clear hm; intro w hm) | refine does_lenStr (StrT.out) rfl ?_)) | (show Does _ (.move _) _ _ _ _; refine does_move rfl ?_) | (show Does _ (.assign _) _ _ _ _; refine does_assign rfl ?_) | (show Does _ (.binOp _ _ _ _ _) _ _ _ _; (refine zlss rfl rfl ?_))); intro a h; (try simp only [Value.cells, splice, nz, Nat.reduceAdd, Nat.reduceMul, Int.reduceAdd, Int.reduceToNat, Int.reduceTMod] at h)))
    all_goals (refine k_ret1 rfl h rfl ⟨?_, hm.below⟩)
    all_goals first | exact boolF (fun e => by have := e.1; omega) | exact boolI ⟨fun e => ⟨by omega, hpre⟩, fun e => by have := e.1; omega⟩ | exact boolT ⟨by omega, hpre⟩
end Go.Proofs.YtbcboklmeifghaaGreat.St
end
