/-
  Identifiers, and nodes with the right fields.
-/
import Derived.Test.YtgmonjghbjaadaaGreatDoorLPrg
import Derived.Test.YtgmonjghbjaadaaGreatDoorJ4
import Derived.Test.YtgmonjghbjaadaaGreatDoorJ3
set_option linter.unusedSimpArgs false
set_option linter.unusedVariables false
namespace Go.Proofs.YtgmonjghbjaadaaGreatDoor.St
open Go.RowKit
def okc (s : ByteArray) (i : Nat) : Prop := (97 ≤ bt s i ∧ bt s i ≤ 122) ∨ (i ≠ 0 ∧ 48 ≤ bt s i ∧ bt s i ≤ 57)
def ident (s : ByteArray) : Prop := (1 ≤ s.size ∧ s.size ≤ 8) ∧ ∀ i, i < s.size → okc s i
theorem ident_no {s : ByteArray} {k : Nat} (hk : k < s.size) (h : ¬ okc s k) : ¬ ident s := fun e => h (e.2 k hk)
theorem okc_step {s : ByteArray} {k : Nat} (hpre : ∀ i, i < k → okc s i) (h : okc s k) : ∀ i, i < k + 1 → okc s i := fun i hi => by
  by_cases hik : i < k
  · exact hpre i hik
  · obtain rfl : i = k := by omega
    exact h
section
variable {P : Program} {E : Env} {w W0 : World} {X : List Nat} {B : Heap} {L : List Own} {Φ : Value → World → Prop} {ty t : TypeId} {x y : Operand}
theorem does_nextLo (i : Nat) {s : ByteArray} {b p : Nat} (hlo : bt s p < 128 ∧ p < s.size) (hm : Mem W0 X B L w) (hx : ev E x = some (.pointer (some ⟨b, 0, none⟩))) (hL : L[i]? = some (.blk b (.stringIter s p)))
    (k : ∀ w', Mem W0 X B (L.set i (.blk b (.stringIter s (p + 1)))) w' → Φ (.tuple [.bool true, .int .i64 p, .int .i32 (bt s p)].toArray) w') : Does P (.next x true) ty E w Φ := by
  refine does_nextStr i hm hx hL hlo.2 fun w' hm' => ?_
  rw [decode_lo hlo.1] at hm' ⊢
  exact k w' hm'
theorem does_nextHi (i : Nat) {s : ByteArray} {b p : Nat} (hhi : ¬ bt s p < 128 ∧ p < s.size) (hm : Mem W0 X B L w) (hx : ev E x = some (.pointer (some ⟨b, 0, none⟩))) (hL : L[i]? = some (.blk b (.stringIter s p)))
    (k : ∀ (c : Int) q w', 128 ≤ c → Mem W0 X B (L.set i (.blk b (.stringIter s q))) w' → Φ (.tuple [.bool true, .int .i64 p, .int .i32 c].toArray) w') : Does P (.next x true) ty E w Φ := by
  refine does_nextStr i hm hx hL hhi.2 fun w' hm' => ?_
  have := decode_hi hhi.1
  exact k _ _ w' (by omega) hm'
theorem does_nextEnd' (i : Nat) {s : ByteArray} {b p : Nat} (hp : ¬ p < s.size) (hm : Mem W0 X B L w) (hx : ev E x = some (.pointer (some ⟨b, 0, none⟩))) (hL : L[i]? = some (.blk b (.stringIter s p)))
    (k : Φ (.tuple [.bool false].toArray) w) : Does P (.next x true) ty E w Φ := does_nextEnd i hm hx hL hp k
end
set_option maxHeartbeats 4000000 in
theorem isIdentifier_ok (s : ByteArray) : Fun Tryz.prog 95 [.string s] (.bool (dB (ident s))) := by
  refine enterFun Tryz.func95 rfl Tryz.ntmps95 rfl (fun W0 w a hm h => ?_)
  repeat' (first | refine c_seq ?_ | refine c_region ?_ | refine c_nil ?_ | refine k_then ?_ | refine c_block ?_ | ((refine st_op rfl rfl h ?_); clear h a; (first | (show Does _ (.range _ _) _ _ _ _; ((refine does_rangeStr hm rfl ?_; clear hm; intro b w hm))) | (show Does _ (.move _) _ _ _ _; refine does_move rfl ?_) | (show Does _ (.assign _) _ _ _ _; refine does_assign rfl ?_)); intro a h; (try simp only [Value.cells, splice, nz, Nat.reduceAdd, Nat.reduceMul, Int.reduceAdd, Int.reduceToNat, Int.reduceTMod] at h)))
  refine c_loop (σ := Nat) (fun k a w => k ≤ s.size ∧ (∀ i, i < k → okc s i) ∧ Mem W0 [] (fun b => W0.heap[b]?) [.blk b (.stringIter s k)] w ∧ Holds [(0, .string s), (8, .pointer (some ⟨b, 0, none⟩))] _ a) (fun k => s.size - k) 0
    ⟨Nat.zero_le _, fun i hi => absurd hi (Nat.not_lt_zero _), hm, h.keep ⟨rfl, rfl, trivial⟩⟩ ?_
  clear h hm
  rintro k a w ⟨hk, hpre, hm, h⟩
  by_cases hlt : k < s.size
  · have hb := bt_bd s k
    by_cases hlo : bt s k < 128
    · have hk0 : (k = 0) ∨ (k ≠ 0) := Classical.em _
      have hno : ¬ okc s k → ¬ ident s := ident_no hlt
      repeat' (first | refine c_seq ?_ | refine c_region ?_ | refine c_nil ?_ | refine k_then ?_ | refine k_thenR ?_ | refine k_inN ?_ | refine k_inR ?_ | refine c_skip ?_ | refine c_ret ?_ | refine c_block ?_ | refine c_condT h rfl ?_ | refine c_condF h rfl ?_ | ((refine st_op rfl rfl h ?_); clear h a; (first | (show Does _ (.next _ _) _ _ _ _; ((refine does_nextLo 0 (by omega) hm rfl rfl ?_; clear hm; intro w hm))) | (show Does _ (.move _) _ _ _ _; refine does_move rfl ?_) | (show Does _ (.assign _) _ _ _ _; refine does_assign rfl ?_) | (show Does _ (.pick _ _ _) _ _ _ _; (first | refine does_pickT rfl rfl ?_ | refine does_pickF rfl rfl ?_)) | (show Does _ (.binOp _ _ _ _ _) _ _ _ _; (first | refine zleq rfl rfl ?_ | refine zeql rfl rfl ?_)) | (show Does _ (.unOp _ _ _) _ _ _ _; (first | refine does_notD rfl ?_ | refine does_not rfl ?_)) | (show Does _ (.extract _ _) _ _ _ _; refine does_extract rfl rfl ?_)); intro a h; (try simp only [Value.cells, splice, nz, Nat.reduceAdd, Nat.reduceMul, Int.reduceAdd, Int.reduceToNat, Int.reduceTMod] at h)) | ((refine st_skip rfl rfl h ?_); clear h a; intro a h) | ((refine c_condD h rfl ?_ ?_) <;> intro hc <;> (try (fail))) | (refine st_guardD rfl rfl h ?_ ?_ <;> clear h <;> intro hc h))
      all_goals first
        | ((refine k_ret1 rfl h rfl ⟨?_, hm.below⟩); exact boolF (hno (by unfold okc; omega)))
        | exact k_thenN ⟨k + 1, ⟨by omega, okc_step hpre (by unfold okc; omega), hm, h.keep ⟨rfl, rfl, trivial⟩⟩, by omega⟩
    · have hno : ¬ ident s := ident_no hlt (by unfold okc; omega)
      repeat' (first | refine c_seq ?_ | refine c_region ?_ | refine c_nil ?_ | refine k_then ?_ | refine k_thenR ?_ | refine k_inR ?_ | refine c_skip ?_ | refine c_ret ?_ | refine c_block ?_ | refine c_condT h rfl ?_ | ((refine st_op rfl rfl h ?_); clear h a; (first | (show Does _ (.next _ _) _ _ _ _; ((refine does_nextHi 0 (by omega) hm rfl rfl ?_; clear hm; intro c q w hc128 hm))) | (show Does _ (.move _) _ _ _ _; refine does_move rfl ?_) | (show Does _ (.assign _) _ _ _ _; refine does_assign rfl ?_) | (show Does _ (.pick _ _ _) _ _ _ _; (refine does_pickT rfl rfl ?_)) | (show Does _ (.binOp _ _ _ _ _) _ _ _ _; (refine zleq rfl rfl ?_)) | (show Does _ (.unOp _ _ _) _ _ _ _; (refine does_not rfl ?_)) | (show Does _ (.extract _ _) _ _ _ _; refine does_extract rfl rfl ?_)); intro a h; (try simp only [Value.cells, splice, nz, Nat.reduceAdd, Nat.reduceMul, Int.reduceAdd, Int.reduceToNat, Int.reduceTMod] at h)) | ((refine st_skip rfl rfl h ?_); clear h a; intro a h))
      all_goals ((refine k_ret1 rfl h rfl ⟨?_, hm.below⟩); exact boolF hno)
  · obtain rfl : k = s.size := by omega
    repeat' (first | refine c_seq ?_ | refine c_region ?_ | refine c_nil ?_ | refine k_then ?_ | refine k_thenE ?_ | refine k_inE ?_ | refine c_ret ?_ | refine c_exit ?_ | refine c_condF h rfl ?_ | ((refine st_op rfl rfl h ?_); clear h a; (first | (show Does _ (.next _ _) _ _ _ _; ((refine does_nextEnd' 0 (by omega) hm rfl rfl ?_))) | (show Does _ (.move _) _ _ _ _; refine does_move rfl ?_) | (show Does _ (.assign _) _ _ _ _; refine does_assign rfl ?_) | (show Does _ (.pick _ _ _) _ _ _ _; (first | refine does_pickT rfl rfl ?_ | refine does_pickF rfl rfl ?_)) | (show Does _ (.binOp _ _ _ _ _) _ _ _ _; (first | refine zleq rfl rfl ?_ | refine zgeq rfl rfl ?_)) | (show Does _ (.call _) _ _ _ _; refine does_lenStr (StrT.out) rfl ?_) | (show Does _ (.extract _ _) _ _ _ _; refine does_extract rfl rfl ?_)); intro a h; (try simp only [Value.cells, splice, nz, Nat.reduceAdd, Nat.reduceMul, Int.reduceAdd, Int.reduceToNat, Int.reduceTMod] at h)) | ((refine st_skip rfl rfl h ?_); clear h a; intro a h) | (refine st_guardD rfl rfl h ?_ ?_ <;> clear h <;> intro hc h))
    all_goals (refine k_ret1 rfl h rfl ⟨?_, hm.below⟩)
    all_goals first | exact boolF (fun e => by have := e.1; omega) | exact boolI ⟨fun e => ⟨by omega, hpre⟩, fun e => by have := e.1; omega⟩ | exact boolT ⟨by omega, hpre⟩
set_option maxHeartbeats 4000000 in
theorem sIsIdentifier_ok (s : ByteArray) (hs : s.size ≤ 9223372036854775807) : Fun Tryz.prog 79 [.string s] (.bool (dB (ident s))) := by
  refine enterFun Tryz.func79 rfl Tryz.ntmps79 rfl (fun W0 w a hm h => ?_)
  repeat' (first | refine c_seq ?_ | refine c_region ?_ | refine c_nil ?_ | refine k_then ?_ | refine c_block ?_ | ((refine st_op rfl rfl h ?_); clear h a; ((show Does _ (.assign _) _ _ _ _; refine does_assign rfl ?_)); intro a h; (try simp only [Value.cells, splice, nz, Nat.reduceAdd, Nat.reduceMul, Int.reduceAdd, Int.reduceToNat, Int.reduceTMod] at h)))
  refine c_loop (σ := Nat) (fun k a w => k ≤ s.size ∧ (∀ i, i < k → okc s i) ∧ Mem W0 [] (fun b => W0.heap[b]?) [] w ∧ Holds [(0, .string s), (3, .int .i64 k)] _ a) (fun k => s.size - k) 0
    ⟨Nat.zero_le _, fun i hi => absurd hi (Nat.not_lt_zero _), hm, h.keep ⟨rfl, rfl, trivial⟩⟩ ?_
  clear h hm
  rintro k a w ⟨hk, hpre, hm, h⟩
  by_cases hlt : k < s.size
  · have hb := bt_bd s k
    have hno : ¬ okc s k → ¬ ident s := ident_no hlt
    repeat' (first | refine c_seq ?_ | refine c_region ?_ | refine c_nil ?_ | refine k_then ?_ | refine k_thenR ?_ | refine k_inN ?_ | refine k_inR ?_ | refine c_skip ?_ | refine c_ret ?_ | refine c_block ?_ | refine c_condT h rfl ?_ | refine c_condF h rfl ?_ | ((refine st_op rfl rfl h ?_); clear h a; (first | (show Does _ (.index _ _ _) _ _ _ _; (((refine does_strIdxN (by omega) rfl rfl ?_)))) | (show Does _ (.call _) _ _ _ _; (refine does_lenStr (StrT.out) rfl ?_)) | (show Does _ (.move _) _ _ _ _; refine does_move rfl ?_) | (show Does _ (.assign _) _ _ _ _; refine does_assign rfl ?_) | (show Does _ (.pick _ _ _) _ _ _ _; (first | refine does_pickT rfl rfl ?_ | refine does_pickF rfl rfl ?_)) | (show Does _ (.binOp _ _ _ _ _) _ _ _ _; (first | refine zlss rfl rfl ?_ | refine zleq rfl rfl ?_ | refine zgtr rfl rfl ?_ | refine zgeq rfl rfl ?_ | refine zeql rfl rfl ?_ | refine zadd rfl rfl ?_)) | (show Does _ (.unOp _ _ _) _ _ _ _; (first | refine does_notD rfl ?_ | refine does_not rfl ?_))); intro a h; (try simp only [Value.cells, splice, nz, Nat.reduceAdd, Nat.reduceMul, Int.reduceAdd, Int.reduceToNat, Int.reduceTMod] at h)) | ((refine st_skip rfl rfl h ?_); clear h a; intro a h) | ((refine c_condD h rfl ?_ ?_) <;> intro hc <;> (try (fail))) | (refine st_guardD rfl rfl h ?_ ?_ <;> clear h <;> intro hc h))
    all_goals first
      | ((refine k_ret1 rfl h rfl ⟨?_, hm.below⟩); exact boolF (hno (by unfold okc; omega)))
      | exact k_thenN ⟨k + 1, ⟨by omega, okc_step hpre (by unfold okc; omega), hm, h.keep ⟨rfl, rfl, trivial⟩⟩, by omega⟩
  · obtain rfl : k = s.size := by omega
    repeat' (first | refine c_seq ?_ | refine c_region ?_ | refine c_nil ?_ | refine k_then ?_ | refine k_thenE ?_ | refine k_inE ?_ | refine c_ret ?_ | refine c_exit ?_ | refine c_condF h rfl ?_ | ((refine st_op rfl rfl h ?_); clear h a; (first | (show Does _ (.call _) _ _ _ _; (first | ((refine does_funM hm en42 rfl (sIn_ok _ _ _) ?_); clear hm; intro w hm) | refine does_lenStr (StrT.out) rfl ?_)) | (show Does _ (.move _) _ _ _ _; refine does_move rfl ?_) | (show Does _ (.assign _) _ _ _ _; refine does_assign rfl ?_) | (show Does _ (.binOp _ _ _ _ _) _ _ _ _; (refine zlss rfl rfl ?_))); intro a h; (try simp only [Value.cells, splice, nz, Nat.reduceAdd, Nat.reduceMul, Int.reduceAdd, Int.reduceToNat, Int.reduceTMod] at h)))
    all_goals (refine k_ret1 rfl h rfl ⟨?_, hm.below⟩)
    all_goals first | exact boolF (fun e => by have := e.1; omega) | exact boolI ⟨fun e => ⟨by omega, hpre⟩, fun e => by have := e.1; omega⟩ | exact boolT ⟨by omega, hpre⟩
end Go.Proofs.YtgmonjghbjaadaaGreatDoor.St
