/-
  Nodes with the right fields.
-/
import Derived.Test.YtcbnegmmjflmcaaGreatJ13
import Derived.Test.YtcbnegmmjflmcaaGreatJ3
set_option linter.unusedSimpArgs false
set_option linter.unusedVariables false
namespace Go.Proofs.YtcbnegmmjflmcaaGreat.St
open Go.RowKit
def nmOk (x : PNode) : Prop := ((x.op = 2 ∨ x.op = 8) ∧ ident x.name) ∨ (¬ (x.op = 2 ∨ x.op = 8) ∧ x.name = ⟨#[]⟩)
def numOk (x : PNode) : Prop := (x.op = 1 ∧ 0 ≤ x.num ∧ x.num ≤ 2559999) ∨ (x.op ≠ 1 ∧ x.num = 0)
def arOk (x : PNode) : Prop := ((x.op = 1 ∨ x.op = 2) ∧ x.args.length = 0) ∨ (x.op = 3 ∧ x.args.length = 1) ∨ ((4 ≤ x.op ∧ x.op ≤ 7) ∧ x.args.length = 2) ∨ (x.op = 8 ∧ x.args.length ≤ 3)
def vNode (x : PNode) : Prop := nmOk x ∧ numOk x ∧ arOk x
theorem ident_empty : ¬ ident ⟨#[]⟩ := fun e => by
  have h := e.1.1
  have h2 : (⟨#[]⟩ : ByteArray).size = 0 := rfl
  omega
theorem sIsIdentifier_y (s : ByteArray) (hs : s.size ≤ 9223372036854775807) (h : ident s) : Fun Tryz.prog 101 [.string s] (.bool true) := by
  have := sIsIdentifier_ok s hs
  rwa [bT h] at this
theorem sIsIdentifier_n (s : ByteArray) (hs : s.size ≤ 9223372036854775807) (h : ¬ ident s) : Fun Tryz.prog 101 [.string s] (.bool false) := by
  have := sIsIdentifier_ok s hs
  rwa [bF h] at this
theorem does_neqStrT {P : Program} {E : Env} {w : World} {Φ : Value → World → Prop} {ty t t' : TypeId} {x y : Operand} [StrT P t] {m n : ByteArray} (hx : ev E x = some (.string m)) (hy : ev E y = some (.string n)) (h : ¬ m = n) (k : Φ (.bool true) w) : Does P (.binOp .neq t x y t') ty E w Φ :=
  does_neqStr hx hy (by rw [bT h]; exact k)
theorem does_neqStrF {P : Program} {E : Env} {w : World} {Φ : Value → World → Prop} {ty t t' : TypeId} {x y : Operand} [StrT P t] {m n : ByteArray} (hx : ev E x = some (.string m)) (hy : ev E y = some (.string n)) (h : m = n) (k : Φ (.bool false) w) : Does P (.binOp .neq t x y t') ty E w Φ :=
  does_neqStr hx hy (by rw [bF (fun e => e h)]; exact k)
/-- the ways a node's names and operations part -/
theorem opCases (o : Int) : o = 1 ∨ o = 2 ∨ o = 3 ∨ (4 ≤ o ∧ o ≤ 7) ∨ o = 8 ∨ (o < 1 ∨ 8 < o) := by omega
def argsOk (xs : List Int) (i : Int) : Prop := ∀ j, j < xs.length → 0 ≤ xs.getD j 0 ∧ xs.getD j 0 ≤ i - 1
set_option maxHeartbeats 16000000 in
theorem l13Node_ok (x : TNode) (i : Nat) (hi : i ≤ 1048576) (hs : x.a.name.size ≤ 9223372036854775807) (hl : x.a.args.length ≤ 1048576) : FunP Tryz.prog 100 [.agg (eN x).toArray, .int .i64 i] (fun H => Sl H x.ptr eI 1 x.a.args) (.bool (dB (argsOk x.a.args i ∧ vNode x.a))) := by
  refine enterFunP Tryz.func100 rfl Tryz.ntmps100 rfl (fun W0 w a hp hm h => ?_)
  repeat' (first | refine c_seq ?_ | refine c_region ?_ | refine c_nil ?_ | refine k_then ?_ | refine c_block ?_ | (((refine st_op (d := 2) rfl rfl h ?_; refine does_box hm rfl rfl ?_; clear h a hm; intro b_2 w hm a h))) | ((refine st_op rfl rfl h ?_); clear h a; (first | (show Does _ (.call _) _ _ _ _; (refine does_lenS (SliceT.out) rfl ?_)) | (show Does _ (.move _) _ _ _ _; refine does_move rfl ?_) | (show Does _ (.assign _) _ _ _ _; refine does_assign rfl ?_) | (show Does _ (.fieldAddr _ _ _) _ _ _ _; (refine does_fieldAddrL rfl ?_)) | (show Does _ (.load _ _) _ _ _ _; (refine zl hm rfl rfl ?_))); intro a h; (first | simp only [Value.cells, splice, nz, Nat.reduceAdd, Nat.reduceMul, Int.reduceAdd, Int.reduceToNat, Int.reduceTMod] at h | skip)))
  refine c_loop (σ := Nat) (fun k a w => k ≤ x.a.args.length ∧ (∀ j, j < k → 0 ≤ x.a.args.getD j 0 ∧ x.a.args.getD j 0 ≤ (i : Int) - 1) ∧ Mem W0 [] (fun b => W0.heap[b]?) [.blk b_2 (.cells (eN x).toArray 155)] w ∧ Holds [(1, .int .i64 i), (2, .pointer (some ⟨b_2, 0, none⟩)), (9, .slice x.ptr x.a.args.length x.cap), (10, .int .i64 x.a.args.length), (11, .int .i64 k)] _ a) (fun k => x.a.args.length - k) 0
    ⟨Nat.zero_le _, fun j hj => absurd hj (Nat.not_lt_zero _), hm, h.keep ⟨rfl, rfl, rfl, rfl, rfl, trivial⟩⟩ ?_
  clear h hm
  rintro k a w ⟨hk, hpre, hm, h⟩
  by_cases hlt : k < x.a.args.length
  · obtain ⟨q1, hq1, hat1⟩ := hp.at1 hlt
    have hg : x.a.args.getD k 0 = x.a.args[k] := by simp [List.getD, hlt]
    rw [hq1] at h
    repeat' (first | refine c_seq ?_ | refine c_region ?_ | refine c_nil ?_ | refine k_then ?_ | refine k_thenR ?_ | refine k_inN ?_ | refine k_inR ?_ | refine c_skip ?_ | refine c_ret ?_ | refine c_block ?_ | refine c_condT h rfl ?_ | ((refine st_op rfl rfl h ?_); clear h a; (first | (show Does _ (.call _) _ _ _ _; (((refine does_funM hm en53 rfl (sIn_ok _ _ _) ?_); clear hm; intro w hm))) | (show Does _ (.move _) _ _ _ _; refine does_move rfl ?_) | (show Does _ (.assign _) _ _ _ _; refine does_assign rfl ?_) | (show Does _ (.load _ _) _ _ _ _; (refine does_loadB hm rfl (by assumption) rfl ?_)) | (show Does _ (.binOp _ _ _ _ _) _ _ _ _; (first | refine zlss rfl rfl ?_ | refine zadd rfl rfl ?_ | refine zsub rfl rfl ?_)) | (show Does _ (.unOp _ _ _) _ _ _ _; (refine does_notD rfl ?_)) | (show Does _ (.indexAddr _ _ _) _ _ _ _; (refine ziS1 rfl rfl ?_))); intro a h) | ((refine c_condD h rfl ?_ ?_) <;> intro hc <;> (skip)))
    · (refine k_ret1 rfl h rfl ⟨?_, hm.below⟩)
      exact boolF (fun hh => hc (by rw [← hg]; exact hh.1 k hlt))
    · rw [← hq1] at h
      refine k_thenN ⟨k + 1, ⟨by omega, fun j hj => ?_, hm, h.keep ⟨rfl, rfl, rfl, rfl, rfl, trivial⟩⟩, by omega⟩
      by_cases hjk : j < k
      · exact hpre j hjk
      · obtain rfl : j = k := by omega
        rw [hg]
        exact Classical.not_not.1 hc
  · have hargs : argsOk x.a.args i := fun j hj => hpre j (by omega)
    rw [dB_congr (q := vNode x.a) ⟨fun e => e.2, fun e => ⟨hargs, e⟩⟩]
    by_cases hn : nmOk x.a
    · rw [dB_congr (q := numOk x.a ∧ arOk x.a) ⟨fun e => e.2, fun e => ⟨hn, e⟩⟩]
      rcases hn with ⟨hkk, hid⟩ | ⟨hkk, he⟩
      · have ht : True := trivial
        rcases hkk with hkk | hkk
        all_goals
          repeat' (first | refine c_seq ?_ | refine c_region ?_ | refine c_nil ?_ | refine k_then ?_ | refine k_thenR ?_ | refine k_thenE ?_ | refine k_inR ?_ | refine k_inE ?_ | refine c_skip ?_ | refine c_ret ?_ | refine c_exit ?_ | refine c_block ?_ | refine c_condT h rfl ?_ | refine c_condF h rfl ?_ | ((refine st_op rfl rfl h ?_); clear h a; (first | (show Does _ (.call _) _ _ _ _; (first | ((refine does_funM hm en101 rfl (sIsIdentifier_y _ hs hid) ?_; clear hm; intro w hm)) | refine does_lenS (SliceT.out) rfl ?_)) | (show Does _ (.move _) _ _ _ _; refine does_move rfl ?_) | (show Does _ (.assign _) _ _ _ _; refine does_assign rfl ?_) | (show Does _ (.pick _ _ _) _ _ _ _; (first | refine does_pickT rfl rfl ?_ | refine does_pickF rfl rfl ?_)) | (show Does _ (.fieldAddr _ _ _) _ _ _ _; (refine does_fieldAddrL rfl ?_)) | (show Does _ (.load _ _) _ _ _ _; (refine zl hm rfl rfl ?_)) | (show Does _ (.binOp _ _ _ _ _) _ _ _ _; (first | refine zlss rfl rfl ?_ | refine zleq rfl rfl ?_ | refine zeql rfl rfl ?_ | refine zneq rfl rfl ?_)) | (show Does _ (.unOp _ _ _) _ _ _ _; (refine does_not rfl ?_))); intro a h; (first | simp only [Value.cells, splice, nz, Nat.reduceAdd, Nat.reduceMul, Int.reduceAdd, Int.reduceToNat, Int.reduceTMod] at h | skip)) | ((refine st_skip rfl rfl h ?_); clear h a; intro a h) | ((refine c_condD h rfl ?_ ?_) <;> intro hc <;> (skip)))
          all_goals (refine k_ret1 rfl h rfl ⟨?_, hm.below⟩)
          all_goals (unfold numOk arOk; first | exact boolT (by omega) | exact boolF (by omega) | exact boolI (by omega))
      · have hid : ¬ ident x.a.name := by rw [he]; exact ident_empty
        rcases opCases x.a.op with h1 | h2 | h3 | h4 | h8 | h9
        all_goals first | (exfalso; omega) | skip
        all_goals
          repeat' (first | refine c_seq ?_ | refine c_region ?_ | refine c_nil ?_ | refine k_then ?_ | refine k_thenR ?_ | refine k_thenE ?_ | refine k_inN ?_ | refine k_inR ?_ | refine k_inE ?_ | refine c_skip ?_ | refine c_ret ?_ | refine c_exit ?_ | refine c_block ?_ | refine c_condT h rfl ?_ | refine c_condF h rfl ?_ | ((refine st_op rfl rfl h ?_); clear h a; (first | (show Does _ (.binOp _ _ _ _ _) _ _ _ _; (first | ((refine does_neqStrF rfl rfl he ?_)) | refine zlss rfl rfl ?_ | refine zeql rfl rfl ?_ | refine zneq rfl rfl ?_)) | (show Does _ (.call _) _ _ _ _; (first | ((refine does_funM hm en53 rfl (sIn_ok _ _ _) ?_); clear hm; intro w hm) | refine does_lenS (SliceT.out) rfl ?_)) | (show Does _ (.move _) _ _ _ _; refine does_move rfl ?_) | (show Does _ (.assign _) _ _ _ _; refine does_assign rfl ?_) | (show Does _ (.pick _ _ _) _ _ _ _; (first | refine does_pickT rfl rfl ?_ | refine does_pickF rfl rfl ?_)) | (show Does _ (.fieldAddr _ _ _) _ _ _ _; (refine does_fieldAddrL rfl ?_)) | (show Does _ (.load _ _) _ _ _ _; (refine zl hm rfl rfl ?_)) | (show Does _ (.unOp _ _ _) _ _ _ _; (refine does_not rfl ?_))); intro a h; (first | simp only [Value.cells, splice, nz, Nat.reduceAdd, Nat.reduceMul, Int.reduceAdd, Int.reduceToNat, Int.reduceTMod] at h | skip)) | ((refine st_skip rfl rfl h ?_); clear h a; intro a h) | ((refine c_condD h rfl ?_ ?_) <;> intro hc <;> (skip)) | (refine st_guardD rfl rfl h ?_ ?_ <;> clear h <;> intro hc h))
          all_goals (refine k_ret1 rfl h rfl ⟨?_, hm.below⟩)
          all_goals (unfold numOk arOk; first | exact boolT (by omega) | exact boolF (by omega) | exact boolI (by omega))
    · have hf : ¬ vNode x.a := fun e => hn e.1
      by_cases hkk : x.a.op = 2 ∨ x.a.op = 8
      · have hid : ¬ ident x.a.name := fun e => hn (.inl ⟨hkk, e⟩)
        rcases hkk with hkk | hkk
        all_goals
          repeat' (first | refine c_seq ?_ | refine c_region ?_ | refine c_nil ?_ | refine k_then ?_ | refine k_thenR ?_ | refine k_thenE ?_ | refine k_inE ?_ | refine c_ret ?_ | refine c_exit ?_ | refine c_condT h rfl ?_ | refine c_condF h rfl ?_ | ((refine st_op rfl rfl h ?_); clear h a; (first | (show Does _ (.call _) _ _ _ _; (((refine does_funM hm en101 rfl (sIsIdentifier_n _ hs hid) ?_; clear hm; intro w hm)))) | (show Does _ (.move _) _ _ _ _; refine does_move rfl ?_) | (show Does _ (.assign _) _ _ _ _; refine does_assign rfl ?_) | (show Does _ (.pick _ _ _) _ _ _ _; (first | refine does_pickT rfl rfl ?_ | refine does_pickF rfl rfl ?_)) | (show Does _ (.fieldAddr _ _ _) _ _ _ _; (refine does_fieldAddrL rfl ?_)) | (show Does _ (.load _ _) _ _ _ _; (refine zl hm rfl rfl ?_)) | (show Does _ (.binOp _ _ _ _ _) _ _ _ _; (first | refine zlss rfl rfl ?_ | refine zeql rfl rfl ?_)) | (show Does _ (.unOp _ _ _) _ _ _ _; (refine does_not rfl ?_))); intro a h; (first | simp only [Value.cells, splice, nz, Nat.reduceAdd, Nat.reduceMul, Int.reduceAdd, Int.reduceToNat, Int.reduceTMod] at h | skip)) | ((refine st_skip rfl rfl h ?_); clear h a; intro a h))
          all_goals (refine k_ret1 rfl h rfl ⟨?_, hm.below⟩)
          all_goals exact boolF hf
      · have he : ¬ x.a.name = ⟨#[]⟩ := fun e => hn (.inr ⟨hkk, e⟩)
        repeat' (first | refine c_seq ?_ | refine c_region ?_ | refine c_nil ?_ | refine k_then ?_ | refine k_thenR ?_ | refine k_thenE ?_ | refine k_inE ?_ | refine c_ret ?_ | refine c_exit ?_ | refine c_condT h rfl ?_ | refine c_condF h rfl ?_ | ((refine st_op rfl rfl h ?_); clear h a; (first | (show Does _ (.binOp _ _ _ _ _) _ _ _ _; (first | ((refine does_neqStrT rfl rfl he ?_)) | refine zlss rfl rfl ?_ | refine zeql rfl rfl ?_)) | (show Does _ (.move _) _ _ _ _; refine does_move rfl ?_) | (show Does _ (.assign _) _ _ _ _; refine does_assign rfl ?_) | (show Does _ (.pick _ _ _) _ _ _ _; (first | refine does_pickT rfl rfl ?_ | refine does_pickF rfl rfl ?_)) | (show Does _ (.fieldAddr _ _ _) _ _ _ _; (refine does_fieldAddrL rfl ?_)) | (show Does _ (.load _ _) _ _ _ _; (refine zl hm rfl rfl ?_)) | (show Does _ (.unOp _ _ _) _ _ _ _; (refine does_not rfl ?_))); intro a h; (first | simp only [Value.cells, splice, nz, Nat.reduceAdd, Nat.reduceMul, Int.reduceAdd, Int.reduceToNat, Int.reduceTMod] at h | skip)) | ((refine st_skip rfl rfl h ?_); clear h a; intro a h))
        all_goals (refine k_ret1 rfl h rfl ⟨?_, hm.below⟩)
        all_goals exact boolF hf
end Go.Proofs.YtcbnegmmjflmcaaGreat.St
