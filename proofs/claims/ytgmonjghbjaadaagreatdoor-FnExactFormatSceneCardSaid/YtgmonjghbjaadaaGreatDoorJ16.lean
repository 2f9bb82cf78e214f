/-
  Texts compared, the outcome known.
-/
import Derived.Test.YtgmonjghbjaadaaGreatDoorJ2
import Derived.Test.YtgmonjghbjaadaaGreatDoorJ3

section
set_option linter.unusedSimpArgs false
set_option linter.unusedVariables false
namespace Go.Proofs.YtgmonjghbjaadaaGreatDoor.St
open Go.RowKit
section
variable {P : Program} {w : World} {E : Env} {Φ : Value → World → Prop} {ty t t' : TypeId} {x y : Operand}
theorem does_eqlStrT [StrT P t] {m n : ByteArray} (hx : ev E x = some (.string m)) (hy : ev E y = some (.string n)) (h : m = n) (k : Φ (.bool true) w) :
    Does P (.binOp .eql t x y t') ty E w Φ := does_eqlStr hx hy (by rw [bT h]; exact k)
theorem does_eqlStrF [StrT P t] {m n : ByteArray} (hx : ev E x = some (.string m)) (hy : ev E y = some (.string n)) (h : ¬ m = n) (k : Φ (.bool false) w) :
    Does P (.binOp .eql t x y t') ty E w Φ := does_eqlStr hx hy (by rw [bF h]; exact k)
end
end Go.Proofs.YtgmonjghbjaadaaGreatDoor.St
end

section
/-
  Predefined variables, and how many arguments a function of the language has.
-/
set_option linter.unusedSimpArgs false
set_option linter.unusedVariables false
namespace Go.Proofs.YtgmonjghbjaadaaGreatDoor.St
open Go.RowKit
def isVar (s : ByteArray) : Prop := s = ⟨#[117]⟩ ∨ s = ⟨#[118]⟩ ∨ s = ⟨#[120]⟩ ∨ s = ⟨#[121]⟩ ∨ s = ⟨#[122]⟩ ∨ s = ⟨#[116]⟩
def ar (s : ByteArray) : Int := if s = ⟨#[97, 98, 115]⟩ ∨ s = ⟨#[102, 108, 111, 111, 114]⟩ ∨ s = ⟨#[100, 117]⟩ ∨ s = ⟨#[100, 118]⟩ then 1 else if s = ⟨#[109, 105, 110]⟩ ∨ s = ⟨#[109, 97, 120]⟩ ∨ s = ⟨#[115, 116, 101, 112]⟩ ∨ s = ⟨#[110, 111, 105, 115, 101]⟩ ∨ s = ⟨#[116, 101, 120]⟩ then 2 else if s = ⟨#[99, 108, 97, 109, 112]⟩ ∨ s = ⟨#[109, 105, 120]⟩ then 3 else -1
theorem arCases (s : ByteArray) : s = ⟨#[97, 98, 115]⟩ ∨ s = ⟨#[102, 108, 111, 111, 114]⟩ ∨ s = ⟨#[100, 117]⟩ ∨ s = ⟨#[100, 118]⟩ ∨ s = ⟨#[109, 105, 110]⟩ ∨ s = ⟨#[109, 97, 120]⟩ ∨ s = ⟨#[115, 116, 101, 112]⟩ ∨ s = ⟨#[110, 111, 105, 115, 101]⟩ ∨ s = ⟨#[116, 101, 120]⟩ ∨ s = ⟨#[99, 108, 97, 109, 112]⟩ ∨ s = ⟨#[109, 105, 120]⟩ ∨ (¬ s = ⟨#[97, 98, 115]⟩ ∧ ¬ s = ⟨#[102, 108, 111, 111, 114]⟩ ∧ ¬ s = ⟨#[100, 117]⟩ ∧ ¬ s = ⟨#[100, 118]⟩ ∧ ¬ s = ⟨#[109, 105, 110]⟩ ∧ ¬ s = ⟨#[109, 97, 120]⟩ ∧ ¬ s = ⟨#[115, 116, 101, 112]⟩ ∧ ¬ s = ⟨#[110, 111, 105, 115, 101]⟩ ∧ ¬ s = ⟨#[116, 101, 120]⟩ ∧ ¬ s = ⟨#[99, 108, 97, 109, 112]⟩ ∧ ¬ s = ⟨#[109, 105, 120]⟩) := by
  by_cases e0 : s = ⟨#[97, 98, 115]⟩
  · exact (fun e => .inl e) e0
  by_cases e1 : s = ⟨#[102, 108, 111, 111, 114]⟩
  · exact (fun e => .inr (.inl e)) e1
  by_cases e2 : s = ⟨#[100, 117]⟩
  · exact (fun e => .inr (.inr (.inl e))) e2
  by_cases e3 : s = ⟨#[100, 118]⟩
  · exact (fun e => .inr (.inr (.inr (.inl e)))) e3
  by_cases e4 : s = ⟨#[109, 105, 110]⟩
  · exact (fun e => .inr (.inr (.inr (.inr (.inl e))))) e4
  by_cases e5 : s = ⟨#[109, 97, 120]⟩
  · exact (fun e => .inr (.inr (.inr (.inr (.inr (.inl e)))))) e5
  by_cases e6 : s = ⟨#[115, 116, 101, 112]⟩
  · exact (fun e => .inr (.inr (.inr (.inr (.inr (.inr (.inl e))))))) e6
  by_cases e7 : s = ⟨#[110, 111, 105, 115, 101]⟩
  · exact (fun e => .inr (.inr (.inr (.inr (.inr (.inr (.inr (.inl e)))))))) e7
  by_cases e8 : s = ⟨#[116, 101, 120]⟩
  · exact (fun e => .inr (.inr (.inr (.inr (.inr (.inr (.inr (.inr (.inl e))))))))) e8
  by_cases e9 : s = ⟨#[99, 108, 97, 109, 112]⟩
  · exact (fun e => .inr (.inr (.inr (.inr (.inr (.inr (.inr (.inr (.inr (.inl e)))))))))) e9
  by_cases e10 : s = ⟨#[109, 105, 120]⟩
  · exact (fun e => .inr (.inr (.inr (.inr (.inr (.inr (.inr (.inr (.inr (.inr (.inl e))))))))))) e10
  exact .inr (.inr (.inr (.inr (.inr (.inr (.inr (.inr (.inr (.inr (.inr (⟨e0, e1, e2, e3, e4, e5, e6, e7, e8, e9, e10⟩)))))))))))
theorem varCases (s : ByteArray) : s = ⟨#[117]⟩ ∨ s = ⟨#[118]⟩ ∨ s = ⟨#[120]⟩ ∨ s = ⟨#[121]⟩ ∨ s = ⟨#[122]⟩ ∨ s = ⟨#[116]⟩ ∨ (¬ s = ⟨#[117]⟩ ∧ ¬ s = ⟨#[118]⟩ ∧ ¬ s = ⟨#[120]⟩ ∧ ¬ s = ⟨#[121]⟩ ∧ ¬ s = ⟨#[122]⟩ ∧ ¬ s = ⟨#[116]⟩) := by
  by_cases e0 : s = ⟨#[117]⟩
  · exact (fun e => .inl e) e0
  by_cases e1 : s = ⟨#[118]⟩
  · exact (fun e => .inr (.inl e)) e1
  by_cases e2 : s = ⟨#[120]⟩
  · exact (fun e => .inr (.inr (.inl e))) e2
  by_cases e3 : s = ⟨#[121]⟩
  · exact (fun e => .inr (.inr (.inr (.inl e)))) e3
  by_cases e4 : s = ⟨#[122]⟩
  · exact (fun e => .inr (.inr (.inr (.inr (.inl e))))) e4
  by_cases e5 : s = ⟨#[116]⟩
  · exact (fun e => .inr (.inr (.inr (.inr (.inr (.inl e)))))) e5
  exact .inr (.inr (.inr (.inr (.inr (.inr (⟨e0, e1, e2, e3, e4, e5⟩))))))
set_option maxHeartbeats 8000000 in
theorem iArity_ok (s : ByteArray) : Fun Tryz.prog 137 [.string s] (I (ar s)) := by
  rcases arCases s with rfl | rfl | rfl | rfl | rfl | rfl | rfl | rfl | rfl | rfl | rfl | ⟨e0, e1, e2, e3, e4, e5, e6, e7, e8, e9, e10⟩
  all_goals
    refine enterFun Tryz.func137 rfl Tryz.ntmps137 rfl (fun W0 w a hm h => ?_)
    repeat' (first | refine c_seq ?_ | refine c_region ?_ | refine c_nil ?_ | refine k_then ?_ | refine k_thenR ?_ | refine k_inN ?_ | refine k_inR ?_ | refine c_skip ?_ | refine c_ret ?_ | refine c_block ?_ | refine c_condT h rfl ?_ | refine c_condF h rfl ?_ | ((refine st_op rfl rfl h ?_); clear h a; (first | (show Does _ (.binOp _ _ _ _ _) _ _ _ _; (first | (refine does_eqlStrT rfl rfl (by first | assumption | rfl) ?_) | (refine does_eqlStrF rfl rfl (by first | assumption | decide) ?_))) | (show Does _ (.move _) _ _ _ _; refine does_move rfl ?_) | (show Does _ (.assign _) _ _ _ _; refine does_assign rfl ?_)); intro a h; (try simp only [Value.cells, List.toList_toArray, splice, List.set_cons_zero, List.set_cons_succ, List.drop_zero, List.drop_succ_cons, List.take_succ_cons, List.take_zero, Nat.zero_add, Nat.reduceAdd, Nat.reduceMul, Int.reduceAdd, Int.reduceToNat, Int.reduceTMod, Nat.zero_mul, Nat.one_mul, Int.toNat_natCast] at h)))
    all_goals (refine k_ret1 rfl h rfl ⟨?_, hm.below⟩)
    all_goals first | exact intE (by decide) | exact intE (by unfold ar; simp only [*, or_self, if_false])
set_option maxHeartbeats 8000000 in
theorem iVar_ok (s : ByteArray) : Fun Tryz.prog 119 [.string s] (.bool (dB (isVar s))) := by
  rcases varCases s with rfl | rfl | rfl | rfl | rfl | rfl | ⟨e0, e1, e2, e3, e4, e5⟩
  all_goals
    refine enterFun Tryz.func119 rfl Tryz.ntmps119 rfl (fun W0 w a hm h => ?_)
    repeat' (first | refine c_seq ?_ | refine c_region ?_ | refine c_nil ?_ | refine k_then ?_ | refine k_thenR ?_ | refine k_inN ?_ | refine k_inR ?_ | refine c_skip ?_ | refine c_ret ?_ | refine c_block ?_ | refine c_condT h rfl ?_ | refine c_condF h rfl ?_ | ((refine st_op rfl rfl h ?_); clear h a; (first | (show Does _ (.binOp _ _ _ _ _) _ _ _ _; (first | (refine does_eqlStrT rfl rfl (by first | assumption | rfl) ?_) | (refine does_eqlStrF rfl rfl (by first | assumption | decide) ?_))) | (show Does _ (.move _) _ _ _ _; refine does_move rfl ?_) | (show Does _ (.assign _) _ _ _ _; refine does_assign rfl ?_)); intro a h; (try simp only [Value.cells, List.toList_toArray, splice, List.set_cons_zero, List.set_cons_succ, List.drop_zero, List.drop_succ_cons, List.take_succ_cons, List.take_zero, Nat.zero_add, Nat.reduceAdd, Nat.reduceMul, Int.reduceAdd, Int.reduceToNat, Int.reduceTMod, Nat.zero_mul, Nat.one_mul, Int.toNat_natCast] at h)))
    all_goals (refine k_ret1 rfl h rfl ⟨?_, hm.below⟩)
    all_goals first | exact boolT (by unfold isVar; simp only [true_or, or_true]) | exact boolF (by unfold isVar; simp only [*, or_self, not_false_eq_true])
theorem iVar_y (s : ByteArray) (h : isVar s) : Fun Tryz.prog 119 [.string s] (.bool true) := by
  have := iVar_ok s
  rwa [bT h] at this
theorem iVar_n (s : ByteArray) (h : ¬ isVar s) : Fun Tryz.prog 119 [.string s] (.bool false) := by
  have := iVar_ok s
  rwa [bF h] at this
set_option maxHeartbeats 8000000 in
theorem sArity_ok (s : ByteArray) : Fun Tryz.prog 73 [.string s] (I (ar s)) := by
  rcases arCases s with rfl | rfl | rfl | rfl | rfl | rfl | rfl | rfl | rfl | rfl | rfl | ⟨e0, e1, e2, e3, e4, e5, e6, e7, e8, e9, e10⟩
  all_goals
    refine enterFun Tryz.func73 rfl Tryz.ntmps73 rfl (fun W0 w a hm h => ?_)
    repeat' (first | refine c_seq ?_ | refine c_region ?_ | refine c_nil ?_ | refine k_then ?_ | refine k_thenR ?_ | refine k_inN ?_ | refine k_inR ?_ | refine c_skip ?_ | refine c_ret ?_ | refine c_block ?_ | refine c_condT h rfl ?_ | refine c_condF h rfl ?_ | ((refine st_op rfl rfl h ?_); clear h a; (first | (show Does _ (.binOp _ _ _ _ _) _ _ _ _; (first | (refine does_eqlStrT rfl rfl (by first | assumption | rfl) ?_) | (refine does_eqlStrF rfl rfl (by first | assumption | decide) ?_))) | (show Does _ (.move _) _ _ _ _; refine does_move rfl ?_) | (show Does _ (.assign _) _ _ _ _; refine does_assign rfl ?_)); intro a h; (try simp only [Value.cells, List.toList_toArray, splice, List.set_cons_zero, List.set_cons_succ, List.drop_zero, List.drop_succ_cons, List.take_succ_cons, List.take_zero, Nat.zero_add, Nat.reduceAdd, Nat.reduceMul, Int.reduceAdd, Int.reduceToNat, Int.reduceTMod, Nat.zero_mul, Nat.one_mul, Int.toNat_natCast] at h)))
    all_goals (refine k_ret1 rfl h rfl ⟨?_, hm.below⟩)
    all_goals first | exact intE (by decide) | exact intE (by unfold ar; simp only [*, or_self, if_false])
set_option maxHeartbeats 8000000 in
theorem sVar_ok (s : ByteArray) : Fun Tryz.prog 74 [.string s] (.bool (dB (isVar s))) := by
  rcases varCases s with rfl | rfl | rfl | rfl | rfl | rfl | ⟨e0, e1, e2, e3, e4, e5⟩
  all_goals
    refine enterFun Tryz.func74 rfl Tryz.ntmps74 rfl (fun W0 w a hm h => ?_)
    repeat' (first | refine c_seq ?_ | refine c_region ?_ | refine c_nil ?_ | refine k_then ?_ | refine k_thenL ?_ | refine k_thenR ?_ | refine k_thenE ?_ | refine k_inN ?_ | refine k_inR ?_ | refine k_inE ?_ | refine c_skip ?_ | refine c_ret ?_ | refine c_exit ?_ | refine c_block ?_ | refine r_succ ?_ | refine c_condT h rfl ?_ | refine c_condF h rfl ?_ | (refine c_rounds 7 ?_) | ((refine st_op rfl rfl h ?_); clear h a; (first | (show Does _ (.binOp _ _ _ _ _) _ _ _ _; (first | (refine does_eqlStrT rfl rfl (by first | assumption | rfl) ?_) | (refine does_eqlStrF rfl rfl (by first | assumption | decide) ?_) | (refine does_eqlStrF rfl rfl (by intro e; exact absurd e.symm (by assumption)) ?_) | refine does_lssT rfl rfl (by omega) ?_ | refine does_lssF rfl rfl (by omega) ?_ | refine does_add rfl rfl (by omega) ?_)) | (show Does _ (.buildSlice _ _ _) _ _ _ _; (refine does_buildSlice hm rfl rfl rfl ?_; clear hm; intro b w hm; (try simp only [rep, List.replicate_succ, List.replicate_zero, List.flatten_cons, List.flatten_nil, List.cons_append, List.nil_append, Nat.zero_mul, Nat.one_mul, Nat.reduceMul, Value.cells, List.toList_toArray, List.set_cons_zero, List.set_cons_succ, splice, Nat.zero_add, Nat.reduceAdd, Nat.reduceMul, Int.reduceAdd, Int.reduceToNat, Nat.zero_mul, Nat.one_mul, Int.toNat_natCast] at hm))) | (show Does _ (.move _) _ _ _ _; refine does_move rfl ?_) | (show Does _ (.assign _) _ _ _ _; refine does_assign rfl ?_) | (show Does _ (.load _ _) _ _ _ _; (refine does_loadO 0 hm rfl rfl rfl ?_)) | (show Does _ (.call _) _ _ _ _; refine does_lenS (SliceT.out) rfl ?_) | (show Does _ (.indexAddr _ _ _) _ _ _ _; (refine does_indexSL (by omega) rfl rfl ?_))); intro a h; (try simp only [Value.cells, List.toList_toArray, splice, List.set_cons_zero, List.set_cons_succ, List.drop_zero, List.drop_succ_cons, List.take_succ_cons, List.take_zero, Nat.zero_add, Nat.reduceAdd, Nat.reduceMul, Int.reduceAdd, Int.reduceToNat, Int.reduceTMod, Nat.zero_mul, Nat.one_mul, Int.toNat_natCast] at h)))
    all_goals (refine k_ret1 rfl h rfl ⟨?_, hm.below⟩)
    all_goals first | exact boolT (by unfold isVar; simp only [true_or, or_true]) | exact boolF (by unfold isVar; simp only [*, or_self, not_false_eq_true])
theorem sVar_y (s : ByteArray) (h : isVar s) : Fun Tryz.prog 74 [.string s] (.bool true) := by
  have := sVar_ok s
  rwa [bT h] at this
theorem sVar_n (s : ByteArray) (h : ¬ isVar s) : Fun Tryz.prog 74 [.string s] (.bool false) := by
  have := sVar_ok s
  rwa [bF h] at this
end Go.Proofs.YtgmonjghbjaadaaGreatDoor.St
end
