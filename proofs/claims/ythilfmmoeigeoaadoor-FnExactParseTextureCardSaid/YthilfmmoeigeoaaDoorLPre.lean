/-
  Reading a number, whatever the text: the reference's.
-/
import Derived.Test.YthilfmmoeigeoaaDoorLPri
set_option linter.unusedSimpArgs false
set_option linter.unusedVariables false
namespace Go.Proofs.YthilfmmoeigeoaaDoor.St
open Go.RowKit
set_option maxHeartbeats 4000000 in
theorem sParse_none : Fun Tryd.prog 40 [.string ⟨#[]⟩] (.tuple #[I 0, .bool false]) := by
  refine enterFun Tryd.func40 rfl Tryd.ntmps40 rfl (fun W0 w a hm h => ?_)
  have hz : ((⟨#[]⟩ : ByteArray).size : Int) = 0 := rfl
  repeat' (first | refine c_seq ?_ | refine c_region ?_ | refine c_nil ?_ | refine k_then ?_ | refine k_thenL ?_ | refine k_thenR ?_ | refine k_thenE ?_ | refine k_inN ?_ | refine k_inR ?_ | refine k_inE ?_ | refine k_inO rfl ?_ | refine c_skip ?_ | refine c_ret ?_ | refine c_exit ?_ | refine c_block ?_ | refine r_succ ?_ | refine c_condT h rfl ?_ | refine c_condF h rfl ?_ | (refine c_rounds 1 ?_) | ((first | refine st_op rfl rfl h ?_ | refine st_opn rfl h ?_); clear h a; (first | (show Does _ (.binOp _ _ _ _ _) _ _ _ _; (first | ((refine does_eqlStrT rfl rfl rfl ?_)) | refine does_lssT rfl rfl (by omega) ?_ | refine does_lssF rfl rfl (by omega) ?_ | refine does_lss rfl rfl ?_ | refine does_gtrT rfl rfl (by omega) ?_ | refine does_gtrF rfl rfl (by omega) ?_ | refine does_gtr rfl rfl ?_ | refine does_eqlT rfl rfl (by omega) ?_ | refine does_eqlF rfl rfl (by omega) ?_ | refine does_eql rfl rfl ?_ | refine does_neqStrS rfl rfl ?_ | refine does_neqStr rfl rfl ?_ | refine does_eqlStrS rfl rfl ?_ | refine does_eqlStr rfl rfl ?_ | refine does_mul rfl rfl (mul_in (by omega) (by omega)) ?_ | refine does_add rfl rfl (by omega) ?_ | refine does_sub rfl rfl (by omega) ?_ | refine does_mul rfl rfl (by omega) ?_)) | (show Does _ (.move _) _ _ _ _; refine does_move rfl ?_) | (show Does _ (.assign _) _ _ _ _; refine does_assign rfl ?_) | (show Does _ (.pick _ _ _) _ _ _ _; (first | refine does_pickT rfl rfl ?_ | refine does_pickF rfl rfl ?_)) | (show Does _ (.unOp _ _ _) _ _ _ _; refine does_neg rfl (by omega) ?_) | (show Does _ (.call _) _ _ _ _; refine does_lenStr (StrT.out) rfl ?_) | (show Does _ (.index _ _ _) _ _ _ _; (first | refine does_indexVA (by omega) rfl rfl ?_ | refine does_indexV1 (by omega) rfl rfl rfl ?_))); intro a h; (try simp only [Value.cells, List.toList_toArray, splice, List.set_cons_zero, List.set_cons_succ, List.drop_zero, List.drop_succ_cons, List.take_succ_cons, List.take_zero, Nat.zero_add, Nat.reduceAdd, Nat.reduceMul, Int.reduceAdd, Int.reduceToNat, Int.reduceTMod, Nat.zero_mul, Nat.one_mul, Int.toNat_natCast] at h)) | ((first | refine st_skip rfl rfl h ?_ | refine st_skipn rfl h ?_); clear h a; intro a h) | ((first | refine c_condD h rfl ?_ ?_ | refine c_cond h rfl ?_ ?_) <;> intro hc <;> (try (first | exact absurd trivial hc | exact absurd rfl hc))) | (refine st_guardD rfl rfl h ?_ ?_ <;> clear h <;> intro hc h))
  all_goals first | (exfalso; omega) | exact k_ret (vs := [_, _]) rfl h ⟨rfl, rfl, trivial⟩ ⟨rfl, hm.below⟩
theorem isTx_some {s : ByteArray} {n : Int} (h : isTx s n) : 0 < s.size := by
  have := isTx_size h
  omega
theorem sParseInt_any (s : ByteArray) (hs : s.size ≤ 1048576) : FunV Tryd.prog 40 [.string s] (fun _ => True) (prP s) := by
  by_cases h0 : 0 < s.size
  · exact sParseInt_ok s hs h0
  · have e : s = ⟨#[]⟩ := by
      apply ByteArray.ext
      exact Array.eq_empty_of_size_eq_zero (show s.data.size = 0 from by have : s.size = s.data.size := rfl; omega)
    rw [e]
    exact ⟨fun w _ => (sParse_none.out w).mono fun e' w' ⟨he, hx⟩ => ⟨_, he, .inl ⟨rfl, fun n h => absurd (isTx_some h) (by decide)⟩, hx⟩⟩
end Go.Proofs.YthilfmmoeigeoaaDoor.St
