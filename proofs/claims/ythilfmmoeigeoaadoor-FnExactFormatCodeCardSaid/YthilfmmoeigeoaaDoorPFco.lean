/-
  Code as text: a line an instruction; numbers of any size as texts.
-/
import Derived.Test.YthilfmmoeigeoaaDoorLFms
import Derived.Test.YthilfmmoeigeoaaDoorLStk
import Derived.Lib.UnsafeStr
import Derived.Lib.AppendStr
set_option linter.unusedSimpArgs false
set_option linter.unusedVariables false
namespace Go.Proofs.YthilfmmoeigeoaaDoor.St
open Go.RowKit
open Classical in
noncomputable def nTx (n : Int) : ByteArray := if -1000000000 ≤ n ∧ n ≤ 1000000000 then iTx n else ⟨#[]⟩
theorem nTx_size (n : Int) : (nTx n).size ≤ 11 := by
  unfold nTx
  split
  · rename_i h
    have := (iTx_size h).2
    rw [bs_size]
    exact this
  · exact Nat.zero_le _
set_option maxHeartbeats 4000000 in
theorem sFormatInt_any (n : Int) : Fun Tryd.prog 22 [I n] (.string (nTx n)) := by
  by_cases hn : -1000000000 ≤ n ∧ n ≤ 1000000000
  · rw [nTx, if_pos hn]
    exact sFormatInt_ok n hn
  · rw [nTx, if_neg hn]
    refine enterFun Tryd.func22 rfl Tryd.ntmps22 rfl (fun W0 w a hm h => ?_)
    repeat' (first | refine c_seq ?_ | refine c_region ?_ | refine c_nil ?_ | refine k_then ?_ | refine k_thenL ?_ | refine k_thenR ?_ | refine k_thenE ?_ | refine k_inN ?_ | refine k_inR ?_ | refine k_inE ?_ | refine k_inO rfl ?_ | refine c_skip ?_ | refine c_ret ?_ | refine c_exit ?_ | refine c_block ?_ | refine r_succ ?_ | refine c_condT h rfl ?_ | refine c_condF h rfl ?_ | ((first | refine st_op rfl rfl h ?_ | refine st_opn rfl h ?_); clear h a; (first | (show Does _ (.buildSlice _ _ _) _ _ _ _; (refine does_buildSlice hm rfl rfl rfl ?_; clear hm; intro b w hm; (try simp only [rep, List.replicate_succ, List.replicate_zero, List.flatten_cons, List.flatten_nil, List.cons_append, List.nil_append, Nat.zero_mul, Nat.one_mul, Nat.reduceMul, Value.cells, List.toList_toArray, List.set_cons_zero, List.set_cons_succ, splice, Nat.zero_add, Nat.reduceAdd, Nat.reduceMul, Int.reduceAdd, Int.reduceToNat, Nat.zero_mul, Nat.one_mul, Int.toNat_natCast] at hm))) | (show Does _ (.call _) _ _ _ _; (first | (refine does_funM hm en47 rfl (sIn_ok _ _ _) ?_; clear hm; intro w hm) | (refine does_funM hm en47 rfl (sIn_y _ _ _ (by first | assumption | omega)) ?_; clear hm; intro w hm) | (refine does_funM hm en47 rfl (sIn_n _ _ _ (by first | assumption | omega)) ?_; clear hm; intro w hm))) | (show Does _ (.move _) _ _ _ _; refine does_move rfl ?_) | (show Does _ (.assign _) _ _ _ _; refine does_assign rfl ?_) | (show Does _ (.binOp _ _ _ _ _) _ _ _ _; (first | refine does_lssT rfl rfl (by omega) ?_ | refine does_lssF rfl rfl (by omega) ?_ | refine does_lss rfl rfl ?_ | refine does_gtrT rfl rfl (by omega) ?_ | refine does_gtrF rfl rfl (by omega) ?_ | refine does_gtr rfl rfl ?_ | refine does_add rfl rfl (by omega) ?_ | refine does_rem rfl rfl (by omega) ?_ | refine does_quo rfl rfl (by omega) ?_)) | (show Does _ (.unOp _ _ _) _ _ _ _; (first | refine does_notD rfl ?_ | refine does_not rfl ?_ | refine does_neg rfl (by omega) ?_))); intro a h; (try simp only [Value.cells, List.toList_toArray, splice, List.set_cons_zero, List.set_cons_succ, List.drop_zero, List.drop_succ_cons, List.take_succ_cons, List.take_zero, Nat.zero_add, Nat.reduceAdd, Nat.reduceMul, Int.reduceAdd, Int.reduceToNat, Int.reduceTMod, Nat.zero_mul, Nat.one_mul, Int.toNat_natCast] at h)) | ((first | refine st_skip rfl rfl h ?_ | refine st_skipn rfl h ?_); clear h a; intro a h) | ((first | refine c_condD h rfl ?_ ?_ | refine c_cond h rfl ?_ ?_) <;> intro hc <;> (try (first | exact absurd trivial hc | exact absurd rfl hc))) | (refine st_guardD rfl rfl h ?_ ?_ <;> clear h <;> intro hc h))
    all_goals first | exact absurd hn hc | ((first | refine k_ret1 rfl h rfl ⟨?_, hm.below⟩ | refine k_ret2 rfl h rfl rfl ⟨?_, hm.below⟩ | refine k_ret (vs := [_]) rfl h ⟨rv_cellA (i := 0) hm rfl rfl rfl, trivial⟩ ⟨?_, hm.below⟩ | refine k_ret (vs := [_]) rfl h ⟨rv_cellA (i := 1) hm rfl rfl rfl, trivial⟩ ⟨?_, hm.below⟩ | refine k_ret (vs := [_]) rfl h ⟨rv_cellA (i := 2) hm rfl rfl rfl, trivial⟩ ⟨?_, hm.below⟩ | refine k_ret (vs := [_]) rfl h ⟨rv_cellA (i := 3) hm rfl rfl rfl, trivial⟩ ⟨?_, hm.below⟩ | refine k_ret (vs := [_]) rfl h ⟨rv_cellA (i := 4) hm rfl rfl rfl, trivial⟩ ⟨?_, hm.below⟩ | refine k_ret (vs := [_]) rfl h ⟨rv_cellA (i := 5) hm rfl rfl rfl, trivial⟩ ⟨?_, hm.below⟩ | refine k_ret (vs := [_]) rfl h ⟨rv_cellA (i := 6) hm rfl rfl rfl, trivial⟩ ⟨?_, hm.below⟩ | refine k_ret (vs := [_]) rfl h ⟨rv_cellA (i := 7) hm rfl rfl rfl, trivial⟩ ⟨?_, hm.below⟩ | refine k_ret (vs := [_]) rfl h ⟨rv_cellA (i := 8) hm rfl rfl rfl, trivial⟩ ⟨?_, hm.below⟩ | refine k_ret (vs := [_]) rfl h ⟨rv_cellA (i := 9) hm rfl rfl rfl, trivial⟩ ⟨?_, hm.below⟩ | refine k_ret (vs := [_]) rfl h ⟨rv_cell1 (i := 0) hm rfl rfl rfl, trivial⟩ ⟨?_, hm.below⟩ | refine k_ret (vs := [_]) rfl h ⟨rv_cell1 (i := 1) hm rfl rfl rfl, trivial⟩ ⟨?_, hm.below⟩ | refine k_ret (vs := [_]) rfl h ⟨rv_cell1 (i := 2) hm rfl rfl rfl, trivial⟩ ⟨?_, hm.below⟩ | refine k_ret (vs := [_]) rfl h ⟨rv_cell1 (i := 3) hm rfl rfl rfl, trivial⟩ ⟨?_, hm.below⟩ | refine k_ret (vs := [_]) rfl h ⟨rv_cell1 (i := 4) hm rfl rfl rfl, trivial⟩ ⟨?_, hm.below⟩ | refine k_ret (vs := [_]) rfl h ⟨rv_cell1 (i := 5) hm rfl rfl rfl, trivial⟩ ⟨?_, hm.below⟩ | refine k_ret (vs := [_]) rfl h ⟨rv_cell1 (i := 6) hm rfl rfl rfl, trivial⟩ ⟨?_, hm.below⟩ | refine k_ret (vs := [_]) rfl h ⟨rv_cell1 (i := 7) hm rfl rfl rfl, trivial⟩ ⟨?_, hm.below⟩ | refine k_ret (vs := [_]) rfl h ⟨rv_cell1 (i := 8) hm rfl rfl rfl, trivial⟩ ⟨?_, hm.below⟩ | refine k_ret (vs := [_]) rfl h ⟨rv_cell1 (i := 9) hm rfl rfl rfl, trivial⟩ ⟨?_, hm.below⟩ | refine k_ret (vs := [_, _]) rfl h ⟨rv_cellA (i := 0) hm rfl rfl rfl, rfl, trivial⟩ ⟨?_, hm.below⟩ | refine k_ret (vs := [_, _]) rfl h ⟨rv_cellA (i := 1) hm rfl rfl rfl, rfl, trivial⟩ ⟨?_, hm.below⟩ | refine k_ret (vs := [_, _]) rfl h ⟨rv_cellA (i := 2) hm rfl rfl rfl, rfl, trivial⟩ ⟨?_, hm.below⟩ | refine k_ret (vs := [_, _]) rfl h ⟨rv_cellA (i := 3) hm rfl rfl rfl, rfl, trivial⟩ ⟨?_, hm.below⟩ | refine k_ret (vs := [_, _]) rfl h ⟨rv_cellA (i := 4) hm rfl rfl rfl, rfl, trivial⟩ ⟨?_, hm.below⟩ | refine k_ret (vs := [_, _]) rfl h ⟨rv_cellA (i := 5) hm rfl rfl rfl, rfl, trivial⟩ ⟨?_, hm.below⟩ | refine k_ret (vs := [_, _]) rfl h ⟨rv_cellA (i := 6) hm rfl rfl rfl, rfl, trivial⟩ ⟨?_, hm.below⟩ | refine k_ret (vs := [_, _]) rfl h ⟨rv_cellA (i := 7) hm rfl rfl rfl, rfl, trivial⟩ ⟨?_, hm.below⟩ | refine k_ret (vs := [_, _]) rfl h ⟨rv_cellA (i := 8) hm rfl rfl rfl, rfl, trivial⟩ ⟨?_, hm.below⟩ | refine k_ret (vs := [_, _]) rfl h ⟨rv_cellA (i := 9) hm rfl rfl rfl, rfl, trivial⟩ ⟨?_, hm.below⟩); rfl)
set_option maxHeartbeats 4000000 in
theorem iFormatInt_any (n : Int) : FunP Tryd.prog 26 [I n] TabH (.string (nTx n)) := by
  by_cases hn : -1000000000 ≤ n ∧ n ≤ 1000000000
  · rw [nTx, if_pos hn]
    exact iFormatInt_ok n hn
  · rw [nTx, if_neg hn]
    refine enterFunP Tryd.func26 rfl Tryd.ntmps26 rfl (fun W0 w a hp hm h => ?_)
    repeat' (first | refine c_seq ?_ | refine c_region ?_ | refine c_nil ?_ | refine k_then ?_ | refine k_thenL ?_ | refine k_thenR ?_ | refine k_thenE ?_ | refine k_inN ?_ | refine k_inR ?_ | refine k_inE ?_ | refine k_inO rfl ?_ | refine c_skip ?_ | refine c_ret ?_ | refine c_exit ?_ | refine c_block ?_ | refine r_succ ?_ | refine c_condT h rfl ?_ | refine c_condF h rfl ?_ | ((first | refine st_op rfl rfl h ?_ | refine st_opn rfl h ?_); clear h a; (first | (show Does _ (.move _) _ _ _ _; refine does_move rfl ?_) | (show Does _ (.assign _) _ _ _ _; refine does_assign rfl ?_) | (show Does _ (.pick _ _ _) _ _ _ _; (first | refine does_pickT rfl rfl ?_ | refine does_pickF rfl rfl ?_)) | (show Does _ (.binOp _ _ _ _ _) _ _ _ _; (first | refine does_lssT rfl rfl (by omega) ?_ | refine does_lssF rfl rfl (by omega) ?_ | refine does_lss rfl rfl ?_ | refine does_gtrT rfl rfl (by omega) ?_ | refine does_gtrF rfl rfl (by omega) ?_ | refine does_gtr rfl rfl ?_))); intro a h; (try simp only [Value.cells, List.toList_toArray, splice, List.set_cons_zero, List.set_cons_succ, List.drop_zero, List.drop_succ_cons, List.take_succ_cons, List.take_zero, Nat.zero_add, Nat.reduceAdd, Nat.reduceMul, Int.reduceAdd, Int.reduceToNat, Int.reduceTMod, Nat.zero_mul, Nat.one_mul, Int.toNat_natCast] at h)) | ((first | refine st_skip rfl rfl h ?_ | refine st_skipn rfl h ?_); clear h a; intro a h) | ((first | refine c_condD h rfl ?_ ?_ | refine c_cond h rfl ?_ ?_) <;> intro hc <;> (try (first | exact absurd trivial hc | exact absurd rfl hc))) | (refine st_guardD rfl rfl h ?_ ?_ <;> clear h <;> intro hc h))
    all_goals first | (exfalso; omega) | ((first | refine k_ret1 rfl h rfl ⟨?_, hm.below⟩ | refine k_ret2 rfl h rfl rfl ⟨?_, hm.below⟩ | refine k_ret (vs := [_]) rfl h ⟨rv_cellA (i := 0) hm rfl rfl rfl, trivial⟩ ⟨?_, hm.below⟩ | refine k_ret (vs := [_]) rfl h ⟨rv_cellA (i := 1) hm rfl rfl rfl, trivial⟩ ⟨?_, hm.below⟩ | refine k_ret (vs := [_]) rfl h ⟨rv_cellA (i := 2) hm rfl rfl rfl, trivial⟩ ⟨?_, hm.below⟩ | refine k_ret (vs := [_]) rfl h ⟨rv_cellA (i := 3) hm rfl rfl rfl, trivial⟩ ⟨?_, hm.below⟩ | refine k_ret (vs := [_]) rfl h ⟨rv_cellA (i := 4) hm rfl rfl rfl, trivial⟩ ⟨?_, hm.below⟩ | refine k_ret (vs := [_]) rfl h ⟨rv_cellA (i := 5) hm rfl rfl rfl, trivial⟩ ⟨?_, hm.below⟩ | refine k_ret (vs := [_]) rfl h ⟨rv_cellA (i := 6) hm rfl rfl rfl, trivial⟩ ⟨?_, hm.below⟩ | refine k_ret (vs := [_]) rfl h ⟨rv_cellA (i := 7) hm rfl rfl rfl, trivial⟩ ⟨?_, hm.below⟩ | refine k_ret (vs := [_]) rfl h ⟨rv_cellA (i := 8) hm rfl rfl rfl, trivial⟩ ⟨?_, hm.below⟩ | refine k_ret (vs := [_]) rfl h ⟨rv_cellA (i := 9) hm rfl rfl rfl, trivial⟩ ⟨?_, hm.below⟩ | refine k_ret (vs := [_]) rfl h ⟨rv_cell1 (i := 0) hm rfl rfl rfl, trivial⟩ ⟨?_, hm.below⟩ | refine k_ret (vs := [_]) rfl h ⟨rv_cell1 (i := 1) hm rfl rfl rfl, trivial⟩ ⟨?_, hm.below⟩ | refine k_ret (vs := [_]) rfl h ⟨rv_cell1 (i := 2) hm rfl rfl rfl, trivial⟩ ⟨?_, hm.below⟩ | refine k_ret (vs := [_]) rfl h ⟨rv_cell1 (i := 3) hm rfl rfl rfl, trivial⟩ ⟨?_, hm.below⟩ | refine k_ret (vs := [_]) rfl h ⟨rv_cell1 (i := 4) hm rfl rfl rfl, trivial⟩ ⟨?_, hm.below⟩ | refine k_ret (vs := [_]) rfl h ⟨rv_cell1 (i := 5) hm rfl rfl rfl, trivial⟩ ⟨?_, hm.below⟩ | refine k_ret (vs := [_]) rfl h ⟨rv_cell1 (i := 6) hm rfl rfl rfl, trivial⟩ ⟨?_, hm.below⟩ | refine k_ret (vs := [_]) rfl h ⟨rv_cell1 (i := 7) hm rfl rfl rfl, trivial⟩ ⟨?_, hm.below⟩ | refine k_ret (vs := [_]) rfl h ⟨rv_cell1 (i := 8) hm rfl rfl rfl, trivial⟩ ⟨?_, hm.below⟩ | refine k_ret (vs := [_]) rfl h ⟨rv_cell1 (i := 9) hm rfl rfl rfl, trivial⟩ ⟨?_, hm.below⟩ | refine k_ret (vs := [_, _]) rfl h ⟨rv_cellA (i := 0) hm rfl rfl rfl, rfl, trivial⟩ ⟨?_, hm.below⟩ | refine k_ret (vs := [_, _]) rfl h ⟨rv_cellA (i := 1) hm rfl rfl rfl, rfl, trivial⟩ ⟨?_, hm.below⟩ | refine k_ret (vs := [_, _]) rfl h ⟨rv_cellA (i := 2) hm rfl rfl rfl, rfl, trivial⟩ ⟨?_, hm.below⟩ | refine k_ret (vs := [_, _]) rfl h ⟨rv_cellA (i := 3) hm rfl rfl rfl, rfl, trivial⟩ ⟨?_, hm.below⟩ | refine k_ret (vs := [_, _]) rfl h ⟨rv_cellA (i := 4) hm rfl rfl rfl, rfl, trivial⟩ ⟨?_, hm.below⟩ | refine k_ret (vs := [_, _]) rfl h ⟨rv_cellA (i := 5) hm rfl rfl rfl, rfl, trivial⟩ ⟨?_, hm.below⟩ | refine k_ret (vs := [_, _]) rfl h ⟨rv_cellA (i := 6) hm rfl rfl rfl, rfl, trivial⟩ ⟨?_, hm.below⟩ | refine k_ret (vs := [_, _]) rfl h ⟨rv_cellA (i := 7) hm rfl rfl rfl, rfl, trivial⟩ ⟨?_, hm.below⟩ | refine k_ret (vs := [_, _]) rfl h ⟨rv_cellA (i := 8) hm rfl rfl rfl, rfl, trivial⟩ ⟨?_, hm.below⟩ | refine k_ret (vs := [_, _]) rfl h ⟨rv_cellA (i := 9) hm rfl rfl rfl, rfl, trivial⟩ ⟨?_, hm.below⟩); rfl)
abbrev wordsB : List ByteArray := [⟨#[]⟩, ⟨#[112, 117, 115, 104]⟩, ⟨#[108, 111, 97, 100]⟩, ⟨#[108, 111, 99, 97, 108]⟩, ⟨#[115, 116, 111, 114, 101]⟩, ⟨#[117, 110, 97, 114, 121]⟩, ⟨#[98, 105, 110, 97, 114, 121]⟩, ⟨#[99, 97, 108, 108]⟩]
def wd (o : Int) : ByteArray := wordsB.getD o.toNat ⟨#[]⟩
theorem wd_get {o : Int} (h : 0 ≤ o ∧ o ≤ 7) : (wordsB.map Value.string)[o.toNat]? = some (.string (wd o)) := by
  obtain rfl | rfl | rfl | rfl | rfl | rfl | rfl | rfl : o = 0 ∨ o = 1 ∨ o = 2 ∨ o = 3 ∨ o = 4 ∨ o = 5 ∨ o = 6 ∨ o = 7 := by omega
  all_goals rfl
theorem wd_size {o : Int} (h : 0 ≤ o ∧ o ≤ 7) : (wd o).size ≤ 6 := by
  obtain rfl | rfl | rfl | rfl | rfl | rfl | rfl | rfl : o = 0 ∨ o = 1 ∨ o = 2 ∨ o = 3 ∨ o = 4 ∨ o = 5 ∨ o = 6 ∨ o = 7 := by omega
  all_goals (show _ ≤ 6; decide)
open Classical in
noncomputable def argT (x : TInstruction) : ByteArray := if x.1 = 2 ∨ x.1 = 7 then x.2.1 else nTx x.2.2
noncomputable def lineT (x : TInstruction) : ByteArray := wd x.1 ++ ⟨#[32]⟩ ++ argT x ++ ⟨#[10]⟩
noncomputable def codeT (xs : List TInstruction) (k : Nat) : ByteArray := (xs.take k).foldl (fun s x => s ++ lineT x) ⟨#[]⟩
theorem codeT_succ {xs : List TInstruction} {k : Nat} (h : k < xs.length) : codeT xs (k + 1) = codeT xs k ++ lineT xs[k] := by
  unfold codeT
  rw [List.take_succ_eq_append_getElem h, List.foldl_append]
  rfl
theorem wf_op {o : Int} {s : ByteArray} {k n : Int} (h : wfI o s k n) : 1 ≤ o ∧ o ≤ 7 := by
  unfold wfI at h
  omega
theorem var_size {s : ByteArray} (h : isVar s) : s.size = 1 := by
  rcases h with rfl | rfl | rfl | rfl | rfl | rfl <;> rfl
theorem ar_size {s : ByteArray} (h : 0 ≤ ar s) : s.size ≤ 11 := by
  rcases arCases s with rfl | rfl | rfl | rfl | rfl | rfl | rfl | rfl | rfl | rfl | rfl | ⟨h0, h1, h2, h3, h4, h5, h6, h7, h8, h9, h10⟩
  all_goals first | (show _ ≤ 11; decide) | skip
  unfold ar at h
  simp only [h0, h1, h2, h3, h4, h5, h6, h7, h8, h9, h10, or_self, if_false] at h
  omega
theorem arg_size {x : TInstruction} {n : Int} (h : wfI x.1 x.2.1 x.2.2 n) : (argT x).size ≤ 11 := by
  unfold argT
  split
  · rename_i ho
    unfold wfI at h
    rcases h with h | h | h | h | h | h
    · omega
    · rw [var_size h.2.1]; omega
    · omega
    · omega
    · omega
    · exact ar_size h.2.1
  · exact nTx_size _
theorem line_size {x : TInstruction} {n : Int} (h : wfI x.1 x.2.1 x.2.2 n) : (lineT x).size ≤ 19 := by
  have h1 := arg_size h
  have h2 := wf_op h
  have h3 := wd_size (o := x.1) (by omega)
  have e1 : (⟨#[32]⟩ : ByteArray).size = 1 := rfl
  have e2 : (⟨#[10]⟩ : ByteArray).size = 1 := rfl
  unfold lineT
  rw [ByteArray.size_append, ByteArray.size_append, ByteArray.size_append, e1, e2]
  omega
theorem code_size {xs : List TInstruction} {n : Int} (h : ∀ x ∈ xs, wfI x.1 x.2.1 x.2.2 n) : ∀ k, k ≤ xs.length → (codeT xs k).size ≤ 19 * k
  | 0, _ => Nat.le_refl _
  | k + 1, hk => by
    have h1 := code_size h k (by omega)
    have h2 := line_size (h _ (List.getElem_mem (show k < xs.length by omega)))
    rw [codeT_succ (by omega), ByteArray.size_append]
    omega
end Go.Proofs.YthilfmmoeigeoaaDoor.St
