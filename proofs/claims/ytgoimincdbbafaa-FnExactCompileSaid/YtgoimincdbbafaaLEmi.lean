/-
  The program's translation of a node, and of the nodes below it.
-/
import Derived.Test.YtgoimincdbbafaaPCmp
import Derived.Test.YtgoimincdbbafaaLCln
import Derived.Test.YtgoimincdbbafaaLOwr
import Derived.Test.YtgoimincdbbafaaLMkP
import Derived.Test.YtgoimincdbbafaaStZip
set_option linter.unusedSimpArgs false
set_option linter.unusedVariables false
namespace Go.Proofs.Ytgoimincdbbafaa.St
open Go.RowKit
theorem instrOf_ok (ys : List TAssignment) (x : TNode) (b : Nat) : FunP Try.prog 131 [.agg (eN x).toArray, .map (some b)] (fun H => MapH H b (firstA ys ys.length)) (.agg (eInstruction (insOf ys x.a)).toArray) := by
  refine enterFunP Try.func131 rfl Try.ntmps131 rfl (fun W0 w a hp hm h => ?_)
  obtain ⟨o, hb, hM⟩ := hp
  by_cases h1 : x.a.op = 1
  · by_cases h2 : x.a.op = 2
    · omega
    · by_cases h8 : x.a.op = 8
      · omega
      · repeat' (first | refine c_seq ?_ | refine c_region ?_ | refine c_nil ?_ | refine k_then ?_ | refine k_thenR ?_ | refine k_inR ?_ | refine c_ret ?_ | refine c_block ?_ | refine c_condT h rfl ?_ | ((first | refine st_op rfl rfl h ?_ | refine st_opn rfl h ?_); clear h a; (first | (show Does _ (.call _) _ _ _ _; (((refine does_funM hm en101 rfl (exprOf_p x h2 h8) ?_; clear hm; intro w hm)))) | (show Does _ (.box _ _) _ _ _ _; (refine does_box hm rfl rfl ?_; clear hm; intro b w hm)) | (show Does _ (.alloc _) _ _ _ _; (refine does_alloc hm ?_; clear hm; intro b w hm)) | (show Does _ (.store _ _ _) _ _ _ _; ((refine zs hm rfl rfl rfl rfl rfl rfl ?_); clear hm; intro w hm; (try simp only [Value.cells, splice, nz, ns, Nat.reduceAdd, Nat.reduceMul, Int.reduceAdd, Int.reduceToNat] at hm))) | (show Does _ (.assign _) _ _ _ _; refine does_assign rfl ?_) | (show Does _ (.fieldAddr _ _ _) _ _ _ _; (refine does_fieldAddrL rfl ?_)) | (show Does _ (.load _ _) _ _ _ _; (first | refine zl hm rfl rfl ?_ | refine za hm rfl rfl ?_)) | (show Does _ (.binOp _ _ _ _ _) _ _ _ _; refine zeql rfl rfl ?_) | (show Does _ (.build _ _) _ _ _ _; refine does_build rfl rfl ?_)); intro a h; (try simp only [Value.cells, splice, nz, Nat.reduceAdd, Nat.reduceMul, Int.reduceAdd, Int.reduceToNat, Int.reduceTMod] at h)))
        (refine k_ret (vs := [_]) rfl h ⟨rv_cellA (i := 0) hm rfl rfl rfl, trivial⟩ ⟨?_, hm.below⟩)
        simp only [insOf, if_pos h1]
        rfl
  · by_cases h3 : x.a.op = 3
    · by_cases h2 : x.a.op = 2
      · omega
      · by_cases h8 : x.a.op = 8
        · omega
        · repeat' (first | refine c_seq ?_ | refine c_region ?_ | refine c_nil ?_ | refine k_then ?_ | refine k_thenR ?_ | refine k_inR ?_ | refine c_ret ?_ | refine c_block ?_ | refine c_condT h rfl ?_ | refine c_condF h rfl ?_ | ((first | refine st_op rfl rfl h ?_ | refine st_opn rfl h ?_); clear h a; (first | (show Does _ (.call _) _ _ _ _; (((refine does_funM hm en101 rfl (exprOf_p x h2 h8) ?_; clear hm; intro w hm)))) | (show Does _ (.box _ _) _ _ _ _; (refine does_box hm rfl rfl ?_; clear hm; intro b w hm)) | (show Does _ (.alloc _) _ _ _ _; (refine does_alloc hm ?_; clear hm; intro b w hm)) | (show Does _ (.store _ _ _) _ _ _ _; ((refine zs hm rfl rfl rfl rfl rfl rfl ?_); clear hm; intro w hm; (try simp only [Value.cells, splice, nz, ns, Nat.reduceAdd, Nat.reduceMul, Int.reduceAdd, Int.reduceToNat] at hm))) | (show Does _ (.assign _) _ _ _ _; refine does_assign rfl ?_) | (show Does _ (.fieldAddr _ _ _) _ _ _ _; (refine does_fieldAddrL rfl ?_)) | (show Does _ (.load _ _) _ _ _ _; (first | refine zl hm rfl rfl ?_ | refine za hm rfl rfl ?_)) | (show Does _ (.binOp _ _ _ _ _) _ _ _ _; refine zeql rfl rfl ?_) | (show Does _ (.build _ _) _ _ _ _; refine does_build rfl rfl ?_)); intro a h; (try simp only [Value.cells, splice, nz, Nat.reduceAdd, Nat.reduceMul, Int.reduceAdd, Int.reduceToNat, Int.reduceTMod] at h)))
          (refine k_ret (vs := [_]) rfl h ⟨rv_cellA (i := 0) hm rfl rfl rfl, trivial⟩ ⟨?_, hm.below⟩)
          simp only [insOf, if_neg h1, if_pos h3, h3]
          rfl
    · by_cases h2 : x.a.op = 2
      · by_cases hv : isVar x.a.name
        · repeat' (first | refine c_seq ?_ | refine c_region ?_ | refine c_nil ?_ | refine k_then ?_ | refine k_thenR ?_ | refine k_inR ?_ | refine c_ret ?_ | refine c_block ?_ | refine c_condT h rfl ?_ | refine c_condF h rfl ?_ | ((first | refine st_op rfl rfl h ?_ | refine st_opn rfl h ?_); clear h a; (first | (show Does _ (.call _) _ _ _ _; (first | ((refine does_funM hm en101 rfl (exprOf_v x h2) ?_; clear hm; intro w hm)) | ((refine does_funM hm en103 rfl (iVar_y _ (by assumption)) ?_); clear hm; intro w hm))) | (show Does _ (.typeAssert _ _ _ _) _ _ _ _; ((refine does_assertYC rfl ?_))) | (show Does _ (.box _ _) _ _ _ _; (refine does_box hm rfl rfl ?_; clear hm; intro b w hm)) | (show Does _ (.alloc _) _ _ _ _; (refine does_alloc hm ?_; clear hm; intro b w hm)) | (show Does _ (.store _ _ _) _ _ _ _; ((refine zs hm rfl rfl rfl rfl rfl rfl ?_); clear hm; intro w hm; (try simp only [Value.cells, splice, nz, ns, Nat.reduceAdd, Nat.reduceMul, Int.reduceAdd, Int.reduceToNat] at hm))) | (show Does _ (.move _) _ _ _ _; refine does_move rfl ?_) | (show Does _ (.assign _) _ _ _ _; refine does_assign rfl ?_) | (show Does _ (.fieldAddr _ _ _) _ _ _ _; (refine does_fieldAddrL rfl ?_)) | (show Does _ (.load _ _) _ _ _ _; (first | refine zl hm rfl rfl ?_ | refine za hm rfl rfl ?_)) | (show Does _ (.binOp _ _ _ _ _) _ _ _ _; refine zeql rfl rfl ?_) | (show Does _ (.extract _ _) _ _ _ _; refine does_extract rfl rfl ?_) | (show Does _ (.build _ _) _ _ _ _; refine does_build rfl rfl ?_)); intro a h; (try simp only [Value.cells, splice, nz, Nat.reduceAdd, Nat.reduceMul, Int.reduceAdd, Int.reduceToNat, Int.reduceTMod] at h)))
          (refine k_ret (vs := [_]) rfl h ⟨rv_cellA (i := 1) hm rfl rfl rfl, trivial⟩ ⟨?_, hm.below⟩)
          simp only [insOf, if_neg h1, if_neg h3, if_pos h2, if_pos hv]
          rfl
        · repeat' (first | refine c_seq ?_ | refine c_region ?_ | refine c_nil ?_ | refine k_then ?_ | refine k_thenR ?_ | refine k_inR ?_ | refine c_skip ?_ | refine c_ret ?_ | refine c_block ?_ | refine c_condT h rfl ?_ | refine c_condF h rfl ?_ | ((first | refine st_op rfl rfl h ?_ | refine st_opn rfl h ?_); clear h a; (first | (show Does _ (.call _) _ _ _ _; (first | ((refine does_funM hm en101 rfl (exprOf_v x h2) ?_; clear hm; intro w hm)) | ((refine does_funM hm en103 rfl (iVar_n _ (by assumption)) ?_); clear hm; intro w hm))) | (show Does _ (.typeAssert _ _ _ _) _ _ _ _; ((refine does_assertYC rfl ?_))) | (show Does _ (.lookup _ _ _ _) _ _ _ _; ((refine does_lookupN Try.underlying164 Try.underlying9 (hm.base _ _ hb) hM rfl rfl ?_))) | (show Does _ (.box _ _) _ _ _ _; (refine does_box hm rfl rfl ?_; clear hm; intro b w hm)) | (show Does _ (.alloc _) _ _ _ _; (refine does_alloc hm ?_; clear hm; intro b w hm)) | (show Does _ (.store _ _ _) _ _ _ _; ((refine zs hm rfl rfl rfl rfl rfl rfl ?_); clear hm; intro w hm; (try simp only [Value.cells, splice, nz, ns, Nat.reduceAdd, Nat.reduceMul, Int.reduceAdd, Int.reduceToNat] at hm))) | (show Does _ (.move _) _ _ _ _; refine does_move rfl ?_) | (show Does _ (.assign _) _ _ _ _; refine does_assign rfl ?_) | (show Does _ (.fieldAddr _ _ _) _ _ _ _; (refine does_fieldAddrL rfl ?_)) | (show Does _ (.load _ _) _ _ _ _; (first | refine zl hm rfl rfl ?_ | refine za hm rfl rfl ?_)) | (show Does _ (.binOp _ _ _ _ _) _ _ _ _; refine zeql rfl rfl ?_) | (show Does _ (.extract _ _) _ _ _ _; refine does_extract rfl rfl ?_) | (show Does _ (.build _ _) _ _ _ _; refine does_build rfl rfl ?_)); intro a h; (try simp only [Value.cells, splice, nz, Nat.reduceAdd, Nat.reduceMul, Int.reduceAdd, Int.reduceToNat, Int.reduceTMod] at h)))
          (refine k_ret (vs := [_]) rfl h ⟨rv_cellA (i := 1) hm rfl rfl rfl, trivial⟩ ⟨?_, hm.below⟩)
          simp only [insOf, if_neg h1, if_neg h3, if_pos h2, if_neg hv]
          rfl
      · by_cases h8 : x.a.op = 8
        · repeat' (first | refine c_seq ?_ | refine c_region ?_ | refine c_nil ?_ | refine k_then ?_ | refine k_thenR ?_ | refine k_inR ?_ | refine c_skip ?_ | refine c_ret ?_ | refine c_block ?_ | refine c_condT h rfl ?_ | refine c_condF h rfl ?_ | ((first | refine st_op rfl rfl h ?_ | refine st_opn rfl h ?_); clear h a; (first | (show Does _ (.call _) _ _ _ _; (((refine does_funM hm en101 rfl (exprOf_c x h8) ?_; clear hm; intro w hm)))) | (show Does _ (.typeAssert _ _ _ _) _ _ _ _; (first | ((refine does_assertNC rfl rfl ?_)) | ((refine does_assertYC rfl ?_)))) | (show Does _ (.box _ _) _ _ _ _; (refine does_box hm rfl rfl ?_; clear hm; intro b w hm)) | (show Does _ (.alloc _) _ _ _ _; (refine does_alloc hm ?_; clear hm; intro b w hm)) | (show Does _ (.store _ _ _) _ _ _ _; ((refine zs hm rfl rfl rfl rfl rfl rfl ?_); clear hm; intro w hm; (try simp only [Value.cells, splice, nz, ns, Nat.reduceAdd, Nat.reduceMul, Int.reduceAdd, Int.reduceToNat] at hm))) | (show Does _ (.move _) _ _ _ _; refine does_move rfl ?_) | (show Does _ (.assign _) _ _ _ _; refine does_assign rfl ?_) | (show Does _ (.fieldAddr _ _ _) _ _ _ _; (refine does_fieldAddrL rfl ?_)) | (show Does _ (.load _ _) _ _ _ _; (first | refine zl hm rfl rfl ?_ | refine za hm rfl rfl ?_)) | (show Does _ (.binOp _ _ _ _ _) _ _ _ _; refine zeql rfl rfl ?_) | (show Does _ (.extract _ _) _ _ _ _; refine does_extract rfl rfl ?_) | (show Does _ (.build _ _) _ _ _ _; refine does_build rfl rfl ?_)); intro a h; (try simp only [Value.cells, splice, nz, Nat.reduceAdd, Nat.reduceMul, Int.reduceAdd, Int.reduceToNat, Int.reduceTMod] at h)))
          (refine k_ret (vs := [_]) rfl h ⟨rv_cellA (i := 2) hm rfl rfl rfl, trivial⟩ ⟨?_, hm.below⟩)
          simp only [insOf, if_neg h1, if_neg h3, if_neg h2, if_pos h8]
          rfl
        · repeat' (first | refine c_seq ?_ | refine c_region ?_ | refine c_nil ?_ | refine k_then ?_ | refine k_inN ?_ | refine c_skip ?_ | refine c_ret ?_ | refine c_block ?_ | refine c_condF h rfl ?_ | ((first | refine st_op rfl rfl h ?_ | refine st_opn rfl h ?_); clear h a; (first | (show Does _ (.call _) _ _ _ _; (((refine does_funM hm en101 rfl (exprOf_p x h2 h8) ?_; clear hm; intro w hm)))) | (show Does _ (.typeAssert _ _ _ _) _ _ _ _; ((refine does_assertNC rfl rfl ?_))) | (show Does _ (.box _ _) _ _ _ _; (refine does_box hm rfl rfl ?_; clear hm; intro b w hm)) | (show Does _ (.alloc _) _ _ _ _; (refine does_alloc hm ?_; clear hm; intro b w hm)) | (show Does _ (.store _ _ _) _ _ _ _; ((refine zs hm rfl rfl rfl rfl rfl rfl ?_); clear hm; intro w hm; (try simp only [Value.cells, splice, nz, ns, Nat.reduceAdd, Nat.reduceMul, Int.reduceAdd, Int.reduceToNat] at hm))) | (show Does _ (.move _) _ _ _ _; refine does_move rfl ?_) | (show Does _ (.assign _) _ _ _ _; refine does_assign rfl ?_) | (show Does _ (.fieldAddr _ _ _) _ _ _ _; (refine does_fieldAddrL rfl ?_)) | (show Does _ (.load _ _) _ _ _ _; (first | refine zl hm rfl rfl ?_ | refine za hm rfl rfl ?_)) | (show Does _ (.binOp _ _ _ _ _) _ _ _ _; refine zeql rfl rfl ?_) | (show Does _ (.extract _ _) _ _ _ _; refine does_extract rfl rfl ?_) | (show Does _ (.build _ _) _ _ _ _; refine does_build rfl rfl ?_)); intro a h; (try simp only [Value.cells, splice, nz, Nat.reduceAdd, Nat.reduceMul, Int.reduceAdd, Int.reduceToNat, Int.reduceTMod] at h)))
          (refine k_ret (vs := [_]) rfl h ⟨rv_cellA (i := 2) hm rfl rfl rfl, trivial⟩ ⟨?_, hm.below⟩)
          simp only [insOf, if_neg h1, if_neg h3, if_neg h2, if_neg h8]
          rfl
theorem emA_len_le {ns : List PNode} {ys : List TAssignment} {x : PNode} (j : Nat) : (emA ns ys x j).length ≤ (emA ns ys x x.args.length).length := by
  have e : emA ns ys x x.args.length = emA ns ys x j ++ ((x.args.drop j).map fun c => em ns ys c.toNat).flatten := by
    unfold emA
    rw [List.take_length, ← List.flatten_append, ← List.map_append, List.take_append_drop]
  rw [e, List.length_append]
  omega
abbrev trL (fn : FuncId) (bp bv bc bf bm : Nat) (p q : Option Addr) (nx c ny d : Nat) (Tp Tv Tc Tf : TypeId) (v u : Value) (is : List TInstruction) : List Own :=
  [.row v 181 3 (is.map eInstruction).flatten, .blk bc (.cells [v, u].toArray Tc), .blk bv (.cells [.func (.func fn) #[] #[ptr0 bp, ptr0 bv, ptr0 bc, ptr0 bf]].toArray Tv), .blk bp (.cells [.slice p nx c, .slice q ny d].toArray Tp), .blk bf (.cells [.map (some bm)].toArray Tf)]
set_option maxHeartbeats 8000000 in
theorem trans_ok (bp bv bc bf bm : Nat) (p q : Option Addr) (xs : List TNode) (ys : List TAssignment) (c d : Nat) (Tp Tv Tc Tf : TypeId) (u : Value) (hv : vProg (xs.map aN) ys) (i : Nat) (hi : i < xs.length) (v : Value) (is : List TInstruction) (hn : is.length + (em (xs.map aN) ys i).length ≤ 4000000) :
    FunL Try.prog 130 [.int .i64 i, ptr0 bp, ptr0 bv, ptr0 bc, ptr0 bf] (trL 130 bp bv bc bf bm p q xs.length c ys.length d Tp Tv Tc Tf v u is) (fun B => NodesH B p xs ∧ MapH B bm (firstA ys ys.length))
    (fun _ L' => ∃ v', L' = trL 130 bp bv bc bf bm p q xs.length c ys.length d Tp Tv Tc Tf v' u (is ++ em (xs.map aN) ys i)) := by
  induction i using Nat.strongRecOn generalizing v is with
  | _ i ih =>
  refine enterFunL Try.func130 rfl Try.ntmps130 rfl (fun W0 X B L w a hp hm h => ?_)
  obtain ⟨hx, hmap⟩ := hp
  simp only [trL, List.cons_append, List.nil_append] at hm
  obtain ⟨q1, hq1, hat1⟩ := hx.row.at hi
  have hargs := hx.args _ (List.getElem_mem hi)
  have g2 : (xs.map aN)[i]? = some xs[i].a := by rw [List.getElem?_map, List.getElem?_eq_getElem hi]; rfl
  have h3 : xs[i].a.args.length ≤ 3 := ar3 (hv.nodes i _ g2).2
  have hall := emA_all (x := xs[i].a) hv g2
  have hall2 := congrArg List.length hall
  rw [List.length_append] at hall2
  simp only [List.length_cons, List.length_nil] at hall2
  subst hq1
  repeat' (first | refine c_seq ?_ | refine c_region ?_ | refine c_nil ?_ | refine k_then ?_ | refine c_block ?_ | (((refine st_op (d := 6) rfl rfl h ?_; refine does_alloc hm ?_; clear h a hm; intro b_6 w hm a h)); (try simp only [Value.cells, splice, nz, Nat.reduceAdd, Nat.reduceMul, Int.reduceAdd, Int.reduceToNat, Int.reduceTMod] at h)) | ((first | refine st_op rfl rfl h ?_ | refine st_opn rfl h ?_); clear h a; (first | (show Does _ (.store _ _ _) _ _ _ _; ((refine zs hm rfl rfl rfl rfl rfl rfl ?_); clear hm; intro w hm; (try simp only [Value.cells, splice, nz, ns, Nat.reduceAdd, Nat.reduceMul, Int.reduceAdd, Int.reduceToNat] at hm))) | (show Does _ (.move _) _ _ _ _; refine does_move rfl ?_) | (show Does _ (.fieldAddr _ _ _) _ _ _ _; (refine does_fieldAddrL rfl ?_)) | (show Does _ (.load _ _) _ _ _ _; (first | refine zl hm rfl rfl ?_ | refine does_loadBA hm rfl (by assumption) rfl ?_)) | (show Does _ (.call _) _ _ _ _; refine does_lenS (SliceT.out) rfl ?_) | (show Does _ (.indexAddr _ _ _) _ _ _ _; (refine ziSn rfl rfl ?_))); intro a h; (try simp only [Value.cells, splice, nz, Nat.reduceAdd, Nat.reduceMul, Int.reduceAdd, Int.reduceToNat, Int.reduceTMod] at h)))
  refine c_loop (σ := Nat × Value) (fun s a w => s.1 ≤ xs[i].a.args.length ∧ Mem W0 X B (trL 130 bp bv bc bf bm (some q1) q xs.length c ys.length d Tp Tv Tc Tf s.2 u (is ++ emA (xs.map aN) ys xs[i].a s.1) ++ (.blk b_6 (.cells (eN xs[i]).toArray 168) :: L)) w ∧
    Holds [(1, ptr0 bp), (2, ptr0 bv), (3, ptr0 bc), (4, ptr0 bf), (6, ptr0 b_6), (15, .slice xs[i].ptr xs[i].a.args.length xs[i].cap), (16, .int .i64 xs[i].a.args.length), (17, .int .i64 s.1)] _ a) (fun s => xs[i].a.args.length - s.1) (0, v)
    ⟨Nat.zero_le _, by rw [emA_zero, List.append_nil]; exact Mem.forth (A := [_]) (N := [_, _, _, _, _]) (L := L) hm, h.keep ⟨rfl, rfl, rfl, rfl, rfl, rfl, rfl, rfl, trivial⟩⟩ ?_
  clear h hm
  rintro ⟨j, v1⟩ a w ⟨hj, hm, h⟩
  simp only at hj hm h
  have hle := emA_len_le (ns := xs.map aN) (ys := ys) (x := xs[i].a) j
  by_cases hlt : j < xs[i].a.args.length
  · obtain ⟨q2, hq2, hat2⟩ := hargs.at1 hlt
    obtain ⟨m, hm0, hmi⟩ := args_nn hv g2 (List.getElem_mem hlt)
    have hgj : xs[i].a.args[j]? = some (m : Int) := by rw [List.getElem?_eq_getElem hlt, hm0]
    have hsu := emA_succ (ns := xs.map aN) (ys := ys) hgj
    have hle1 := emA_len_le (ns := xs.map aN) (ys := ys) (x := xs[i].a) (j + 1)
    rw [hsu, List.length_append] at hle1
    rw [hm0] at hat2
    rw [hq2] at h
    have hih := ih m hmi (by omega) v1 (is ++ emA (xs.map aN) ys xs[i].a j) (by rw [List.length_append]; omega)
    simp only [trL, List.cons_append, List.nil_append] at hm
    repeat' (first | refine c_seq ?_ | refine c_region ?_ | refine c_nil ?_ | refine k_then ?_ | refine c_skip ?_ | refine c_block ?_ | refine c_condT h rfl ?_ | ((refine st_op rfl rfl h ?_); clear h a; (first | (show Does _ (.move _) _ _ _ _; refine does_move rfl ?_) | (show Does _ (.assign _) _ _ _ _; refine does_assign rfl ?_) | (show Does _ (.load _ _) _ _ _ _; (first | refine zl hm rfl rfl ?_ | refine does_loadB hm rfl (by assumption) rfl ?_)) | (show Does _ (.binOp _ _ _ _ _) _ _ _ _; (refine zlss rfl rfl ?_)) | (show Does _ (.indexAddr _ _ _) _ _ _ _; (refine ziS1 rfl rfl ?_))); intro a h; (try simp only [Value.cells, splice, nz, Nat.reduceAdd, Nat.reduceMul, Int.reduceAdd, Int.reduceToNat, Int.reduceTMod] at h)))
    refine st_op rfl rfl h ?_; clear h a; refine does_funLV (L0 := trL 130 bp bv bc bf bm (some q1) q xs.length c ys.length d Tp Tv Tc Tf v1 u (is ++ emA (xs.map aN) ys xs[i].a j)) (L := .blk b_6 _ :: L) hm rfl rfl rfl hih ⟨hx, hmap⟩ ?_; clear hm; rintro v L1 w ⟨v2, rfl⟩ hm a h
    rw [List.append_assoc, ← hsu] at hm
    rw [← hq2] at h
    repeat' (first | refine c_region ?_ | refine c_nil ?_ | refine k_then ?_ | refine k_inN ?_ | ((refine st_op rfl rfl h ?_); clear h a; (first | (show Does _ (.move _) _ _ _ _; refine does_move rfl ?_) | (show Does _ (.binOp _ _ _ _ _) _ _ _ _; (refine zadd rfl rfl ?_))); intro a h; (try simp only [Value.cells, splice, nz, Nat.reduceAdd, Nat.reduceMul, Int.reduceAdd, Int.reduceToNat, Int.reduceTMod] at h)))
    exact k_thenN ⟨(j + 1, v2), ⟨hlt, hm, h.keep ⟨rfl, rfl, rfl, rfl, rfl, rfl, rfl, rfl, trivial⟩⟩, by show xs[i].a.args.length - (j + 1) < xs[i].a.args.length - j; omega⟩
  · obtain rfl : j = xs[i].a.args.length := by omega
    simp only [trL, List.cons_append, List.nil_append] at hm
    have hN : (is ++ emA (xs.map aN) ys xs[i].a xs[i].a.args.length).length + 1 ≤ 4000000 := by rw [List.length_append]; omega
    have hfl := flat_len (enc := eInstruction) (sz := 3) (fun _ => rfl) (is ++ emA (xs.map aN) ys xs[i].a xs[i].a.args.length)
    have hfin : ((is ++ emA (xs.map aN) ys xs[i].a xs[i].a.args.length).map eInstruction).flatten ++ eInstruction (insOf ys xs[i].a) = ((is ++ em (xs.map aN) ys i).map eInstruction).flatten := by
      rw [← hall, ← List.append_assoc, List.map_append (l₂ := [insOf ys xs[i].a])]
      simp
    repeat' (first | refine c_seq ?_ | refine c_region ?_ | refine c_nil ?_ | refine k_then ?_ | refine k_thenE ?_ | refine k_inE ?_ | refine c_exit ?_ | refine c_condF h rfl ?_ | ((first | refine st_op rfl rfl h ?_ | refine st_opn rfl h ?_); clear h a; (first | (show Does _ (.call _) _ _ _ _; (((refine does_appX 1 (n := (is ++ emA (xs.map aN) ys xs[i].a xs[i].a.args.length).length) (news := eInstruction (insOf ys xs[i].a)) hm rfl rfl rfl (by omega) hfl rfl (.inr ⟨_, rfl, at_own (i := 0) hm rfl (fun j v hv => (by rw [Nat.zero_add]; exact hv))⟩) (oneCells_mem rfl) (by omega) (by simp only [maxLen]; omega) ?_; clear hm; intro p5 c5 w hc5 hc6 hm; simp only [List.set_cons_zero, List.set_cons_succ, hfin] at hm)))) | (show Does _ (.store _ _ _) _ _ _ _; ((refine zs hm rfl rfl rfl rfl rfl rfl ?_); clear hm; intro w hm; (try simp only [Value.cells, splice, nz, ns, Nat.reduceAdd, Nat.reduceMul, Int.reduceAdd, Int.reduceToNat] at hm))) | (show Does _ (.fieldAddr _ _ _) _ _ _ _; (refine does_fieldAddrL rfl ?_)) | (show Does _ (.binOp _ _ _ _ _) _ _ _ _; (refine zlss rfl rfl ?_))); intro a h; (try simp only [Value.cells, splice, nz, Nat.reduceAdd, Nat.reduceMul, Int.reduceAdd, Int.reduceToNat, Int.reduceTMod] at h)) | (apply c_drawM (id := 6) 6 [.val _, .val _, .val _, .val _, .val _, .own _ _] mixed (by kernel_rfl) (h := h) (hm := hm); (case vcs => (repeat' (first | exact vcs_nil | refine vcs_cons ?_ ?_ | (intro w hm; (repeat (first | refine dep_val ?_ | refine dep_nil ?_)); first | exact vc_skip rfl | exact vc_alloc rfl | exact vc_box rfl rfl rfl | exact vc_buildSlice rfl rfl rfl rfl | exact vc_makeSlice (by omega) (by omega) rfl rfl rfl | exact vc_store rfl rfl rfl rfl rfl rfl rfl rfl rfl rfl | (apply vc_run rfl; (first | (show Does _ (.call _) _ _ _ _; (((refine does_funPX2 en131 rfl (by exact hmap.up hm) (instrOf_ok ys xs[i] bm) ?_)))) | (show Does _ (.fieldAddr _ _ _) _ _ _ _; (refine does_fieldAddrL rfl ?_)) | (show Does _ (.load _ _) _ _ _ _; (first | refine does_loadO 1 hm rfl rfl rfl ?_ | refine does_loadO 4 hm rfl rfl rfl ?_ | refine does_loadOA 5 hm rfl rfl rfl ?_))); (first | exact ⟨ext_refl _, rfl⟩ | exact fun _ hx => ⟨hx, rfl⟩)))))); (case hup => kernel_rfl); (case hown => kernel_rfl); (case hnp => kernel_rfl); clear h hm a; intro b6_0 w hm; (try simp only [lastO, List.map_cons, List.map_nil, List.cons_append, List.nil_append, reduceIte, Nat.reduceEqDiff, splice, List.set_cons_zero, List.set_cons_succ, Nat.zero_add, Nat.reduceAdd] at hm); (repeat (first | refine dep_val ?_ | refine dep_nil ?_)); intro a h; (try dsimp only at h); (try simp only [Value.cells, List.toList_toArray, splice, List.set_cons_zero, List.set_cons_succ, List.drop_zero, List.drop_succ_cons, List.take_succ_cons, List.take_zero, Nat.zero_add, Nat.reduceAdd, Nat.reduceMul, Int.reduceAdd, Int.reduceToNat, Int.reduceTMod, Nat.zero_mul, Nat.one_mul, Int.toNat_natCast] at h)))
    exact k_norm (k_ret (rs := []) (vs := []) rfl h trivial ⟨_, ⟨_, rfl⟩, hm.sub ((((((((List.Sublist.refl L).cons _).cons_cons _).cons_cons _).cons_cons _).cons_cons _).cons_cons _).cons _)⟩)
end Go.Proofs.Ytgoimincdbbafaa.St
