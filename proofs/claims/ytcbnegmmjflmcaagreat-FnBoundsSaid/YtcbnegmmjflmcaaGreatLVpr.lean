/-
  Valid programs.
-/
import Derived.Test.YtcbnegmmjflmcaaGreatLNod
import Derived.Test.YtcbnegmmjflmcaaGreatJ11
import Derived.Test.YtcbnegmmjflmcaaGreatJ3
set_option linter.unusedSimpArgs false
set_option linter.unusedVariables false
namespace Go.Proofs.YtcbnegmmjflmcaaGreat.St
open Go.RowKit
def refsN (ns : List PNode) : List Int := (ns.map PNode.args).flatten
structure vProg (ns : List PNode) (ys : List TAssignment) : Prop where
  small : ns.length ≤ 60
  nodes : ∀ (i : Nat) (x : PNode), ns[i]? = some x → argsOk x.args i ∧ vNode x
  asg : ∀ y ∈ ys, ident y.1 ∧ 0 ≤ y.2 ∧ y.2 ≤ (ns.length : Int) - 1
  once : ∀ m, m < ns.length → cnt (refsN ns ++ ys.map Prod.snd) m = 1
abbrev rT (xs : List TNode) : List Int := refsN (xs.map aN)
theorem rT_succ {xs : List TNode} {k : Nat} (h : k < xs.length) : rT (xs.take (k + 1)) = rT (xs.take k) ++ xs[k].a.args := by
  unfold rT refsN
  rw [List.take_succ_eq_append_getElem h, List.map_append, List.map_append, List.flatten_append]
  simp
theorem ar3 {x : PNode} (h : vNode x) : x.args.length ≤ 3 := by
  have := h.2.2
  unfold arOk at this
  omega
theorem snd_succ {ys : List TAssignment} {k : Nat} (h : k < ys.length) : (ys.take (k + 1)).map Prod.snd = (ys.take k).map Prod.snd ++ [ys[k].2] := by
  rw [List.take_succ_eq_append_getElem h, List.map_append]
  rfl
theorem flat_map_I : ∀ xs : List Int, (xs.map eI).flatten = xs.map I
  | [] => rfl
  | x :: xs => by simp [flat_map_I xs]
set_option maxHeartbeats 16000000 in
theorem l13Uses_ok (p q : Option Addr) (xs : List TNode) (ys : List TAssignment) (c d : Nat) (hxs : xs.length ≤ 1048576) (hsm : ∀ x ∈ xs, smN x) (hys : ys.length ≤ 1048576) (hnodes : ∀ (i : Nat) (x : TNode), xs[i]? = some x → argsOk x.a.args i ∧ vNode x.a) (hasg : ∀ y ∈ ys, ident y.1 ∧ 0 ≤ y.2 ∧ y.2 ≤ (xs.length : Int) - 1) :
    FunN Tryz.prog 102 [.agg #[.slice p xs.length c, .slice q ys.length d]] (fun H => ProgH H p q xs ys) 3 1 ((cntL xs.length (rT xs ++ ys.map Prod.snd)).map eI).flatten := by
  refine enterFunN Tryz.func102 rfl Tryz.ntmps102 rfl (fun W0 w a hp hm h => ?_)
  obtain ⟨hx, hy⟩ := hp
  repeat' (first | refine c_seq ?_ | refine c_region ?_ | refine c_nil ?_ | refine k_then ?_ | refine c_block ?_ | (((refine st_op (d := 1) rfl rfl h ?_; refine does_box hm rfl rfl ?_; clear h a hm; intro b_1 w hm a h))) | ((refine st_op rfl rfl h ?_); clear h a; (first | (show Does _ (.makeSlice _ _ _) _ _ _ _; ((refine does_make hm rfl rfl (by omega) (by omega) ?_; clear hm; intro b w hm))) | (show Does _ (.move _) _ _ _ _; refine does_move rfl ?_) | (show Does _ (.assign _) _ _ _ _; refine does_assign rfl ?_) | (show Does _ (.fieldAddr _ _ _) _ _ _ _; (refine does_fieldAddrL rfl ?_)) | (show Does _ (.load _ _) _ _ _ _; (refine zl hm rfl rfl ?_)) | (show Does _ (.call _) _ _ _ _; refine does_lenS (SliceT.out) rfl ?_)); intro a h; (first | simp only [Value.cells, splice, nz, Nat.reduceAdd, Nat.reduceMul, Int.reduceAdd, Int.reduceToNat, Int.reduceTMod] at h | skip)))
  rw [rep_cnt] at hm
  refine c_loop (σ := Nat) (fun k a w => k ≤ xs.length ∧ (rT (xs.take k)).length ≤ 3 * k ∧ Mem W0 [] (fun b => W0.heap[b]?) [.blk b (.cells ((cntL xs.length (rT (xs.take k))).map I).toArray 3), .blk b_1 (.cells [.slice p xs.length c, .slice q ys.length d].toArray 108)] w ∧
    Holds [(1, .pointer (some ⟨b_1, 0, none⟩)), (3, .slice (some ⟨b, 0, none⟩) xs.length xs.length), (15, .slice p xs.length c), (16, .int .i64 xs.length), (17, .int .i64 k)] _ a) (fun k => xs.length - k) 0
    ⟨Nat.zero_le _, by simp [rT, refsN], by simpa [rT, refsN] using hm, h.keep ⟨rfl, rfl, rfl, rfl, rfl, trivial⟩⟩ ?_
  clear h hm
  rintro k a w ⟨hk, hrl, hm, h⟩
  by_cases hlt : k < xs.length
  · obtain ⟨q1, rfl, hat1⟩ := hx.row.at hlt
    have hmem := List.getElem_mem hlt
    have hargs := hx.args _ hmem
    have hsz : xs[k].a.args.length ≤ 1048576 := hsm _ hmem
    have g1 : xs[k]? = some xs[k] := List.getElem?_eq_getElem hlt
    obtain ⟨ha, hv⟩ := hnodes k _ g1
    have h3 := ar3 hv
    have hsucc := rT_succ hlt
    repeat' (first | refine c_seq ?_ | refine c_region ?_ | refine c_nil ?_ | refine k_then ?_ | refine c_skip ?_ | refine c_block ?_ | refine c_condT h rfl ?_ | (((refine st_op (d := 5) rfl rfl h ?_; refine does_alloc hm ?_; clear h a hm; intro b_5 w hm a h))) | ((first | refine st_op rfl rfl h ?_ | refine st_opn rfl h ?_); clear h a; (first | (show Does _ (.store _ _ _) _ _ _ _; ((refine zs hm rfl rfl rfl rfl rfl rfl ?_); clear hm; intro w hm; (simp only [Value.cells, splice, nz, ns, Nat.reduceAdd, Nat.reduceMul, Int.reduceAdd, Int.reduceToNat] at hm))) | (show Does _ (.move _) _ _ _ _; refine does_move rfl ?_) | (show Does _ (.fieldAddr _ _ _) _ _ _ _; (refine does_fieldAddrL rfl ?_)) | (show Does _ (.load _ _) _ _ _ _; (first | refine zl hm rfl rfl ?_ | refine does_loadBA hm rfl (by assumption) rfl ?_)) | (show Does _ (.binOp _ _ _ _ _) _ _ _ _; (refine zlss rfl rfl ?_)) | (show Does _ (.call _) _ _ _ _; refine does_lenS (SliceT.out) rfl ?_) | (show Does _ (.indexAddr _ _ _) _ _ _ _; (refine ziSn rfl rfl ?_))); intro a h; (first | simp only [Value.cells, splice, nz, Nat.reduceAdd, Nat.reduceMul, Int.reduceAdd, Int.reduceToNat, Int.reduceTMod] at h | skip)))
    refine c_loop (σ := Nat) (fun j a w => j ≤ xs[k].a.args.length ∧ Mem W0 [] (fun b => W0.heap[b]?) [.blk b_5 (.cells (eN xs[k]).toArray 155), .blk b (.cells ((cntL xs.length (rT (xs.take k) ++ xs[k].a.args.take j)).map I).toArray 3), .blk b_1 (.cells [.slice (some q1) xs.length c, .slice q ys.length d].toArray 108)] w ∧
      Holds [(1, .pointer (some ⟨b_1, 0, none⟩)), (3, .slice (some ⟨b, 0, none⟩) xs.length xs.length), (15, .slice (some q1) xs.length c), (16, .int .i64 xs.length), (17, .int .i64 k), (22, .slice xs[k].ptr xs[k].a.args.length xs[k].cap), (23, .int .i64 xs[k].a.args.length), (24, .int .i64 j)] _ a) (fun j => xs[k].a.args.length - j) 0
      ⟨Nat.zero_le _, by simpa using hm, h.keep ⟨rfl, rfl, rfl, rfl, rfl, rfl, rfl, rfl, trivial⟩⟩ ?_
    clear h hm
    rintro j a w ⟨hj, hm, h⟩
    by_cases hltj : j < xs[k].a.args.length
    · obtain ⟨q2, hq2, hat2⟩ := hargs.at1 hltj
      have hgd : xs[k].a.args.getD j 0 = xs[k].a.args[j] := by simp [List.getD, hltj]
      have hr := ha j hltj
      rw [hgd] at hr
      obtain ⟨m, hm0⟩ : ∃ m : Nat, xs[k].a.args[j] = (m : Int) := ⟨xs[k].a.args[j].toNat, by omega⟩
      rw [hm0] at hat2
      have hmn : m < xs.length := by omega
      have hcb := cnt_bd (rT (xs.take k) ++ xs[k].a.args.take j) m
      have hcl : (rT (xs.take k) ++ xs[k].a.args.take j).length ≤ 4000000 := by rw [List.length_append, List.length_take]; omega
      rw [hq2] at h
      repeat' (first | refine c_seq ?_ | refine c_region ?_ | refine c_nil ?_ | refine k_then ?_ | refine k_inN ?_ | refine c_skip ?_ | refine c_block ?_ | refine c_condT h rfl ?_ | ((first | refine st_op rfl rfl h ?_ | refine st_opn rfl h ?_); clear h a; (first | (show Does _ (.load _ _) _ _ _ _; (first | ((refine does_loadArr 1 hm rfl rfl rfl (cntL_get _ hmn) ?_)) | refine does_loadB hm rfl (by assumption) rfl ?_)) | (show Does _ (.store _ _ _) _ _ _ _; (((refine does_storeArr (u := cnt (rT (xs.take k) ++ xs[k].a.args.take j) m + 1) 1 hm rfl rfl rfl rfl rfl (by rw [cntL_len]; exact hmn) rfl rfl rfl ?_; clear hm; intro w hm; simp only [List.set_cons_succ, List.set_cons_zero] at hm)))) | (show Does _ (.move _) _ _ _ _; refine does_move rfl ?_) | (show Does _ (.assign _) _ _ _ _; refine does_assign rfl ?_) | (show Does _ (.binOp _ _ _ _ _) _ _ _ _; (first | refine zlss rfl rfl ?_ | refine zadd rfl rfl ?_)) | (show Does _ (.indexAddr _ _ _) _ _ _ _; (first | refine ziSL1 rfl rfl ?_ | refine ziS1 rfl rfl ?_))); intro a h))
      rw [← hq2] at h
      rw [cntL_snoc _ hm0 hmn, List.append_assoc, ← List.take_succ_eq_append_getElem hltj] at hm
      exact k_thenN ⟨j + 1, ⟨by omega, hm, h.keep ⟨rfl, rfl, rfl, rfl, rfl, rfl, rfl, rfl, trivial⟩⟩, by omega⟩
    · obtain rfl : j = xs[k].a.args.length := by omega
      rw [List.take_length, ← hsucc] at hm
      repeat' (first | refine c_seq ?_ | refine c_region ?_ | refine c_nil ?_ | refine k_then ?_ | refine k_thenE ?_ | refine k_inN ?_ | refine k_inE ?_ | refine c_exit ?_ | refine c_condF h rfl ?_ | ((refine st_op rfl rfl h ?_); clear h a; (first | (show Does _ (.move _) _ _ _ _; refine does_move rfl ?_) | (show Does _ (.binOp _ _ _ _ _) _ _ _ _; (first | refine zlss rfl rfl ?_ | refine zadd rfl rfl ?_))); intro a h))
      refine k_thenN ⟨k + 1, ⟨by omega, ?_, hm.drop, h.keep ⟨rfl, rfl, rfl, rfl, rfl, trivial⟩⟩, by omega⟩
      rw [hsucc, List.length_append]
      omega
  · obtain rfl : k = xs.length := by omega
    rw [List.take_length] at hm hrl
    repeat' (first | refine c_seq ?_ | refine c_region ?_ | refine c_nil ?_ | refine k_then ?_ | refine k_thenE ?_ | refine k_inE ?_ | refine c_exit ?_ | refine c_block ?_ | refine c_condF h rfl ?_ | ((refine st_op rfl rfl h ?_); clear h a; (first | (show Does _ (.move _) _ _ _ _; refine does_move rfl ?_) | (show Does _ (.fieldAddr _ _ _) _ _ _ _; (refine does_fieldAddrL rfl ?_)) | (show Does _ (.load _ _) _ _ _ _; (refine zl hm rfl rfl ?_)) | (show Does _ (.binOp _ _ _ _ _) _ _ _ _; (refine zlss rfl rfl ?_)) | (show Does _ (.call _) _ _ _ _; refine does_lenS (SliceT.out) rfl ?_)); intro a h; (first | simp only [Value.cells, splice, nz, Nat.reduceAdd, Nat.reduceMul, Int.reduceAdd, Int.reduceToNat, Int.reduceTMod] at h | skip)))
    refine c_loop (σ := Nat) (fun k a w => k ≤ ys.length ∧ Mem W0 [] (fun b => W0.heap[b]?) [.blk b (.cells ((cntL xs.length (rT xs ++ (ys.take k).map Prod.snd)).map I).toArray 3), .blk b_1 (.cells [.slice p xs.length c, .slice q ys.length d].toArray 108)] w ∧
      Holds [(1, .pointer (some ⟨b_1, 0, none⟩)), (3, .slice (some ⟨b, 0, none⟩) xs.length xs.length), (37, .slice q ys.length d), (38, .int .i64 ys.length), (39, .int .i64 k)] _ a) (fun k => ys.length - k) 0
      ⟨Nat.zero_le _, by simpa using hm, h.keep ⟨rfl, rfl, rfl, rfl, rfl, trivial⟩⟩ ?_
    clear h hm
    rintro k a w ⟨hk, hm, h⟩
    by_cases hlt : k < ys.length
    · obtain ⟨q1, rfl, hat1⟩ := hy.at hlt
      have hmem := List.getElem_mem hlt
      obtain ⟨hid, hrt⟩ := hasg _ hmem
      obtain ⟨m, hm0⟩ : ∃ m : Nat, ys[k].2 = (m : Int) := ⟨ys[k].2.toNat, by omega⟩
      have hmn : m < xs.length := by omega
      have hcb := cnt_bd (rT xs ++ (ys.take k).map Prod.snd) m
      have hcl : (rT xs ++ (ys.take k).map Prod.snd).length ≤ 8000000 := by rw [List.length_append, List.length_map, List.length_take]; omega
      have hsn := snd_succ hlt
      rw [hm0] at hsn
      change At _ _ [.string ys[k].1, I ys[k].2] at hat1
      rw [hm0] at hat1
      repeat' (first | refine c_seq ?_ | refine c_region ?_ | refine c_nil ?_ | refine k_then ?_ | refine k_inN ?_ | refine c_skip ?_ | refine c_block ?_ | refine c_condT h rfl ?_ | (((refine st_op (d := 9) rfl rfl h ?_; refine does_alloc hm ?_; clear h a hm; intro b_9 w hm a h))) | ((first | refine st_op rfl rfl h ?_ | refine st_opn rfl h ?_); clear h a; (first | (show Does _ (.load _ _) _ _ _ _; (first | ((refine does_loadArr 1 hm rfl rfl rfl (cntL_get _ hmn) ?_)) | refine zl hm rfl rfl ?_ | refine does_loadBA hm rfl (by assumption) rfl ?_)) | (show Does _ (.store _ _ _) _ _ _ _; (first | ((refine does_storeArr (u := cnt (rT xs ++ (ys.take k).map Prod.snd) m + 1) 1 hm rfl rfl rfl rfl rfl (by rw [cntL_len]; exact hmn) rfl rfl rfl ?_; clear hm; intro w hm; simp only [List.set_cons_succ, List.set_cons_zero] at hm)) | ((refine zs hm rfl rfl rfl rfl rfl rfl ?_); clear hm; intro w hm; (simp only [Value.cells, splice, nz, ns, Nat.reduceAdd, Nat.reduceMul, Int.reduceAdd, Int.reduceToNat] at hm)))) | (show Does _ (.move _) _ _ _ _; refine does_move rfl ?_) | (show Does _ (.fieldAddr _ _ _) _ _ _ _; (refine does_fieldAddrL rfl ?_)) | (show Does _ (.binOp _ _ _ _ _) _ _ _ _; (first | refine zlss rfl rfl ?_ | refine zadd rfl rfl ?_)) | (show Does _ (.indexAddr _ _ _) _ _ _ _; (first | refine ziSL1 rfl rfl ?_ | refine ziSn rfl rfl ?_))); intro a h; (first | simp only [Value.cells, splice, nz, Nat.reduceAdd, Nat.reduceMul, Int.reduceAdd, Int.reduceToNat, Int.reduceTMod] at h | skip)))
      rw [cntL_snoc _ rfl hmn, List.append_assoc, ← hsn] at hm
      exact k_thenN ⟨k + 1, ⟨by omega, hm.drop, h.keep ⟨rfl, rfl, rfl, rfl, rfl, trivial⟩⟩, by omega⟩
    · obtain rfl : k = ys.length := by omega
      rw [List.take_length, ← flat_map_I] at hm
      have hfl : ((cntL xs.length (rT xs ++ ys.map Prod.snd)).map eI).flatten.length = xs.length * 1 := by rw [flat_len (enc := eI) (sz := 1) (fun _ => rfl), cntL_len]
      replace hm := hm.toRow 0 (n := xs.length) (cap := 0) 1 rfl hfl (by simp only [maxLen]; omega)
      repeat' (first | refine c_seq ?_ | refine c_region ?_ | refine c_nil ?_ | refine k_then ?_ | refine k_thenE ?_ | refine k_inE ?_ | refine c_ret ?_ | refine c_exit ?_ | refine c_condF h rfl ?_ | ((refine st_op rfl rfl h ?_); clear h a; (first | (show Does _ (.move _) _ _ _ _; refine does_move rfl ?_) | (show Does _ (.assign _) _ _ _ _; refine does_assign rfl ?_) | (show Does _ (.binOp _ _ _ _ _) _ _ _ _; (refine zlss rfl rfl ?_))); intro a h))
      exact k_ret1 rfl h rfl ⟨hm.below, row_new (i := 0) hm rfl⟩
set_option maxHeartbeats 16000000 in
theorem sIsValidProgram_ok (p q : Option Addr) (xs : List TNode) (ys : List TAssignment) (c d : Nat) (hxs : xs.length ≤ 1048576) (hsm : ∀ x ∈ xs, smN x) (hys : ys.length ≤ 1048576) (hbx : ∀ x ∈ xs, bdN x) (hby : bdA ys) :
    FunP Tryz.prog 85 [.agg #[.slice p xs.length c, .slice q ys.length d]] (fun H => ProgH H p q xs ys) (.bool (dB (vProg (xs.map aN) ys))) := by
  have hlen : (xs.map aN).length = xs.length := List.length_map _
  refine enterFunP Tryz.func85 rfl Tryz.ntmps85 rfl (fun W0 w a hp hm h => ?_)
  have hp0 := hp
  obtain ⟨hx, hy⟩ := hp
  repeat' (first | refine c_seq ?_ | refine c_region ?_ | refine c_nil ?_ | refine k_then ?_ | refine c_block ?_ | (((refine st_op (d := 1) rfl rfl h ?_; refine does_box hm rfl rfl ?_; clear h a hm; intro b_1 w hm a h))) | ((refine st_op rfl rfl h ?_); clear h a; (first | (show Does _ (.call _) _ _ _ _; (refine does_lenS (SliceT.out) rfl ?_)) | (show Does _ (.move _) _ _ _ _; refine does_move rfl ?_) | (show Does _ (.assign _) _ _ _ _; refine does_assign rfl ?_) | (show Does _ (.fieldAddr _ _ _) _ _ _ _; (refine does_fieldAddrL rfl ?_)) | (show Does _ (.load _ _) _ _ _ _; (refine zl hm rfl rfl ?_))); intro a h; (first | simp only [Value.cells, splice, nz, Nat.reduceAdd, Nat.reduceMul, Int.reduceAdd, Int.reduceToNat, Int.reduceTMod] at h | skip)))
  refine c_loop (σ := Nat) (fun k a w => k ≤ xs.length ∧ (∀ (i : Nat) (x : TNode), i < k → xs[i]? = some x → argsOk x.a.args i ∧ vNode x.a) ∧ Mem W0 [] (fun b => W0.heap[b]?) [.blk b_1 (.cells [.slice p xs.length c, .slice q ys.length d].toArray 108)] w ∧
    Holds [(1, .pointer (some ⟨b_1, 0, none⟩)), (10, .slice p xs.length c), (11, .int .i64 xs.length), (12, .int .i64 k)] _ a) (fun k => xs.length - k) 0
    ⟨Nat.zero_le _, fun i x hi => absurd hi (Nat.not_lt_zero _), hm, h.keep ⟨rfl, rfl, rfl, rfl, trivial⟩⟩ ?_
  clear h hm
  rintro k a w ⟨hk, hpre, hm, h⟩
  by_cases hlt : k < xs.length
  · obtain ⟨q1, rfl, hat1⟩ := hx.row.at hlt
    have hmem := List.getElem_mem hlt
    have hargs := hx.args _ hmem
    have hsz : xs[k].a.args.length ≤ 1048576 := hsm _ hmem
    have g1 : xs[k]? = some xs[k] := List.getElem?_eq_getElem hlt
    have g2 : (xs.map aN)[k]? = some xs[k].a := by rw [List.getElem?_map, g1]; rfl
    have hbd := bdN.get hbx hlt
    by_cases hav : argsOk xs[k].a.args k ∧ vNode xs[k].a
    · repeat' (first | refine c_seq ?_ | refine c_region ?_ | refine c_nil ?_ | refine k_then ?_ | refine k_inN ?_ | refine c_skip ?_ | refine c_block ?_ | refine c_condT h rfl ?_ | refine c_condF h rfl ?_ | (((refine st_op (d := 4) rfl rfl h ?_; refine does_alloc hm ?_; clear h a hm; intro b_4 w hm a h))) | ((first | refine st_op rfl rfl h ?_ | refine st_opn rfl h ?_); clear h a; (first | (show Does _ (.call _) _ _ _ _; (((refine does_funP hm en100 rfl ((l13Node_ok xs[k] k (by omega) hbd.1 hsz).yes hav) (hargs.up hm) ?_; clear hm; intro w hm)))) | (show Does _ (.store _ _ _) _ _ _ _; ((refine zs hm rfl rfl rfl rfl rfl rfl ?_); clear hm; intro w hm; (simp only [Value.cells, splice, nz, ns, Nat.reduceAdd, Nat.reduceMul, Int.reduceAdd, Int.reduceToNat] at hm))) | (show Does _ (.move _) _ _ _ _; refine does_move rfl ?_) | (show Does _ (.assign _) _ _ _ _; refine does_assign rfl ?_) | (show Does _ (.load _ _) _ _ _ _; (first | refine za hm rfl rfl ?_ | refine does_loadBA hm rfl (by assumption) rfl ?_)) | (show Does _ (.binOp _ _ _ _ _) _ _ _ _; (first | refine zlss rfl rfl ?_ | refine zadd rfl rfl ?_)) | (show Does _ (.unOp _ _ _) _ _ _ _; (refine does_not rfl ?_)) | (show Does _ (.indexAddr _ _ _) _ _ _ _; (refine ziSn rfl rfl ?_))); intro a h; (first | simp only [Value.cells, splice, nz, Nat.reduceAdd, Nat.reduceMul, Int.reduceAdd, Int.reduceToNat, Int.reduceTMod] at h | skip)))
      refine k_thenN ⟨k + 1, ⟨by omega, fun i x hi hix => ?_, hm.drop, h.keep ⟨rfl, rfl, rfl, rfl, trivial⟩⟩, by omega⟩
      by_cases hik : i < k
      · exact hpre i x hik hix
      · obtain rfl : i = k := by omega
        rw [g1] at hix
        cases hix
        exact hav
    · repeat' (first | refine c_seq ?_ | refine c_region ?_ | refine c_nil ?_ | refine k_then ?_ | refine k_thenR ?_ | refine k_inR ?_ | refine c_skip ?_ | refine c_ret ?_ | refine c_block ?_ | refine c_condT h rfl ?_ | (((refine st_op (d := 4) rfl rfl h ?_; refine does_alloc hm ?_; clear h a hm; intro b_4 w hm a h))) | ((first | refine st_op rfl rfl h ?_ | refine st_opn rfl h ?_); clear h a; (first | (show Does _ (.call _) _ _ _ _; (((refine does_funP hm en100 rfl ((l13Node_ok xs[k] k (by omega) hbd.1 hsz).no hav) (hargs.up hm) ?_; clear hm; intro w hm)))) | (show Does _ (.store _ _ _) _ _ _ _; ((refine zs hm rfl rfl rfl rfl rfl rfl ?_); clear hm; intro w hm; (simp only [Value.cells, splice, nz, ns, Nat.reduceAdd, Nat.reduceMul, Int.reduceAdd, Int.reduceToNat] at hm))) | (show Does _ (.move _) _ _ _ _; refine does_move rfl ?_) | (show Does _ (.assign _) _ _ _ _; refine does_assign rfl ?_) | (show Does _ (.load _ _) _ _ _ _; (first | refine za hm rfl rfl ?_ | refine does_loadBA hm rfl (by assumption) rfl ?_)) | (show Does _ (.binOp _ _ _ _ _) _ _ _ _; (refine zlss rfl rfl ?_)) | (show Does _ (.unOp _ _ _) _ _ _ _; (refine does_not rfl ?_)) | (show Does _ (.indexAddr _ _ _) _ _ _ _; (refine ziSn rfl rfl ?_))); intro a h; (first | simp only [Value.cells, splice, nz, Nat.reduceAdd, Nat.reduceMul, Int.reduceAdd, Int.reduceToNat, Int.reduceTMod] at h | skip)))
      all_goals (refine k_ret1 rfl h rfl ⟨?_, hm.below⟩)
      all_goals exact boolF (fun e => hav (e.nodes k _ g2))
  · obtain rfl : k = xs.length := by omega
    have hnodesT : ∀ (i : Nat) (x : TNode), xs[i]? = some x → argsOk x.a.args i ∧ vNode x.a := fun i x hi => hpre i x (List.getElem?_eq_some_iff.1 hi).1 hi
    have hnodes : ∀ (i : Nat) (x : PNode), (xs.map aN)[i]? = some x → argsOk x.args i ∧ vNode x := fun i x hi => by
      rw [List.getElem?_map] at hi
      cases hxi : xs[i]? with
      | none => rw [hxi] at hi; cases hi
      | some z =>
        rw [hxi] at hi
        cases hi
        exact hnodesT i z hxi
    clear hpre
    repeat' (first | refine c_seq ?_ | refine c_region ?_ | refine c_nil ?_ | refine k_then ?_ | refine k_thenE ?_ | refine k_inE ?_ | refine c_exit ?_ | refine c_block ?_ | refine c_condF h rfl ?_ | ((refine st_op rfl rfl h ?_); clear h a; (first | (show Does _ (.call _) _ _ _ _; (refine does_lenS (SliceT.out) rfl ?_)) | (show Does _ (.move _) _ _ _ _; refine does_move rfl ?_) | (show Does _ (.fieldAddr _ _ _) _ _ _ _; (refine does_fieldAddrL rfl ?_)) | (show Does _ (.load _ _) _ _ _ _; (refine zl hm rfl rfl ?_)) | (show Does _ (.binOp _ _ _ _ _) _ _ _ _; (refine zlss rfl rfl ?_))); intro a h; (first | simp only [Value.cells, splice, nz, Nat.reduceAdd, Nat.reduceMul, Int.reduceAdd, Int.reduceToNat, Int.reduceTMod] at h | skip)))
    refine c_loop (σ := Nat) (fun k a w => k ≤ ys.length ∧ (∀ (i : Nat) (y : TAssignment), i < k → ys[i]? = some y → ident y.1 ∧ 0 ≤ y.2 ∧ y.2 ≤ (xs.length : Int) - 1) ∧ Mem W0 [] (fun b => W0.heap[b]?) [.blk b_1 (.cells [.slice p xs.length c, .slice q ys.length d].toArray 108)] w ∧
      Holds [(1, .pointer (some ⟨b_1, 0, none⟩)), (23, .slice q ys.length d), (24, .int .i64 ys.length), (25, .int .i64 k)] _ a) (fun k => ys.length - k) 0
      ⟨Nat.zero_le _, fun i x hi => absurd hi (Nat.not_lt_zero _), hm, h.keep ⟨rfl, rfl, rfl, rfl, trivial⟩⟩ ?_
    clear h hm
    rintro k a w ⟨hk, hpre, hm, h⟩
    by_cases hlt : k < ys.length
    · obtain ⟨q1, rfl, hat1⟩ := hy.at hlt
      have g1 : ys[k]? = some ys[k] := List.getElem?_eq_getElem hlt
      have hmem := List.getElem_mem hlt
      have hbd := hby.get hlt
      by_cases hid : ident ys[k].1
      · by_cases hrt : 0 ≤ ys[k].2 ∧ ys[k].2 ≤ (xs.length : Int) - 1
        · repeat' (first | refine c_seq ?_ | refine c_region ?_ | refine c_nil ?_ | refine k_then ?_ | refine k_inN ?_ | refine c_skip ?_ | refine c_block ?_ | refine c_condT h rfl ?_ | refine c_condF h rfl ?_ | (((refine st_op (d := 6) rfl rfl h ?_; refine does_alloc hm ?_; clear h a hm; intro b_6 w hm a h))) | ((first | refine st_op rfl rfl h ?_ | refine st_opn rfl h ?_); clear h a; (first | (show Does _ (.call _) _ _ _ _; (first | ((refine does_funM hm en101 rfl ((sIsIdentifier_ok _ hbd).yes hid) ?_; clear hm; intro w hm)) | ((refine does_funM hm en53 rfl ((sIn_ok _ _ _).yes hrt) ?_; clear hm; intro w hm)) | refine does_lenS (SliceT.out) rfl ?_)) | (show Does _ (.store _ _ _) _ _ _ _; ((refine zs hm rfl rfl rfl rfl rfl rfl ?_); clear hm; intro w hm; (simp only [Value.cells, splice, nz, ns, Nat.reduceAdd, Nat.reduceMul, Int.reduceAdd, Int.reduceToNat] at hm))) | (show Does _ (.move _) _ _ _ _; refine does_move rfl ?_) | (show Does _ (.pick _ _ _) _ _ _ _; (refine does_pickF rfl rfl ?_)) | (show Does _ (.fieldAddr _ _ _) _ _ _ _; (refine does_fieldAddrL rfl ?_)) | (show Does _ (.load _ _) _ _ _ _; (first | refine zl hm rfl rfl ?_ | refine does_loadBA hm rfl (by assumption) rfl ?_)) | (show Does _ (.binOp _ _ _ _ _) _ _ _ _; (first | refine zlss rfl rfl ?_ | refine zadd rfl rfl ?_ | refine zsub rfl rfl ?_)) | (show Does _ (.unOp _ _ _) _ _ _ _; (refine does_not rfl ?_)) | (show Does _ (.indexAddr _ _ _) _ _ _ _; (refine ziSn rfl rfl ?_))); intro a h; (first | simp only [Value.cells, splice, nz, Nat.reduceAdd, Nat.reduceMul, Int.reduceAdd, Int.reduceToNat, Int.reduceTMod] at h | skip)))
          refine k_thenN ⟨k + 1, ⟨by omega, fun i y hi hiy => ?_, hm.drop, h.keep ⟨rfl, rfl, rfl, rfl, trivial⟩⟩, by omega⟩
          by_cases hik : i < k
          · exact hpre i y hik hiy
          · obtain rfl : i = k := by omega
            rw [g1] at hiy
            cases hiy
            exact ⟨hid, hrt⟩
        · repeat' (first | refine c_seq ?_ | refine c_region ?_ | refine c_nil ?_ | refine k_then ?_ | refine k_thenR ?_ | refine k_inR ?_ | refine c_skip ?_ | refine c_ret ?_ | refine c_block ?_ | refine c_condT h rfl ?_ | (((refine st_op (d := 6) rfl rfl h ?_; refine does_alloc hm ?_; clear h a hm; intro b_6 w hm a h))) | ((first | refine st_op rfl rfl h ?_ | refine st_opn rfl h ?_); clear h a; (first | (show Does _ (.call _) _ _ _ _; (first | ((refine does_funM hm en101 rfl ((sIsIdentifier_ok _ hbd).yes hid) ?_; clear hm; intro w hm)) | ((refine does_funM hm en53 rfl ((sIn_ok _ _ _).no hrt) ?_; clear hm; intro w hm)) | refine does_lenS (SliceT.out) rfl ?_)) | (show Does _ (.store _ _ _) _ _ _ _; ((refine zs hm rfl rfl rfl rfl rfl rfl ?_); clear hm; intro w hm; (simp only [Value.cells, splice, nz, ns, Nat.reduceAdd, Nat.reduceMul, Int.reduceAdd, Int.reduceToNat] at hm))) | (show Does _ (.move _) _ _ _ _; refine does_move rfl ?_) | (show Does _ (.assign _) _ _ _ _; refine does_assign rfl ?_) | (show Does _ (.pick _ _ _) _ _ _ _; (refine does_pickF rfl rfl ?_)) | (show Does _ (.fieldAddr _ _ _) _ _ _ _; (refine does_fieldAddrL rfl ?_)) | (show Does _ (.load _ _) _ _ _ _; (first | refine zl hm rfl rfl ?_ | refine does_loadBA hm rfl (by assumption) rfl ?_)) | (show Does _ (.binOp _ _ _ _ _) _ _ _ _; (first | refine zlss rfl rfl ?_ | refine zsub rfl rfl ?_)) | (show Does _ (.unOp _ _ _) _ _ _ _; (refine does_not rfl ?_)) | (show Does _ (.indexAddr _ _ _) _ _ _ _; (refine ziSn rfl rfl ?_))); intro a h; (first | simp only [Value.cells, splice, nz, Nat.reduceAdd, Nat.reduceMul, Int.reduceAdd, Int.reduceToNat, Int.reduceTMod] at h | skip)))
          all_goals (refine k_ret1 rfl h rfl ⟨?_, hm.below⟩)
          all_goals exact boolF (fun e => hrt (by have := (e.asg _ hmem).2; rwa [hlen] at this))
      · repeat' (first | refine c_seq ?_ | refine c_region ?_ | refine c_nil ?_ | refine k_then ?_ | refine k_thenR ?_ | refine k_inR ?_ | refine c_skip ?_ | refine c_ret ?_ | refine c_block ?_ | refine c_condT h rfl ?_ | (((refine st_op (d := 6) rfl rfl h ?_; refine does_alloc hm ?_; clear h a hm; intro b_6 w hm a h))) | ((first | refine st_op rfl rfl h ?_ | refine st_opn rfl h ?_); clear h a; (first | (show Does _ (.call _) _ _ _ _; (((refine does_funM hm en101 rfl ((sIsIdentifier_ok _ hbd).no hid) ?_; clear hm; intro w hm)))) | (show Does _ (.store _ _ _) _ _ _ _; ((refine zs hm rfl rfl rfl rfl rfl rfl ?_); clear hm; intro w hm; (simp only [Value.cells, splice, nz, ns, Nat.reduceAdd, Nat.reduceMul, Int.reduceAdd, Int.reduceToNat] at hm))) | (show Does _ (.move _) _ _ _ _; refine does_move rfl ?_) | (show Does _ (.assign _) _ _ _ _; refine does_assign rfl ?_) | (show Does _ (.pick _ _ _) _ _ _ _; (refine does_pickT rfl rfl ?_)) | (show Does _ (.fieldAddr _ _ _) _ _ _ _; (refine does_fieldAddrL rfl ?_)) | (show Does _ (.load _ _) _ _ _ _; (first | refine zl hm rfl rfl ?_ | refine does_loadBA hm rfl (by assumption) rfl ?_)) | (show Does _ (.binOp _ _ _ _ _) _ _ _ _; (refine zlss rfl rfl ?_)) | (show Does _ (.unOp _ _ _) _ _ _ _; (refine does_not rfl ?_)) | (show Does _ (.indexAddr _ _ _) _ _ _ _; (refine ziSn rfl rfl ?_))); intro a h; (first | simp only [Value.cells, splice, nz, Nat.reduceAdd, Nat.reduceMul, Int.reduceAdd, Int.reduceToNat, Int.reduceTMod] at h | skip)) | ((refine st_skip rfl rfl h ?_); clear h a; intro a h))
        all_goals (refine k_ret1 rfl h rfl ⟨?_, hm.below⟩)
        all_goals exact boolF (fun e => hid (e.asg _ hmem).1)
    · obtain rfl : k = ys.length := by omega
      have hasgT : ∀ y ∈ ys, ident y.1 ∧ 0 ≤ y.2 ∧ y.2 ≤ (xs.length : Int) - 1 := fun y hyy => by
        obtain ⟨i, hi⟩ := List.mem_iff_getElem?.1 hyy
        exact hpre i y (List.getElem?_eq_some_iff.1 hi).1 hi
      have hasg : ∀ y ∈ ys, ident y.1 ∧ 0 ≤ y.2 ∧ y.2 ≤ ((xs.map aN).length : Int) - 1 := fun y hyy => by rw [hlen]; exact hasgT y hyy
      clear hpre
      repeat' (first | refine c_seq ?_ | refine c_region ?_ | refine c_nil ?_ | refine k_then ?_ | refine k_thenE ?_ | refine k_inE ?_ | refine c_exit ?_ | refine c_condF h rfl ?_ | ((refine st_op rfl rfl h ?_); clear h a; (first | (show Does _ (.load _ _) _ _ _ _; (refine za hm rfl rfl ?_)) | (show Does _ (.binOp _ _ _ _ _) _ _ _ _; (refine zlss rfl rfl ?_))); intro a h; (first | simp only [Value.cells, splice, nz, Nat.reduceAdd, Nat.reduceMul, Int.reduceAdd, Int.reduceToNat, Int.reduceTMod] at h | skip)))
      refine st_op rfl rfl h ?_; clear h a; refine does_funN hm en102 rfl (l13Uses_ok _ _ _ _ _ _ hxs hsm hys hnodesT hasgT) (by repeat' (exact ProgH.up (by assumption) hm)) ?_; clear hm; intro v w hm a h; obtain ⟨B5, p5, c5, hB, hmx, rfl, hcc5, hcm5, hs5⟩ := hm.frozen (fun _ => rfl) (by omega); clear hm; have hm := hmx; clear hmx; replace hp0 := hp0.mono hB
      rw [cntL_len] at h
      repeat' (first | refine c_nil ?_ | refine k_then ?_ | refine c_block ?_ | ((refine st_op rfl rfl h ?_); clear h a; (first | (show Does _ (.call _) _ _ _ _; (refine does_lenS (SliceT.out) rfl ?_)) | (show Does _ (.move _) _ _ _ _; refine does_move rfl ?_)); intro a h))
      refine c_loop (σ := Nat) (fun k a w => k ≤ xs.length ∧ (∀ m, m < k → cnt (rT xs ++ ys.map Prod.snd) m = 1) ∧ Mem W0 [] B5 [.blk b_1 (.cells [.slice p xs.length c, .slice q ys.length d].toArray 108)] w ∧
        Holds [(1, .pointer (some ⟨b_1, 0, none⟩)), (45, .slice p5 xs.length c5), (46, .int .i64 xs.length), (47, .int .i64 k)] _ a) (fun k => xs.length - k) 0
        ⟨Nat.zero_le _, fun i hi => absurd hi (Nat.not_lt_zero _), hm, h.keep ⟨rfl, rfl, rfl, rfl, trivial⟩⟩ ?_
      clear h hm
      rintro k a w ⟨hk, hpre, hm, h⟩
      by_cases hlt : k < xs.length
      · obtain ⟨q1, rfl, hat1⟩ := hs5.at1 (k := k) (by rw [cntL_len]; exact hlt)
        have hgg : (cntL xs.length (rT xs ++ ys.map Prod.snd))[k]'(by rw [cntL_len]; exact hlt) = cnt (rT xs ++ ys.map Prod.snd) k := by
          have := cntL_get (rT xs ++ ys.map Prod.snd) hlt
          rw [List.getElem?_eq_getElem (by rw [cntL_len]; exact hlt)] at this
          exact Option.some.inj this
        rw [hgg] at hat1
        have hnn : ¬ cnt (rT xs ++ ys.map Prod.snd) k = 1 → ¬ vProg (xs.map aN) ys := fun hne e => hne (by have := e.once k (by rw [hlen]; exact hlt); exact this)
        repeat' (first | refine c_seq ?_ | refine c_region ?_ | refine c_nil ?_ | refine k_then ?_ | refine k_thenR ?_ | refine k_inN ?_ | refine k_inR ?_ | refine c_skip ?_ | refine c_ret ?_ | refine c_block ?_ | refine c_condT h rfl ?_ | ((refine st_op rfl rfl h ?_); clear h a; (first | (show Does _ (.move _) _ _ _ _; refine does_move rfl ?_) | (show Does _ (.assign _) _ _ _ _; refine does_assign rfl ?_) | (show Does _ (.load _ _) _ _ _ _; (refine does_loadB hm rfl (by assumption) rfl ?_)) | (show Does _ (.binOp _ _ _ _ _) _ _ _ _; (first | refine zlss rfl rfl ?_ | refine zneq rfl rfl ?_ | refine zadd rfl rfl ?_)) | (show Does _ (.indexAddr _ _ _) _ _ _ _; (refine ziS1 rfl rfl ?_))); intro a h) | ((refine c_condD h rfl ?_ ?_) <;> intro hc <;> (skip)))
        · (refine k_ret1 rfl h rfl ⟨?_, hm.below⟩)
          exact boolF (hnn hc)
        · refine k_thenN ⟨k + 1, ⟨by omega, fun m hm0 => ?_, hm, h.keep ⟨rfl, rfl, rfl, rfl, trivial⟩⟩, by omega⟩
          by_cases hmk : m < k
          · exact hpre m hmk
          · obtain rfl : m = k := by omega
            exact Classical.not_not.1 hc
      · obtain rfl : k = xs.length := by omega
        repeat' (first | refine c_seq ?_ | refine c_region ?_ | refine c_nil ?_ | refine k_then ?_ | refine k_thenE ?_ | refine k_inE ?_ | refine c_ret ?_ | refine c_exit ?_ | refine c_condF h rfl ?_ | ((refine st_op rfl rfl h ?_); clear h a; (first | (show Does _ (.call _) _ _ _ _; (refine does_lenS (SliceT.out) rfl ?_)) | (show Does _ (.assign _) _ _ _ _; refine does_assign rfl ?_) | (show Does _ (.fieldAddr _ _ _) _ _ _ _; (refine does_fieldAddrL rfl ?_)) | (show Does _ (.load _ _) _ _ _ _; (refine zl hm rfl rfl ?_)) | (show Does _ (.binOp _ _ _ _ _) _ _ _ _; (first | refine zlss rfl rfl ?_ | refine zleq rfl rfl ?_))); intro a h; (first | simp only [Value.cells, splice, nz, Nat.reduceAdd, Nat.reduceMul, Int.reduceAdd, Int.reduceToNat, Int.reduceTMod] at h | skip)))
        (refine k_ret1 rfl h rfl ⟨?_, hm.below⟩)
        refine boolI ⟨fun e => ⟨by rw [hlen]; omega, hnodes, hasg, by rw [hlen]; exact hpre⟩, fun e => by have := e.small; omega⟩
end Go.Proofs.YtcbnegmmjflmcaaGreat.St
