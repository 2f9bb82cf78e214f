/-
  The text of a node of a program: the program's.
-/
import Derived.Test.YtgmonjghbjaadaaGreatDoorJ12
import Derived.Test.YtgmonjghbjaadaaGreatDoorJ10
import Derived.Test.YtgmonjghbjaadaaGreatDoorLTxs
import Derived.Test.YtgmonjghbjaadaaGreatDoorLFnp
import Derived.Test.YtgmonjghbjaadaaGreatDoorStSst
set_option linter.unusedSimpArgs false
set_option linter.unusedVariables false
namespace Go.Proofs.YtgmonjghbjaadaaGreatDoor.St
open Go.RowKit
set_option maxHeartbeats 2000000 in
theorem joinNone_ok (p : Option Addr) (c : Nat) (s : ByteArray) : Fun Tryz.prog 101 [.slice p 0 c, .string s] (.string ⟨#[]⟩) := by
  refine enterFun Tryz.func101 rfl Tryz.ntmps101 rfl (fun W0 w a hm h => ?_)
  repeat' (first | refine c_seq ?_ | refine c_region ?_ | refine c_nil ?_ | refine k_then ?_ | refine k_thenR ?_ | refine k_inR ?_ | refine c_ret ?_ | refine c_block ?_ | refine c_condT h rfl ?_ | ((refine st_op rfl rfl h ?_); clear h a; (first | (show Does _ (.move _) _ _ _ _; refine does_move rfl ?_) | (show Does _ (.assign _) _ _ _ _; refine does_assign rfl ?_) | (show Does _ (.binOp _ _ _ _ _) _ _ _ _; (refine does_eqlT rfl rfl (by omega) ?_)) | (show Does _ (.call _) _ _ _ _; (refine does_lenS (SliceT.out) rfl ?_))); intro a h; (try simp only [Value.cells, List.toList_toArray, splice, List.set_cons_zero, List.set_cons_succ, List.drop_zero, List.drop_succ_cons, List.take_succ_cons, List.take_zero, Nat.zero_add, Nat.reduceAdd, Nat.reduceMul, Int.reduceAdd, Int.reduceToNat, Int.reduceTMod, Nat.zero_mul, Nat.one_mul, Int.toNat_natCast] at h)))
  all_goals (refine k_ret1 rfl h rfl ⟨?_, hm.below⟩)
  all_goals (rfl)
theorem iJoinG_ok (xs : List ByteArray) (sep : ByteArray) (p : Option Addr) (c : Nat) (hN : xs.length ≤ 1048576) (hc : xs.length ≤ c) (hl : (Lib.join (xs.map tB) (tB sep)).length ≤ 140737488355328) : FunP Tryz.prog 30 [.slice p xs.length c, .string sep] (fun H => Sl H p eT 1 xs) (.string (bs (Lib.join (xs.map tB) (tB sep)))) := by
  by_cases h0 : 0 < xs.length
  · exact iJoin_ok xs sep p c h0 hN hc hl
  · obtain rfl := List.eq_nil_of_length_eq_zero (show xs.length = 0 by omega)
    have hA : Fun Tryz.prog 64 [.string sep, .slice p 0 c] (.string ⟨#[]⟩) := by
      refine enterFun Tryz.func64 rfl Tryz.ntmps64 rfl (fun W0 w a hm h => ?_)
      repeat' (first | refine c_seq ?_ | refine c_region ?_ | refine c_nil ?_ | refine k_then ?_ | refine c_ret ?_ | ((refine st_op rfl rfl h ?_); clear h a; (first | (show Does _ (.call _) _ _ _ _; ((refine does_funM hm en101 rfl (joinNone_ok p c sep) ?_; clear hm; intro w hm))) | (show Does _ (.move _) _ _ _ _; refine does_move rfl ?_) | (show Does _ (.assign _) _ _ _ _; refine does_assign rfl ?_)); intro a h; (try simp only [Value.cells, List.toList_toArray, splice, List.set_cons_zero, List.set_cons_succ, List.drop_zero, List.drop_succ_cons, List.take_succ_cons, List.take_zero, Nat.zero_add, Nat.reduceAdd, Nat.reduceMul, Int.reduceAdd, Int.reduceToNat, Int.reduceTMod, Nat.zero_mul, Nat.one_mul, Int.toNat_natCast] at h)))
      (refine k_ret1 rfl h rfl ⟨?_, hm.below⟩)
      rfl
    refine enterFunP Tryz.func30 rfl Tryz.ntmps30 rfl (fun W0 w a hp hm h => ?_)
    repeat' (first | refine c_seq ?_ | refine c_region ?_ | refine c_nil ?_ | refine k_then ?_ | refine c_ret ?_ | ((refine st_op rfl rfl h ?_); clear h a; (first | (show Does _ (.call _) _ _ _ _; ((refine does_funM hm en64 rfl hA ?_; clear hm; intro w hm))) | (show Does _ (.move _) _ _ _ _; refine does_move rfl ?_) | (show Does _ (.assign _) _ _ _ _; refine does_assign rfl ?_)); intro a h; (try simp only [Value.cells, List.toList_toArray, splice, List.set_cons_zero, List.set_cons_succ, List.drop_zero, List.drop_succ_cons, List.take_succ_cons, List.take_zero, Nat.zero_add, Nat.reduceAdd, Nat.reduceMul, Int.reduceAdd, Int.reduceToNat, Int.reduceTMod, Nat.zero_mul, Nat.one_mul, Int.toNat_natCast] at h)))
    (refine k_ret1 rfl h rfl ⟨?_, hm.below⟩)
    rfl
theorem symbolOf_ok (op : Int) (h : 4 ≤ op ∧ op ≤ 7) : Fun Tryz.prog 100 [I op] (.string (bs (symT op))) := by
  obtain ⟨m, rfl⟩ : ∃ m : Nat, op = ((4 + m : Nat) : Int) := ⟨(op - 4).toNat, by omega⟩
  have hm4 : m ≤ 3 := by omega
  have hz : (⟨#[43, 45, 42, 47]⟩ : ByteArray).size = 4 := rfl
  have he : (⟨#[43, 45, 42, 47]⟩ : ByteArray).extract m (m + 1) = bs (symT ((4 + m : Nat) : Int)) := by
    obtain rfl | rfl | rfl | rfl : m = 0 ∨ m = 1 ∨ m = 2 ∨ m = 3 := by omega
    all_goals rfl
  refine enterFun Tryz.func100 rfl Tryz.ntmps100 rfl (fun W0 w a hm h => ?_)
  repeat' (first | refine c_seq ?_ | refine c_region ?_ | refine c_nil ?_ | refine k_then ?_ | refine c_ret ?_ | ((refine st_op rfl rfl h ?_); clear h a; (first | ((refine does_strLoHiN m (m + 1) Tryz.underlying9 rfl rfl rfl (by omega) (by omega) ⟨by omega, by omega⟩ ?_)) | (show Does _ (.move _) _ _ _ _; refine does_move rfl ?_) | (show Does _ (.assign _) _ _ _ _; refine does_assign rfl ?_) | (show Does _ (.binOp _ _ _ _ _) _ _ _ _; (first | refine does_add rfl rfl (by omega) ?_ | refine does_sub rfl rfl (by omega) ?_))); intro a h; (try simp only [Value.cells, List.toList_toArray, splice, List.set_cons_zero, List.set_cons_succ, List.drop_zero, List.drop_succ_cons, List.take_succ_cons, List.take_zero, Nat.zero_add, Nat.reduceAdd, Nat.reduceMul, Int.reduceAdd, Int.reduceToNat, Int.reduceTMod, Nat.zero_mul, Nat.one_mul, Int.toNat_natCast] at h)))
  (refine k_ret1 rfl h rfl ⟨?_, hm.below⟩)
  rw [he]
set_option maxHeartbeats 16000000 in
theorem iText_ok (xs : List TNode) (ys : List TAssignment) (p q : Option Addr) (c d : Nat) (hv : vProg (xs.map aN) ys) : ∀ k, k < xs.length → FunP Tryz.prog 62 [.agg #[.slice p xs.length c, .slice q ys.length d], .int .i64 k] (fun H => NodesH H p xs ∧ TabH H) (.string (bs (txT (xs.map aN) k))) := by
  intro k
  induction k using Nat.strongRecOn with
  | _ k ih =>
  intro hk
  have hkx : (xs.map aN)[k]? = some xs[k].a := by rw [List.getElem?_map, List.getElem?_eq_getElem hk]; rfl
  have hkn : k < (xs.map aN).length := by rw [List.length_map]; exact hk
  have hsm := hv.small
  rw [List.length_map] at hsm
  obtain ⟨haok, hvn⟩ := hv.nodes k _ hkx
  have ham := argsOk_mem haok
  have har := ar3 hvn
  have hT0 := txT_eq hkx ham
  have hW : ∀ u ∈ Wd (xs.map aN) xs[k].a.args, u.size ≤ 2400 := fun u hu => by
    obtain ⟨a, ha, rfl⟩ := List.mem_map.1 hu
    have h1 := ham a ha
    have h2 := tx_len hv (k := a.toNat) (by omega)
    have h3 : (bs (txT (xs.map aN) a.toNat)).size = _ := bs_size (txT (xs.map aN) a.toNat)
    omega
  have hWl : (Wd (xs.map aN) xs[k].a.args).length = xs[k].a.args.length := List.length_map ..
  rw [hT0]
  refine enterFunP Tryz.func62 rfl Tryz.ntmps62 rfl (fun W0 w a hp hm h => ?_)
  obtain ⟨hp, hT⟩ := hp
  have hargs := hp.args xs[k] (List.getElem_mem hk)
  obtain ⟨q1, rfl, hat1⟩ := hp.row.at hk
  repeat' (first | refine c_seq ?_ | refine c_region ?_ | refine c_nil ?_ | refine k_then ?_ | refine c_block ?_ | (refine st_op (d := 2) rfl rfl h ?_; refine does_box hm rfl rfl ?_; clear h a hm; intro b_2 w hm a h; (try simp only [Value.cells, List.toList_toArray, splice, List.set_cons_zero, List.set_cons_succ, List.drop_zero, List.drop_succ_cons, List.take_succ_cons, List.take_zero, Nat.zero_add, Nat.reduceAdd, Nat.reduceMul, Int.reduceAdd, Int.reduceToNat, Int.reduceTMod, Nat.zero_mul, Nat.one_mul, Int.toNat_natCast] at h)) | (refine st_op (d := 5) rfl rfl h ?_; refine does_alloc hm ?_; clear h a hm; intro b_5 w hm a h; (try simp only [Value.cells, List.toList_toArray, splice, List.set_cons_zero, List.set_cons_succ, List.drop_zero, List.drop_succ_cons, List.take_succ_cons, List.take_zero, Nat.zero_add, Nat.reduceAdd, Nat.reduceMul, Int.reduceAdd, Int.reduceToNat, Int.reduceTMod, Nat.zero_mul, Nat.one_mul, Int.toNat_natCast] at h)) | ((first | refine st_op rfl rfl h ?_ | refine st_opn rfl h ?_); clear h a; (first | (show Does _ (.buildSlice _ _ _) _ _ _ _; (((refine does_buildSlice hm rfl rfl rfl ?_; clear hm; intro bz w hm; replace hm := hm.toRow 0 (n := 0) (cap := 0) 1 rfl rfl (Nat.zero_le _); simp only [List.set_cons_zero, rep, List.replicate_zero, List.flatten_nil] at hm)))) | (show Does _ (.store _ _ _) _ _ _ _; ((refine does_storeO 0 hm rfl rfl rfl rfl rfl rfl rfl ?_; clear hm; intro w hm; (try simp only [Value.cells, List.toList_toArray, List.set_cons_zero, List.set_cons_succ, splice, Nat.zero_add, Nat.reduceAdd, Nat.reduceMul, Int.reduceAdd, Int.reduceToNat, Nat.zero_mul, Nat.one_mul, Int.toNat_natCast] at hm)))) | (show Does _ (.move _) _ _ _ _; refine does_move rfl ?_) | (show Does _ (.assign _) _ _ _ _; refine does_assign rfl ?_) | (show Does _ (.fieldAddr _ _ _) _ _ _ _; (refine does_fieldAddrL rfl ?_)) | (show Does _ (.load _ _) _ _ _ _; (first | refine does_loadO 0 hm rfl rfl rfl ?_ | refine does_loadO 1 hm rfl rfl rfl ?_ | refine does_loadBA hm rfl (by assumption) rfl ?_)) | (show Does _ (.call _) _ _ _ _; refine does_lenS (SliceT.out) rfl ?_) | (show Does _ (.indexAddr _ _ _) _ _ _ _; (refine does_indexSn (by omega) rfl rfl ?_))); intro a h; (try simp only [Value.cells, List.toList_toArray, splice, List.set_cons_zero, List.set_cons_succ, List.drop_zero, List.drop_succ_cons, List.take_succ_cons, List.take_zero, Nat.zero_add, Nat.reduceAdd, Nat.reduceMul, Int.reduceAdd, Int.reduceToNat, Int.reduceTMod, Nat.zero_mul, Nat.one_mul, Int.toNat_natCast] at h)))
  refine c_loop (σ := Nat × Value) (fun s a w => s.1 ≤ xs[k].a.args.length ∧ Mem W0 [] (fun b => W0.heap[b]?) [.row s.2 9 1 ((Wd (xs.map aN) (xs[k].a.args.take s.1)).map eT).flatten, .blk b_5 (.cells (eN xs[k]).toArray 121), .blk b_2 (.cells [.slice (some q1) xs.length c, .slice q ys.length d].toArray 53)] w ∧
    Holds [(2, .pointer (some ⟨b_2, 0, none⟩)), (5, .pointer (some ⟨b_5, 0, none⟩)), (6, s.2), (16, .slice xs[k].ptr xs[k].a.args.length xs[k].cap), (17, .int .i64 xs[k].a.args.length), (18, .int .i64 s.1)] _ a) (fun s => xs[k].a.args.length - s.1) (0, .slice (some ⟨bz, 0, none⟩) 0 0)
    ⟨Nat.zero_le _, hm, h.keep ⟨rfl, rfl, rfl, rfl, rfl, rfl, trivial⟩⟩ ?_
  clear h hm
  rintro ⟨j, v⟩ a w ⟨hj, hm, h⟩
  simp only at hj hm h
  have hfl := flat_len (enc := eT) (sz := 1) (fun _ => rfl) (Wd (xs.map aN) (xs[k].a.args.take j))
  have hWj : (Wd (xs.map aN) (xs[k].a.args.take j)).length = j := by rw [Wd, List.length_map, List.length_take]; omega
  rw [hWj] at hfl
  obtain ⟨pv, cv, rfl, hcv1, hcv2⟩ := row_slice (i := 0) hm rfl (fun _ => rfl) (by omega)
  rw [hWj] at hm h hcv1
  by_cases hlt : j < xs[k].a.args.length
  · obtain ⟨q2, hq2, hat2⟩ := hargs.at1 hlt
    rw [hq2] at h
    have hmem := ham _ (List.getElem_mem hlt)
    obtain ⟨i, hi⟩ : ∃ i : Nat, xs[k].a.args[j] = (i : Int) := ⟨xs[k].a.args[j].toNat, by omega⟩
    rw [hi] at hat2 hmem
    have hih := ih i (by omega) (by omega)
    have hWs : ((Wd (xs.map aN) (xs[k].a.args.take j)).map eT).flatten ++ eT (bs (txT (xs.map aN) i)) = ((Wd (xs.map aN) (xs[k].a.args.take (j + 1))).map eT).flatten := by
      rw [List.take_add_one, List.getElem?_eq_getElem hlt, hi]
      simp [Wd]
    repeat' (first | refine c_seq ?_ | refine c_region ?_ | refine c_nil ?_ | refine k_then ?_ | refine k_inN ?_ | refine c_skip ?_ | refine c_block ?_ | refine c_condT h rfl ?_ | ((refine st_op rfl rfl h ?_); clear h a; (first | (show Does _ (.call _) _ _ _ _; (first | ((refine does_funP hm en62 rfl hih ⟨hp.up hm, hT.mono hm.base⟩ ?_; clear hm; intro w hm)) | ((refine does_appX 1 (n := j) (news := eT (bs (txT (xs.map aN) i))) hm rfl rfl rfl (by omega) hfl rfl (.inr ⟨_, rfl, at_own (i := 0) hm rfl (fun j v hv => (by rw [Nat.zero_add]; exact hv))⟩) (oneCells_mem rfl) (by omega) (by simp only [maxLen]; omega) ?_; clear hm; intro p8 c8 w hc8 hc9 hm; simp only [List.set_cons_zero, List.set_cons_succ] at hm)))) | (show Does _ (.buildSlice _ _ _) _ _ _ _; (refine does_buildSlice hm rfl rfl rfl ?_; clear hm; intro b w hm; (try simp only [rep, List.replicate_succ, List.replicate_zero, List.flatten_cons, List.flatten_nil, List.cons_append, List.nil_append, Nat.zero_mul, Nat.one_mul, Nat.reduceMul, Value.cells, List.toList_toArray, List.set_cons_zero, List.set_cons_succ, splice, Nat.zero_add, Nat.reduceAdd, Nat.reduceMul, Int.reduceAdd, Int.reduceToNat, Nat.zero_mul, Nat.one_mul, Int.toNat_natCast] at hm))) | (show Does _ (.move _) _ _ _ _; refine does_move rfl ?_) | (show Does _ (.assign _) _ _ _ _; refine does_assign rfl ?_) | (show Does _ (.load _ _) _ _ _ _; (first | refine does_loadOA 2 hm rfl rfl rfl ?_ | refine does_loadB hm rfl (by assumption) rfl ?_)) | (show Does _ (.binOp _ _ _ _ _) _ _ _ _; (first | refine does_lssT rfl rfl (by omega) ?_ | refine does_add rfl rfl (by omega) ?_)) | (show Does _ (.indexAddr _ _ _) _ _ _ _; (refine does_indexS1 (by omega) rfl rfl ?_))); intro a h; (try simp only [Value.cells, List.toList_toArray, splice, List.set_cons_zero, List.set_cons_succ, List.drop_zero, List.drop_succ_cons, List.take_succ_cons, List.take_zero, Nat.zero_add, Nat.reduceAdd, Nat.reduceMul, Int.reduceAdd, Int.reduceToNat, Int.reduceTMod, Nat.zero_mul, Nat.one_mul, Int.toNat_natCast] at h)))
    rw [hWs] at hm
    rw [← hq2] at h
    exact k_thenN ⟨(j + 1, .slice p8 (j + 1) c8), ⟨hlt, hm.drop, h.keep ⟨rfl, rfl, rfl, rfl, rfl, rfl, trivial⟩⟩, by show _ - (j + 1) < _ - j; omega⟩
  · obtain rfl : j = xs[k].a.args.length := by omega
    rw [List.take_length] at hm
    clear hWj hfl ih
    have hnumO := hvn.2.1
    have harO := hvn.2.2
    have hnmO := hvn.1
    have hnsz : xs[k].a.name.size ≤ 8 := by
      rcases hnmO with ⟨_, e⟩ | ⟨_, e⟩
      · exact e.1.2
      · rw [e]
        exact Nat.zero_le _
    have hz1 : (⟨#[40, 45]⟩ : ByteArray).size = 2 := rfl
    have hz2 : (⟨#[41]⟩ : ByteArray).size = 1 := rfl
    have hz3 : (⟨#[40]⟩ : ByteArray).size = 1 := rfl
    have hz4 : (⟨#[32]⟩ : ByteArray).size = 1 := rfl
    by_cases ho1 : xs[k].a.op = 1
    · have hnum : 0 ≤ xs[k].a.num ∧ xs[k].a.num ≤ 2559999 := by unfold numOk at hnumO; omega
      repeat' (first | refine c_seq ?_ | refine c_region ?_ | refine c_nil ?_ | refine k_then ?_ | refine k_thenR ?_ | refine k_thenE ?_ | refine k_inR ?_ | refine k_inE ?_ | refine c_ret ?_ | refine c_exit ?_ | refine c_block ?_ | refine c_condT h rfl ?_ | refine c_condF h rfl ?_ | ((refine st_op rfl rfl h ?_); clear h a; (first | (show Does _ (.call _) _ _ _ _; (((refine does_funP hm en99 rfl (iFormatNumber_ok _ hnum) (hT.mono hm.base) ?_; clear hm; intro w hm)))) | (show Does _ (.assign _) _ _ _ _; refine does_assign rfl ?_) | (show Does _ (.fieldAddr _ _ _) _ _ _ _; (refine does_fieldAddrL rfl ?_)) | (show Does _ (.load _ _) _ _ _ _; (refine does_loadO 1 hm rfl rfl rfl ?_)) | (show Does _ (.binOp _ _ _ _ _) _ _ _ _; (first | refine does_lssF rfl rfl (by omega) ?_ | refine does_eqlT rfl rfl (by omega) ?_))); intro a h; (try simp only [Value.cells, List.toList_toArray, splice, List.set_cons_zero, List.set_cons_succ, List.drop_zero, List.drop_succ_cons, List.take_succ_cons, List.take_zero, Nat.zero_add, Nat.reduceAdd, Nat.reduceMul, Int.reduceAdd, Int.reduceToNat, Int.reduceTMod, Nat.zero_mul, Nat.one_mul, Int.toNat_natCast] at h)))
      (refine k_ret1 rfl h rfl ⟨?_, hm.below⟩)
      rw [nodeT, if_pos ho1]
    by_cases ho2 : xs[k].a.op = 2
    · repeat' (first | refine c_seq ?_ | refine c_region ?_ | refine c_nil ?_ | refine k_then ?_ | refine k_thenR ?_ | refine k_thenE ?_ | refine k_inR ?_ | refine k_inE ?_ | refine c_ret ?_ | refine c_exit ?_ | refine c_block ?_ | refine c_condT h rfl ?_ | refine c_condF h rfl ?_ | ((refine st_op rfl rfl h ?_); clear h a; (first | (show Does _ (.assign _) _ _ _ _; refine does_assign rfl ?_) | (show Does _ (.fieldAddr _ _ _) _ _ _ _; (refine does_fieldAddrL rfl ?_)) | (show Does _ (.load _ _) _ _ _ _; (refine does_loadO 1 hm rfl rfl rfl ?_)) | (show Does _ (.binOp _ _ _ _ _) _ _ _ _; (first | refine does_lssF rfl rfl (by omega) ?_ | refine does_eqlT rfl rfl (by omega) ?_ | refine does_eqlF rfl rfl (by omega) ?_))); intro a h; (try simp only [Value.cells, List.toList_toArray, splice, List.set_cons_zero, List.set_cons_succ, List.drop_zero, List.drop_succ_cons, List.take_succ_cons, List.take_zero, Nat.zero_add, Nat.reduceAdd, Nat.reduceMul, Int.reduceAdd, Int.reduceToNat, Int.reduceTMod, Nat.zero_mul, Nat.one_mul, Int.toNat_natCast] at h)))
      (refine k_ret1 rfl h rfl ⟨?_, hm.below⟩)
      rw [nodeT, if_neg ho1, if_pos ho2]
    by_cases ho3 : xs[k].a.op = 3
    · have hl1 : xs[k].a.args.length = 1 := by unfold arOk at harO; omega
      obtain ⟨u0, hu0⟩ : ∃ u, (Wd (xs.map aN) xs[k].a.args)[0]? = some u := ⟨_, List.getElem?_eq_getElem (show 0 < (Wd (xs.map aN) xs[k].a.args).length by omega)⟩
      have hs0 := hW u0 (List.mem_of_getElem? hu0)
      obtain ⟨qv, rfl, _⟩ := (row_sl (enc := eT) (xs := Wd (xs.map aN) xs[k].a.args) (sz := 1) 0 hm rfl (fun _ => rfl) Nat.one_pos).at (k := 0) (by omega)
      have hq0 := ByteArray.size_append (a := ⟨#[40, 45]⟩) (b := u0)
      repeat' (first | refine c_seq ?_ | refine c_region ?_ | refine c_nil ?_ | refine k_then ?_ | refine k_thenR ?_ | refine k_thenE ?_ | refine k_inR ?_ | refine k_inE ?_ | refine c_ret ?_ | refine c_exit ?_ | refine c_block ?_ | refine c_condT h rfl ?_ | refine c_condF h rfl ?_ | ((refine st_op rfl rfl h ?_); clear h a; (first | (show Does _ (.load _ _) _ _ _ _; (first | ((refine does_loadRT 0 hm rfl rfl hu0 ?_)) | refine does_loadO 1 hm rfl rfl rfl ?_)) | (show Does _ (.binOp _ _ _ _ _) _ _ _ _; (first | ((refine does_addStr rfl rfl (by omega) ?_)) | refine does_lssF rfl rfl (by omega) ?_ | refine does_eqlT rfl rfl (by omega) ?_ | refine does_eqlF rfl rfl (by omega) ?_)) | (show Does _ (.move _) _ _ _ _; refine does_move rfl ?_) | (show Does _ (.assign _) _ _ _ _; refine does_assign rfl ?_) | (show Does _ (.fieldAddr _ _ _) _ _ _ _; (refine does_fieldAddrL rfl ?_)) | (show Does _ (.indexAddr _ _ _) _ _ _ _; (refine does_indexS1m (by omega) rfl rfl ?_))); intro a h; (try simp only [Value.cells, List.toList_toArray, splice, List.set_cons_zero, List.set_cons_succ, List.drop_zero, List.drop_succ_cons, List.take_succ_cons, List.take_zero, Nat.zero_add, Nat.reduceAdd, Nat.reduceMul, Int.reduceAdd, Int.reduceToNat, Int.reduceTMod, Nat.zero_mul, Nat.one_mul, Int.toNat_natCast] at h)))
      (refine k_ret1 rfl h rfl ⟨?_, hm.below⟩)
      rw [nodeT, if_neg ho1, if_neg ho2, if_pos ho3, Wd_getD hu0, ← bs_append, ← bs_append]
      try rfl
    by_cases ho8 : xs[k].a.op = 8
    · have hj0 := jU_bd (sep := ⟨#[44, 32]⟩) hW _ (Nat.le_refl _)
      rw [jU, List.take_length, hWl] at hj0
      have hj1 : xs[k].a.args.length * (2400 + (⟨#[44, 32]⟩ : ByteArray).size) ≤ 3 * 2402 := Nat.mul_le_mul har (Nat.le_refl _)
      have hjs : (bs (Lib.join ((Wd (xs.map aN) xs[k].a.args).map tB) (tB ⟨#[44, 32]⟩))).size = _ := bs_size _
      have hq0 := ByteArray.size_append (a := xs[k].a.name) (b := ⟨#[40]⟩)
      have hq1 := ByteArray.size_append (a := xs[k].a.name ++ ⟨#[40]⟩) (b := bs (Lib.join ((Wd (xs.map aN) xs[k].a.args).map tB) (tB ⟨#[44, 32]⟩)))
      have hjb : (Lib.join ((Wd (xs.map aN) xs[k].a.args).map tB) (tB ⟨#[44, 32]⟩)).length = (Lib.join ((Wd (xs.map aN) xs[k].a.args).map tB) (tB ⟨#[44, 32]⟩)).length := rfl
      have hJ := iJoinG_ok (Wd (xs.map aN) xs[k].a.args) ⟨#[44, 32]⟩ pv cv (by omega) (by omega) (by exact Nat.le_trans hj0 (Nat.le_trans hj1 (by decide)))
      rw [hWl] at hJ
      repeat' (first | refine c_seq ?_ | refine c_region ?_ | refine c_nil ?_ | refine k_then ?_ | refine k_thenE ?_ | refine k_inE ?_ | refine c_exit ?_ | refine c_block ?_ | refine c_condT h rfl ?_ | refine c_condF h rfl ?_ | ((refine st_op rfl rfl h ?_); clear h a; (first | (show Does _ (.assign _) _ _ _ _; refine does_assign rfl ?_) | (show Does _ (.fieldAddr _ _ _) _ _ _ _; (refine does_fieldAddrL rfl ?_)) | (show Does _ (.load _ _) _ _ _ _; (refine does_loadO 1 hm rfl rfl rfl ?_)) | (show Does _ (.binOp _ _ _ _ _) _ _ _ _; (first | refine does_lssF rfl rfl (by omega) ?_ | refine does_eqlT rfl rfl (by omega) ?_ | refine does_eqlF rfl rfl (by omega) ?_))); intro a h; (try simp only [Value.cells, List.toList_toArray, splice, List.set_cons_zero, List.set_cons_succ, List.drop_zero, List.drop_succ_cons, List.take_succ_cons, List.take_zero, Nat.zero_add, Nat.reduceAdd, Nat.reduceMul, Int.reduceAdd, Int.reduceToNat, Int.reduceTMod, Nat.zero_mul, Nat.one_mul, Int.toNat_natCast] at h)))
      refine hw_region ([.row (.slice pv xs[k].a.args.length cv) 9 1 ((Wd (xs.map aN) xs[k].a.args).map eT).flatten, .blk b_5 (.cells (eN xs[k]).toArray 121)]) mixed hm ?_; clear hm; intro w hm
      refine hw_take 0 rfl (by kernel_rfl) (by kernel_rfl) (by kernel_rfl) rfl rfl rfl h (hm.sub (by repeat' (first | refine List.Sublist.cons_cons _ ?_ | exact List.nil_sublist _))) (fun w hm => by (refine does_fieldAddrL rfl ?_) <;> exact ⟨rfl, rfl⟩) ?_; clear h a; intro a h; (try simp only [Value.cells, List.toList_toArray, splice, List.set_cons_zero, List.set_cons_succ, List.drop_zero, List.drop_succ_cons, List.take_succ_cons, List.take_zero, Nat.zero_add, Nat.reduceAdd, Nat.reduceMul, Int.reduceAdd, Int.reduceToNat, Int.reduceTMod, Nat.zero_mul, Nat.one_mul, Int.toNat_natCast] at h)
      refine hw_take 1 rfl (by kernel_rfl) (by kernel_rfl) (by kernel_rfl) rfl rfl rfl h (hm.sub (by repeat' (first | refine List.Sublist.cons_cons _ ?_ | exact List.nil_sublist _))) (fun w hm => by (refine does_loadO 1 hm rfl rfl rfl ?_) <;> exact ⟨rfl, rfl⟩) ?_; clear h a; intro a h; (try simp only [Value.cells, List.toList_toArray, splice, List.set_cons_zero, List.set_cons_succ, List.drop_zero, List.drop_succ_cons, List.take_succ_cons, List.take_zero, Nat.zero_add, Nat.reduceAdd, Nat.reduceMul, Int.reduceAdd, Int.reduceToNat, Int.reduceTMod, Nat.zero_mul, Nat.one_mul, Int.toNat_natCast] at h)
      refine hw_take 2 rfl (by kernel_rfl) (by kernel_rfl) (by kernel_rfl) rfl rfl rfl h (hm.sub (by repeat' (first | refine List.Sublist.cons_cons _ ?_ | exact List.nil_sublist _))) (fun w hm => by (((refine does_addStr rfl rfl (by omega) ?_))) <;> exact ⟨rfl, rfl⟩) ?_; clear h a; intro a h; (try simp only [Value.cells, List.toList_toArray, splice, List.set_cons_zero, List.set_cons_succ, List.drop_zero, List.drop_succ_cons, List.take_succ_cons, List.take_zero, Nat.zero_add, Nat.reduceAdd, Nat.reduceMul, Int.reduceAdd, Int.reduceToNat, Int.reduceTMod, Nat.zero_mul, Nat.one_mul, Int.toNat_natCast] at h)
      refine hw_take 3 rfl (by kernel_rfl) (by kernel_rfl) (by kernel_rfl) rfl rfl rfl h (hm.sub (by repeat' (first | refine List.Sublist.cons_cons _ ?_ | exact List.nil_sublist _))) (fun w hm => by refine does_move rfl ?_ <;> exact ⟨rfl, rfl⟩) ?_; clear h a; intro a h; (try simp only [Value.cells, List.toList_toArray, splice, List.set_cons_zero, List.set_cons_succ, List.drop_zero, List.drop_succ_cons, List.take_succ_cons, List.take_zero, Nat.zero_add, Nat.reduceAdd, Nat.reduceMul, Int.reduceAdd, Int.reduceToNat, Int.reduceTMod, Nat.zero_mul, Nat.one_mul, Int.toNat_natCast] at h)
      refine hw1 4 (by decide +kernel) ?_
      (refine ho_op rfl rfl rfl h ?_); clear h a; ((refine does_funP hm en30 rfl hJ (row_sl (enc := eT) (xs := Wd (xs.map aN) xs[k].a.args) (sz := 1) 0 hm rfl (fun _ => rfl) Nat.one_pos) ?_; clear hm; intro w hm)); intro a h; (try simp only [Value.cells, List.toList_toArray, splice, List.set_cons_zero, List.set_cons_succ, List.drop_zero, List.drop_succ_cons, List.take_succ_cons, List.take_zero, Nat.zero_add, Nat.reduceAdd, Nat.reduceMul, Int.reduceAdd, Int.reduceToNat, Int.reduceTMod, Nat.zero_mul, Nat.one_mul, Int.toNat_natCast] at h); refine ⟨hm.sub (by repeat' (first | refine List.Sublist.cons_cons _ ?_ | exact List.nil_sublist _)), ?_⟩
      refine hw_take 5 rfl (by kernel_rfl) (by kernel_rfl) (by kernel_rfl) rfl rfl rfl h (hm.sub (by repeat' (first | refine List.Sublist.cons_cons _ ?_ | exact List.nil_sublist _))) (fun w hm => by (((refine does_addStr rfl rfl (by omega) ?_))) <;> exact ⟨rfl, rfl⟩) ?_; clear h a; intro a h; (try simp only [Value.cells, List.toList_toArray, splice, List.set_cons_zero, List.set_cons_succ, List.drop_zero, List.drop_succ_cons, List.take_succ_cons, List.take_zero, Nat.zero_add, Nat.reduceAdd, Nat.reduceMul, Int.reduceAdd, Int.reduceToNat, Int.reduceTMod, Nat.zero_mul, Nat.one_mul, Int.toNat_natCast] at h)
      refine hw_take 6 rfl (by kernel_rfl) (by kernel_rfl) (by kernel_rfl) rfl rfl rfl h (hm.sub (by repeat' (first | refine List.Sublist.cons_cons _ ?_ | exact List.nil_sublist _))) (fun w hm => by (((refine does_addStr rfl rfl (by omega) ?_))) <;> exact ⟨rfl, rfl⟩) ?_; clear h a; intro a h; (try simp only [Value.cells, List.toList_toArray, splice, List.set_cons_zero, List.set_cons_succ, List.drop_zero, List.drop_succ_cons, List.take_succ_cons, List.take_zero, Nat.zero_add, Nat.reduceAdd, Nat.reduceMul, Int.reduceAdd, Int.reduceToNat, Int.reduceTMod, Nat.zero_mul, Nat.one_mul, Int.toNat_natCast] at h)
      refine hw_take 7 rfl (by kernel_rfl) (by kernel_rfl) (by kernel_rfl) rfl rfl rfl h (hm.sub (by repeat' (first | refine List.Sublist.cons_cons _ ?_ | exact List.nil_sublist _))) (fun w hm => by refine does_assign rfl ?_ <;> exact ⟨rfl, rfl⟩) ?_; clear h a; intro a h; (try simp only [Value.cells, List.toList_toArray, splice, List.set_cons_zero, List.set_cons_succ, List.drop_zero, List.drop_succ_cons, List.take_succ_cons, List.take_zero, Nat.zero_add, Nat.reduceAdd, Nat.reduceMul, Int.reduceAdd, Int.reduceToNat, Int.reduceTMod, Nat.zero_mul, Nat.one_mul, Int.toNat_natCast] at h)
      refine hw0 (by decide +kernel) ?_
      skip
      repeat' (first | refine k_then ?_ | refine k_thenR ?_ | refine k_inR ?_ | refine c_ret ?_)
      (refine k_ret1 rfl h rfl ⟨?_, hm.below⟩)
      rw [nodeT, if_neg ho1, if_neg ho2, if_neg ho3, if_pos ho8, ← Wd_tB, ← bs_append, ← bs_append, ← bs_append]
      try rfl
    have ho4 : 4 ≤ xs[k].a.op ∧ xs[k].a.op ≤ 7 := by unfold arOk at harO; omega
    have hl2 : xs[k].a.args.length = 2 := by unfold arOk at harO; omega
    have hsym := sym_get ho4
    have hss := sym_size xs[k].a.op
    obtain ⟨u0, hu0⟩ : ∃ u, (Wd (xs.map aN) xs[k].a.args)[0]? = some u := ⟨_, List.getElem?_eq_getElem (show 0 < (Wd (xs.map aN) xs[k].a.args).length by omega)⟩
    obtain ⟨u1, hu1⟩ : ∃ u, (Wd (xs.map aN) xs[k].a.args)[1]? = some u := ⟨_, List.getElem?_eq_getElem (show 1 < (Wd (xs.map aN) xs[k].a.args).length by omega)⟩
    have hs0 := hW u0 (List.mem_of_getElem? hu0)
    have hs1 := hW u1 (List.mem_of_getElem? hu1)
    obtain ⟨qv, rfl, _⟩ := (row_sl (enc := eT) (xs := Wd (xs.map aN) xs[k].a.args) (sz := 1) 0 hm rfl (fun _ => rfl) Nat.one_pos).at (k := 0) (by omega)
    have hq0 := ByteArray.size_append (a := ⟨#[40]⟩) (b := u0)
    have hq1 := ByteArray.size_append (a := ⟨#[40]⟩ ++ u0) (b := ⟨#[32]⟩)
    have hq2 := ByteArray.size_append (a := ⟨#[40]⟩ ++ u0 ++ ⟨#[32]⟩) (b := bs (symT xs[k].a.op))
    have hq3 := ByteArray.size_append (a := ⟨#[40]⟩ ++ u0 ++ ⟨#[32]⟩ ++ bs (symT xs[k].a.op)) (b := ⟨#[32]⟩)
    have hq4 := ByteArray.size_append (a := ⟨#[40]⟩ ++ u0 ++ ⟨#[32]⟩ ++ bs (symT xs[k].a.op) ++ ⟨#[32]⟩) (b := u1)
    repeat' (first | refine c_seq ?_ | refine c_region ?_ | refine c_nil ?_ | refine k_then ?_ | refine k_thenE ?_ | refine k_inN ?_ | refine k_inE ?_ | refine c_skip ?_ | refine c_exit ?_ | refine c_block ?_ | refine c_condF h rfl ?_ | ((refine st_op rfl rfl h ?_); clear h a; (first | (show Does _ (.assign _) _ _ _ _; refine does_assign rfl ?_) | (show Does _ (.fieldAddr _ _ _) _ _ _ _; (refine does_fieldAddrL rfl ?_)) | (show Does _ (.load _ _) _ _ _ _; (refine does_loadO 1 hm rfl rfl rfl ?_)) | (show Does _ (.binOp _ _ _ _ _) _ _ _ _; (first | refine does_lssF rfl rfl (by omega) ?_ | refine does_eqlF rfl rfl (by omega) ?_))); intro a h; (try simp only [Value.cells, List.toList_toArray, splice, List.set_cons_zero, List.set_cons_succ, List.drop_zero, List.drop_succ_cons, List.take_succ_cons, List.take_zero, Nat.zero_add, Nat.reduceAdd, Nat.reduceMul, Int.reduceAdd, Int.reduceToNat, Int.reduceTMod, Nat.zero_mul, Nat.one_mul, Int.toNat_natCast] at h)))
    refine hw_region ([.row (.slice (some qv) xs[k].a.args.length cv) 9 1 ((Wd (xs.map aN) xs[k].a.args).map eT).flatten, .blk b_5 (.cells (eN xs[k]).toArray 121)]) mixed hm ?_; clear hm; intro w hm
    refine hw_take 0 rfl (by kernel_rfl) (by kernel_rfl) (by kernel_rfl) rfl rfl rfl h (hm.sub (by repeat' (first | refine List.Sublist.cons_cons _ ?_ | exact List.nil_sublist _))) (fun w hm => by refine does_move rfl ?_ <;> exact ⟨rfl, rfl⟩) ?_; clear h a; intro a h; (try simp only [Value.cells, List.toList_toArray, splice, List.set_cons_zero, List.set_cons_succ, List.drop_zero, List.drop_succ_cons, List.take_succ_cons, List.take_zero, Nat.zero_add, Nat.reduceAdd, Nat.reduceMul, Int.reduceAdd, Int.reduceToNat, Int.reduceTMod, Nat.zero_mul, Nat.one_mul, Int.toNat_natCast] at h)
    refine hw_take 1 rfl (by kernel_rfl) (by kernel_rfl) (by kernel_rfl) rfl rfl rfl h (hm.sub (by repeat' (first | refine List.Sublist.cons_cons _ ?_ | exact List.nil_sublist _))) (fun w hm => by (refine does_indexS1m (by omega) rfl rfl ?_) <;> exact ⟨rfl, rfl⟩) ?_; clear h a; intro a h; (try simp only [Value.cells, List.toList_toArray, splice, List.set_cons_zero, List.set_cons_succ, List.drop_zero, List.drop_succ_cons, List.take_succ_cons, List.take_zero, Nat.zero_add, Nat.reduceAdd, Nat.reduceMul, Int.reduceAdd, Int.reduceToNat, Int.reduceTMod, Nat.zero_mul, Nat.one_mul, Int.toNat_natCast] at h)
    refine hw_take 2 rfl (by kernel_rfl) (by kernel_rfl) (by kernel_rfl) rfl rfl rfl h (hm.sub (by repeat' (first | refine List.Sublist.cons_cons _ ?_ | exact List.nil_sublist _))) (fun w hm => by (((refine does_loadRT 0 hm rfl rfl hu0 ?_))) <;> exact ⟨rfl, rfl⟩) ?_; clear h a; intro a h; (try simp only [Value.cells, List.toList_toArray, splice, List.set_cons_zero, List.set_cons_succ, List.drop_zero, List.drop_succ_cons, List.take_succ_cons, List.take_zero, Nat.zero_add, Nat.reduceAdd, Nat.reduceMul, Int.reduceAdd, Int.reduceToNat, Int.reduceTMod, Nat.zero_mul, Nat.one_mul, Int.toNat_natCast] at h)
    refine hw_take 3 rfl (by kernel_rfl) (by kernel_rfl) (by kernel_rfl) rfl rfl rfl h (hm.sub (by repeat' (first | refine List.Sublist.cons_cons _ ?_ | exact List.nil_sublist _))) (fun w hm => by (((refine does_addStr rfl rfl (by omega) ?_))) <;> exact ⟨rfl, rfl⟩) ?_; clear h a; intro a h; (try simp only [Value.cells, List.toList_toArray, splice, List.set_cons_zero, List.set_cons_succ, List.drop_zero, List.drop_succ_cons, List.take_succ_cons, List.take_zero, Nat.zero_add, Nat.reduceAdd, Nat.reduceMul, Int.reduceAdd, Int.reduceToNat, Int.reduceTMod, Nat.zero_mul, Nat.one_mul, Int.toNat_natCast] at h)
    refine hw_take 4 rfl (by kernel_rfl) (by kernel_rfl) (by kernel_rfl) rfl rfl rfl h (hm.sub (by repeat' (first | refine List.Sublist.cons_cons _ ?_ | exact List.nil_sublist _))) (fun w hm => by (((refine does_addStr rfl rfl (by omega) ?_))) <;> exact ⟨rfl, rfl⟩) ?_; clear h a; intro a h; (try simp only [Value.cells, List.toList_toArray, splice, List.set_cons_zero, List.set_cons_succ, List.drop_zero, List.drop_succ_cons, List.take_succ_cons, List.take_zero, Nat.zero_add, Nat.reduceAdd, Nat.reduceMul, Int.reduceAdd, Int.reduceToNat, Int.reduceTMod, Nat.zero_mul, Nat.one_mul, Int.toNat_natCast] at h)
    refine hw_take 5 rfl (by kernel_rfl) (by kernel_rfl) (by kernel_rfl) rfl rfl rfl h (hm.sub (by repeat' (first | refine List.Sublist.cons_cons _ ?_ | exact List.nil_sublist _))) (fun w hm => by (refine does_fieldAddrL rfl ?_) <;> exact ⟨rfl, rfl⟩) ?_; clear h a; intro a h; (try simp only [Value.cells, List.toList_toArray, splice, List.set_cons_zero, List.set_cons_succ, List.drop_zero, List.drop_succ_cons, List.take_succ_cons, List.take_zero, Nat.zero_add, Nat.reduceAdd, Nat.reduceMul, Int.reduceAdd, Int.reduceToNat, Int.reduceTMod, Nat.zero_mul, Nat.one_mul, Int.toNat_natCast] at h)
    refine hw_take 6 rfl (by kernel_rfl) (by kernel_rfl) (by kernel_rfl) rfl rfl rfl h (hm.sub (by repeat' (first | refine List.Sublist.cons_cons _ ?_ | exact List.nil_sublist _))) (fun w hm => by (refine does_loadO 1 hm rfl rfl rfl ?_) <;> exact ⟨rfl, rfl⟩) ?_; clear h a; intro a h; (try simp only [Value.cells, List.toList_toArray, splice, List.set_cons_zero, List.set_cons_succ, List.drop_zero, List.drop_succ_cons, List.take_succ_cons, List.take_zero, Nat.zero_add, Nat.reduceAdd, Nat.reduceMul, Int.reduceAdd, Int.reduceToNat, Int.reduceTMod, Nat.zero_mul, Nat.one_mul, Int.toNat_natCast] at h)
    refine hw_take 10 rfl (by kernel_rfl) (by kernel_rfl) (by kernel_rfl) rfl rfl rfl h (hm.sub (by repeat' (first | refine List.Sublist.cons_cons _ ?_ | exact List.nil_sublist _))) (fun w hm => by refine does_move rfl ?_ <;> exact ⟨rfl, rfl⟩) ?_; clear h a; intro a h; (try simp only [Value.cells, List.toList_toArray, splice, List.set_cons_zero, List.set_cons_succ, List.drop_zero, List.drop_succ_cons, List.take_succ_cons, List.take_zero, Nat.zero_add, Nat.reduceAdd, Nat.reduceMul, Int.reduceAdd, Int.reduceToNat, Int.reduceTMod, Nat.zero_mul, Nat.one_mul, Int.toNat_natCast] at h)
    refine hw_take 11 rfl (by kernel_rfl) (by kernel_rfl) (by kernel_rfl) rfl rfl rfl h (hm.sub (by repeat' (first | refine List.Sublist.cons_cons _ ?_ | exact List.nil_sublist _))) (fun w hm => by (refine does_indexS1m (by omega) rfl rfl ?_) <;> exact ⟨rfl, rfl⟩) ?_; clear h a; intro a h; (try simp only [Value.cells, List.toList_toArray, splice, List.set_cons_zero, List.set_cons_succ, List.drop_zero, List.drop_succ_cons, List.take_succ_cons, List.take_zero, Nat.zero_add, Nat.reduceAdd, Nat.reduceMul, Int.reduceAdd, Int.reduceToNat, Int.reduceTMod, Nat.zero_mul, Nat.one_mul, Int.toNat_natCast] at h)
    refine hw_take 12 rfl (by kernel_rfl) (by kernel_rfl) (by kernel_rfl) rfl rfl rfl h (hm.sub (by repeat' (first | refine List.Sublist.cons_cons _ ?_ | exact List.nil_sublist _))) (fun w hm => by (((refine does_loadRT 0 hm rfl rfl hu1 ?_))) <;> exact ⟨rfl, rfl⟩) ?_; clear h a; intro a h; (try simp only [Value.cells, List.toList_toArray, splice, List.set_cons_zero, List.set_cons_succ, List.drop_zero, List.drop_succ_cons, List.take_succ_cons, List.take_zero, Nat.zero_add, Nat.reduceAdd, Nat.reduceMul, Int.reduceAdd, Int.reduceToNat, Int.reduceTMod, Nat.zero_mul, Nat.one_mul, Int.toNat_natCast] at h)
    refine hw1 7 (by decide +kernel) ?_
    (refine ho_op rfl rfl rfl h ?_); clear h a; ((refine does_funM hm en100 rfl (symbolOf_ok _ ho4) ?_; clear hm; intro w hm)); intro a h; (try simp only [Value.cells, List.toList_toArray, splice, List.set_cons_zero, List.set_cons_succ, List.drop_zero, List.drop_succ_cons, List.take_succ_cons, List.take_zero, Nat.zero_add, Nat.reduceAdd, Nat.reduceMul, Int.reduceAdd, Int.reduceToNat, Int.reduceTMod, Nat.zero_mul, Nat.one_mul, Int.toNat_natCast] at h); refine ⟨hm.sub (by repeat' (first | refine List.Sublist.cons_cons _ ?_ | exact List.nil_sublist _)), ?_⟩
    refine hw_take 8 rfl (by kernel_rfl) (by kernel_rfl) (by kernel_rfl) rfl rfl rfl h (hm.sub (by repeat' (first | refine List.Sublist.cons_cons _ ?_ | exact List.nil_sublist _))) (fun w hm => by (((refine does_addStr rfl rfl (by omega) ?_))) <;> exact ⟨rfl, rfl⟩) ?_; clear h a; intro a h; (try simp only [Value.cells, List.toList_toArray, splice, List.set_cons_zero, List.set_cons_succ, List.drop_zero, List.drop_succ_cons, List.take_succ_cons, List.take_zero, Nat.zero_add, Nat.reduceAdd, Nat.reduceMul, Int.reduceAdd, Int.reduceToNat, Int.reduceTMod, Nat.zero_mul, Nat.one_mul, Int.toNat_natCast] at h)
    refine hw_take 9 rfl (by kernel_rfl) (by kernel_rfl) (by kernel_rfl) rfl rfl rfl h (hm.sub (by repeat' (first | refine List.Sublist.cons_cons _ ?_ | exact List.nil_sublist _))) (fun w hm => by (((refine does_addStr rfl rfl (by omega) ?_))) <;> exact ⟨rfl, rfl⟩) ?_; clear h a; intro a h; (try simp only [Value.cells, List.toList_toArray, splice, List.set_cons_zero, List.set_cons_succ, List.drop_zero, List.drop_succ_cons, List.take_succ_cons, List.take_zero, Nat.zero_add, Nat.reduceAdd, Nat.reduceMul, Int.reduceAdd, Int.reduceToNat, Int.reduceTMod, Nat.zero_mul, Nat.one_mul, Int.toNat_natCast] at h)
    refine hw_take 13 rfl (by kernel_rfl) (by kernel_rfl) (by kernel_rfl) rfl rfl rfl h (hm.sub (by repeat' (first | refine List.Sublist.cons_cons _ ?_ | exact List.nil_sublist _))) (fun w hm => by (((refine does_addStr rfl rfl (by omega) ?_))) <;> exact ⟨rfl, rfl⟩) ?_; clear h a; intro a h; (try simp only [Value.cells, List.toList_toArray, splice, List.set_cons_zero, List.set_cons_succ, List.drop_zero, List.drop_succ_cons, List.take_succ_cons, List.take_zero, Nat.zero_add, Nat.reduceAdd, Nat.reduceMul, Int.reduceAdd, Int.reduceToNat, Int.reduceTMod, Nat.zero_mul, Nat.one_mul, Int.toNat_natCast] at h)
    refine hw_take 14 rfl (by kernel_rfl) (by kernel_rfl) (by kernel_rfl) rfl rfl rfl h (hm.sub (by repeat' (first | refine List.Sublist.cons_cons _ ?_ | exact List.nil_sublist _))) (fun w hm => by (((refine does_addStr rfl rfl (by omega) ?_))) <;> exact ⟨rfl, rfl⟩) ?_; clear h a; intro a h; (try simp only [Value.cells, List.toList_toArray, splice, List.set_cons_zero, List.set_cons_succ, List.drop_zero, List.drop_succ_cons, List.take_succ_cons, List.take_zero, Nat.zero_add, Nat.reduceAdd, Nat.reduceMul, Int.reduceAdd, Int.reduceToNat, Int.reduceTMod, Nat.zero_mul, Nat.one_mul, Int.toNat_natCast] at h)
    refine hw_take 15 rfl (by kernel_rfl) (by kernel_rfl) (by kernel_rfl) rfl rfl rfl h (hm.sub (by repeat' (first | refine List.Sublist.cons_cons _ ?_ | exact List.nil_sublist _))) (fun w hm => by refine does_assign rfl ?_ <;> exact ⟨rfl, rfl⟩) ?_; clear h a; intro a h; (try simp only [Value.cells, List.toList_toArray, splice, List.set_cons_zero, List.set_cons_succ, List.drop_zero, List.drop_succ_cons, List.take_succ_cons, List.take_zero, Nat.zero_add, Nat.reduceAdd, Nat.reduceMul, Int.reduceAdd, Int.reduceToNat, Int.reduceTMod, Nat.zero_mul, Nat.one_mul, Int.toNat_natCast] at h)
    refine hw0 (by decide +kernel) ?_
    skip
    repeat' (first | refine k_then ?_ | refine c_ret ?_)
    (refine k_ret1 rfl h rfl ⟨?_, hm.below⟩)
    rw [nodeT, if_neg ho1, if_neg ho2, if_neg ho3, if_neg ho8, Wd_getD hu0, Wd_getD hu1, ← bs_append, ← bs_append, ← bs_append, ← bs_append, ← bs_append, ← bs_append]
    try rfl
end Go.Proofs.YtgmonjghbjaadaaGreatDoor.St
