/-
  Contracts of the reference's Compile.
-/
import Derived.Test.YtgoimincdbbafaaLCmi
import Derived.Test.YtgoimincdbbafaaLChs
import Derived.Test.YtgoimincdbbafaaStNew
import Derived.Test.YtgoimincdbbafaaStZip
set_option linter.unusedSimpArgs false
set_option linter.unusedVariables false
namespace Go.Proofs.Ytgoimincdbbafaa.St
open Go.RowKit
open Classical in
noncomputable def locI : List ByteArray → ByteArray → Int → Int
  | [], _, _ => -1
  | x :: r, s, i => if x = s then i else locI r s (i + 1)
theorem locI_at {s : ByteArray} : ∀ {xs : List ByteArray} {j : Nat} {i : Int}, xs[j]? = some s → (∀ k, k < j → ¬ xs[k]? = some s) → locI xs s i = i + j
  | [], j, i, h, _ => by simp at h
  | x :: r, 0, i, h, _ => by
    have : x = s := by simpa using h
    simp [locI, this]
  | x :: r, j + 1, i, h, hn => by
    have h0 : ¬ x = s := fun e => hn 0 (by omega) (by simp [e])
    have := locI_at (xs := r) (j := j) (i := i + 1) (by simpa using h) (fun k hk => by simpa using hn (k + 1) (by omega))
    simp only [locI, if_neg h0, this]
    omega
theorem locI_bd {s : ByteArray} : ∀ {xs : List ByteArray} {i : Int}, 0 ≤ i → -1 ≤ locI xs s i ∧ locI xs s i ≤ i + xs.length
  | [], i, h => by simp only [locI, List.length_nil]; omega
  | x :: r, i, h => by
    have := locI_bd (s := s) (xs := r) (i := i + 1) (by omega)
    simp only [locI, List.length_cons]
    split <;> omega
theorem locI_first {ys : List TAssignment} {s : ByteArray} {v : Int} (h : firstA ys ys.length s = some v) : locI (ys.map Prod.fst) s 0 = v := by
  obtain ⟨j, rfl, hj, hs⟩ := firstA_bd h
  rw [locI_at (j := j) (by rw [List.getElem?_map]; exact hs) fun k hk => by rw [List.getElem?_map]; exact firstA_least h k (by omega) (by omega)]
  omega
set_option maxHeartbeats 4000000 in
theorem local_ok (p : Option Addr) (xs : List ByteArray) (c : Nat) (s : ByteArray) (hxs : xs.length ≤ 1048576) : FunP Try.prog 204 [.slice p xs.length c, .string s] (fun H => Sl H p eS 1 xs) (I (locI xs s 0)) := by
  refine enterFunP Try.func204 rfl Try.ntmps204 rfl (fun W0 w a hp hm h => ?_)
  repeat' (first | refine c_seq ?_ | refine c_region ?_ | refine c_nil ?_ | refine k_then ?_ | refine c_block ?_ | ((refine st_op rfl rfl h ?_); clear h a; (first | (show Does _ (.move _) _ _ _ _; refine does_move rfl ?_) | (show Does _ (.assign _) _ _ _ _; refine does_assign rfl ?_) | (show Does _ (.call _) _ _ _ _; refine does_lenS (SliceT.out) rfl ?_)); intro a h; (try simp only [Value.cells, splice, nz, Nat.reduceAdd, Nat.reduceMul, Int.reduceAdd, Int.reduceToNat, Int.reduceTMod] at h)))
  refine c_loop (σ := Nat) (fun k a w => k ≤ xs.length ∧ locI xs s 0 = locI (xs.drop k) s k ∧ Mem W0 [] (fun b => W0.heap[b]?) [] w ∧ Holds [(1, .string s), (7, .slice p xs.length c), (8, .int .i64 xs.length), (9, .int .i64 k)] _ a) (fun k => xs.length - k) 0
    ⟨Nat.zero_le _, by simp, hm, h.keep ⟨rfl, rfl, rfl, rfl, trivial⟩⟩ ?_
  clear h hm
  rintro k a w ⟨hk, hpre, hm, h⟩
  by_cases hlt : k < xs.length
  · obtain ⟨q1, rfl, hat1⟩ := hp.atS hlt
    rw [List.drop_eq_getElem_cons hlt] at hpre
    by_cases he : xs[k] = s
    · rw [he] at hat1
      repeat' (first | refine c_seq ?_ | refine c_region ?_ | refine c_nil ?_ | refine k_then ?_ | refine k_thenR ?_ | refine k_inR ?_ | refine c_skip ?_ | refine c_ret ?_ | refine c_block ?_ | refine c_condT h rfl ?_ | ((refine st_op rfl rfl h ?_); clear h a; (first | (show Does _ (.move _) _ _ _ _; refine does_move rfl ?_) | (show Does _ (.assign _) _ _ _ _; refine does_assign rfl ?_) | (show Does _ (.load _ _) _ _ _ _; (refine does_loadB hm rfl (by assumption) rfl ?_)) | (show Does _ (.binOp _ _ _ _ _) _ _ _ _; (first | refine zlss rfl rfl ?_ | refine does_eqlStrS rfl rfl ?_)) | (show Does _ (.indexAddr _ _ _) _ _ _ _; (refine ziS1 rfl rfl ?_))); intro a h; (try simp only [Value.cells, splice, nz, Nat.reduceAdd, Nat.reduceMul, Int.reduceAdd, Int.reduceToNat, Int.reduceTMod] at h)))
      (refine k_ret1 rfl h rfl ⟨?_, hm.below⟩)
      rw [hpre]
      simp only [locI, if_pos he]
    · repeat' (first | refine c_seq ?_ | refine c_region ?_ | refine c_nil ?_ | refine k_then ?_ | refine k_inN ?_ | refine c_skip ?_ | refine c_block ?_ | refine c_condT h rfl ?_ | refine c_condF h rfl ?_ | ((refine st_op rfl rfl h ?_); clear h a; (first | (show Does _ (.binOp _ _ _ _ _) _ _ _ _; (first | (refine does_eqlStrF rfl rfl he ?_) | refine zlss rfl rfl ?_ | refine zadd rfl rfl ?_)) | (show Does _ (.move _) _ _ _ _; refine does_move rfl ?_) | (show Does _ (.assign _) _ _ _ _; refine does_assign rfl ?_) | (show Does _ (.load _ _) _ _ _ _; (refine does_loadB hm rfl (by assumption) rfl ?_)) | (show Does _ (.indexAddr _ _ _) _ _ _ _; (refine ziS1 rfl rfl ?_))); intro a h; (try simp only [Value.cells, splice, nz, Nat.reduceAdd, Nat.reduceMul, Int.reduceAdd, Int.reduceToNat, Int.reduceTMod] at h)))
      exact k_thenN ⟨k + 1, ⟨hlt, by rw [hpre]; simp only [locI, if_neg he]; congr 1, hm, h.keep ⟨rfl, rfl, rfl, rfl, trivial⟩⟩, by omega⟩
  · repeat' (first | refine c_seq ?_ | refine c_region ?_ | refine c_nil ?_ | refine k_then ?_ | refine k_thenE ?_ | refine k_inE ?_ | refine c_ret ?_ | refine c_exit ?_ | refine c_condF h rfl ?_ | ((refine st_op rfl rfl h ?_); clear h a; (first | (show Does _ (.assign _) _ _ _ _; refine does_assign rfl ?_) | (show Does _ (.binOp _ _ _ _ _) _ _ _ _; (refine zlss rfl rfl ?_))); intro a h; (try simp only [Value.cells, splice, nz, Nat.reduceAdd, Nat.reduceMul, Int.reduceAdd, Int.reduceToNat, Int.reduceTMod] at h)))
    (refine k_ret1 rfl h rfl ⟨?_, hm.below⟩)
    rw [hpre, List.drop_eq_nil_of_le (by omega)]
    rfl
set_option maxHeartbeats 16000000 in
theorem emit_ok (p q pl : Option Addr) (xs : List TNode) (ys : List TAssignment) (c d dl : Nat) (ho : okP (xs.map aN) ys) (hys : ys.length ≤ 1048576) (i : Nat) (hi : i < xs.length) (hn : (em (xs.map aN) ys i).length ≤ 4000000) :
    FunN Try.prog 127 [.agg #[.slice p xs.length c, .slice q ys.length d], .slice pl (ys.map Prod.fst).length dl, .int .i64 i] (fun H => ProgH H p q xs ys ∧ Sl H pl eS 1 (ys.map Prod.fst)) 181 3 ((em (xs.map aN) ys i).map eInstruction).flatten := by
  induction i using Nat.strongRecOn with
  | _ i ih =>
  have hv := ho.val
  refine enterFunN Try.func127 rfl Try.ntmps127 rfl (fun W0 w a hp hm h => ?_)
  obtain ⟨⟨hx, hy⟩, hl⟩ := hp
  obtain ⟨q1, hq1, hat1⟩ := hx.row.at hi
  have hargs := hx.args _ (List.getElem_mem hi)
  have g2 : (xs.map aN)[i]? = some xs[i].a := by rw [List.getElem?_map, List.getElem?_eq_getElem hi]; rfl
  have h3a : xs[i].a.args.length ≤ 3 := ar3 (hv.nodes i _ g2).2
  have hall := emA_all (x := xs[i].a) hv g2
  have hall2 := congrArg List.length hall
  rw [List.length_append] at hall2
  simp only [List.length_cons, List.length_nil] at hall2
  subst hq1
  repeat' (first | refine c_seq ?_ | refine c_region ?_ | refine c_nil ?_ | refine k_then ?_ | refine c_block ?_ | ((first | (refine st_op (d := 3) rfl rfl h ?_; refine does_box hm rfl rfl ?_; clear h a hm; intro b_3 w hm a h) | (refine st_op (d := 7) rfl rfl h ?_; refine does_alloc hm ?_; clear h a hm; intro b_7 w hm a h)); (try simp only [Value.cells, splice, nz, Nat.reduceAdd, Nat.reduceMul, Int.reduceAdd, Int.reduceToNat, Int.reduceTMod] at h)) | ((first | refine st_op rfl rfl h ?_ | refine st_opn rfl h ?_); clear h a; (first | (show Does _ (.buildSlice _ _ _) _ _ _ _; (refine does_buildSlice hm rfl rfl rfl ?_; clear hm; intro b w hm; (try simp only [rep, List.replicate_succ, List.replicate_zero, List.flatten_cons, List.flatten_nil, List.cons_append, List.nil_append, Nat.zero_mul, Nat.one_mul, Nat.reduceMul, Value.cells, List.toList_toArray, List.set_cons_zero, List.set_cons_succ, splice, Nat.zero_add, Nat.reduceAdd, Nat.reduceMul, Int.reduceAdd, Int.reduceToNat, Nat.zero_mul, Nat.one_mul, Int.toNat_natCast] at hm))) | (show Does _ (.store _ _ _) _ _ _ _; ((refine zs hm rfl rfl rfl rfl rfl rfl ?_); clear hm; intro w hm; (try simp only [Value.cells, splice, nz, ns, Nat.reduceAdd, Nat.reduceMul, Int.reduceAdd, Int.reduceToNat] at hm))) | (show Does _ (.move _) _ _ _ _; refine does_move rfl ?_) | (show Does _ (.assign _) _ _ _ _; refine does_assign rfl ?_) | (show Does _ (.fieldAddr _ _ _) _ _ _ _; (refine does_fieldAddrL rfl ?_)) | (show Does _ (.load _ _) _ _ _ _; (first | refine zl hm rfl rfl ?_ | refine does_loadBA hm rfl (by assumption) rfl ?_)) | (show Does _ (.call _) _ _ _ _; refine does_lenS (SliceT.out) rfl ?_) | (show Does _ (.indexAddr _ _ _) _ _ _ _; (refine ziSn rfl rfl ?_))); intro a h; (try simp only [Value.cells, splice, nz, Nat.reduceAdd, Nat.reduceMul, Int.reduceAdd, Int.reduceToNat, Int.reduceTMod] at h)))
  replace hm := hm.toRow 0 (n := 0) (cap := 0) 3 rfl rfl (Nat.zero_le _)
  simp only [List.set_cons_zero] at hm
  refine c_loop (σ := Nat × Value) (fun s a w => s.1 ≤ xs[i].a.args.length ∧ Mem W0 [] (fun b => W0.heap[b]?) [.row s.2 181 3 ((emA (xs.map aN) ys xs[i].a s.1).map eInstruction).flatten, .blk b_7 (.cells (eN xs[i]).toArray 168), .blk b_3 (.cells [.slice (some q1) xs.length c, .slice q ys.length d].toArray 77)] w ∧
    Holds [(1, .slice pl (ys.map Prod.fst).length dl), (3, ptr0 b_3), (7, ptr0 b_7), (8, s.2), (18, .slice xs[i].ptr xs[i].a.args.length xs[i].cap), (19, .int .i64 xs[i].a.args.length), (20, .int .i64 s.1)] _ a) (fun s => xs[i].a.args.length - s.1) (0, _)
    ⟨Nat.zero_le _, by rw [emA_zero]; exact hm, h.keep ⟨rfl, rfl, rfl, rfl, rfl, rfl, rfl, trivial⟩⟩ ?_
  clear h hm
  rintro ⟨j, v1⟩ a w ⟨hj, hm, h⟩
  simp only at hj hm h
  have hle := emA_len_le (ns := xs.map aN) (ys := ys) (x := xs[i].a) j
  by_cases hlt : j < xs[i].a.args.length
  · obtain ⟨q2, hq2, hat2⟩ := hargs.at1 hlt
    obtain ⟨m, hm0, hmi⟩ := args_nn hv g2 (List.getElem_mem hlt)
    have hgj : xs[i].a.args[j]? = some (m : Int) := by rw [List.getElem?_eq_getElem hlt, hm0]
    have hsu := emA_succ (ns := xs.map aN) (ys := ys) hgj
    have hle1 := emA_len_le (ns := xs.map aN) (ys := ys) (x := xs[i].a) (j + 1)
    rw [hsu, List.length_append] at hle1
    have hfl := flat_len (enc := eInstruction) (sz := 3) (fun _ => rfl) (emA (xs.map aN) ys xs[i].a j)
    have hfm := flat_len (enc := eInstruction) (sz := 3) (fun _ => rfl) (em (xs.map aN) ys m)
    rw [hm0] at hat2
    rw [hq2] at h
    have hih := ih m hmi (by omega) (by omega)
    repeat' (first | refine c_seq ?_ | refine c_region ?_ | refine c_nil ?_ | refine k_then ?_ | refine c_skip ?_ | refine c_block ?_ | refine c_condT h rfl ?_ | ((refine st_op rfl rfl h ?_); clear h a; (first | (show Does _ (.move _) _ _ _ _; refine does_move rfl ?_) | (show Does _ (.assign _) _ _ _ _; refine does_assign rfl ?_) | (show Does _ (.load _ _) _ _ _ _; (first | refine za hm rfl rfl ?_ | refine does_loadB hm rfl (by assumption) rfl ?_)) | (show Does _ (.binOp _ _ _ _ _) _ _ _ _; (refine zlss rfl rfl ?_)) | (show Does _ (.indexAddr _ _ _) _ _ _ _; (refine ziS1 rfl rfl ?_))); intro a h; (try simp only [Value.cells, splice, nz, Nat.reduceAdd, Nat.reduceMul, Int.reduceAdd, Int.reduceToNat, Int.reduceTMod] at h)))
    refine st_op rfl rfl h ?_; clear h a; refine does_funN hm en127 rfl hih ⟨⟨hx.up hm, hy.up hm⟩, hl.up hm⟩ ?_; clear hm; intro v2 w hm a h
    obtain ⟨p3, c3, rfl, hcc3, hcm3⟩ := row_slice (i := 0) hm rfl (fun _ => rfl) (by omega)
    refine st_op rfl rfl h ?_; clear h a; refine does_appX 1 (n := (emA (xs.map aN) ys xs[i].a j).length) (news := ((em (xs.map aN) ys m).map eInstruction).flatten) hm rfl rfl rfl (by omega) hfl hfm (Sl.all (sz := 3) (fun _ => rfl) (by omega) (row_sl 0 hm rfl (fun _ => rfl) (by omega))) (ones_flat (fun _ => rfl) _) (by omega) (by simp only [maxLen]; omega) ?_; clear hm; intro p5 c5 w hc5 hc6 hm a h; simp only [List.set_cons_zero, List.set_cons_succ] at hm
    have e1 : ((emA (xs.map aN) ys xs[i].a j).map eInstruction).flatten ++ ((em (xs.map aN) ys m).map eInstruction).flatten = ((emA (xs.map aN) ys xs[i].a (j + 1)).map eInstruction).flatten := by rw [hsu]; simp
    rw [e1] at hm
    replace hm := hm.drop
    rw [← hq2] at h
    repeat' (first | refine c_region ?_ | refine c_nil ?_ | refine k_then ?_ | refine k_inN ?_ | ((refine st_op rfl rfl h ?_); clear h a; (first | (show Does _ (.move _) _ _ _ _; refine does_move rfl ?_) | (show Does _ (.assign _) _ _ _ _; refine does_assign rfl ?_) | (show Does _ (.binOp _ _ _ _ _) _ _ _ _; (refine zadd rfl rfl ?_))); intro a h; (try simp only [Value.cells, splice, nz, Nat.reduceAdd, Nat.reduceMul, Int.reduceAdd, Int.reduceToNat, Int.reduceTMod] at h)))
    exact k_thenN ⟨(j + 1, _), ⟨hlt, hm, h.keep ⟨rfl, rfl, rfl, rfl, rfl, rfl, rfl, trivial⟩⟩, by show xs[i].a.args.length - (j + 1) < xs[i].a.args.length - j; omega⟩
  · obtain rfl : j = xs[i].a.args.length := by omega
    have hfl := flat_len (enc := eInstruction) (sz := 3) (fun _ => rfl) (emA (xs.map aN) ys xs[i].a xs[i].a.args.length)
    have hend : ∀ y : TInstruction, emA (xs.map aN) ys xs[i].a xs[i].a.args.length ++ [y] = em (xs.map aN) ys i → ((emA (xs.map aN) ys xs[i].a xs[i].a.args.length).map eInstruction).flatten ++ eInstruction y = ((em (xs.map aN) ys i).map eInstruction).flatten := fun y e => by
      rw [← e]
      simp
    by_cases o1 : xs[i].a.op = 1
    · have hins : insOf ys xs[i].a = (1, ⟨#[]⟩, xs[i].a.num) := by simp only [insOf, if_pos o1]
      rw [hins] at hall
      repeat' (first | refine c_seq ?_ | refine c_region ?_ | refine c_nil ?_ | refine k_then ?_ | refine k_thenR ?_ | refine k_thenE ?_ | refine k_inR ?_ | refine k_inE ?_ | refine c_ret ?_ | refine c_exit ?_ | refine c_block ?_ | refine c_condT h rfl ?_ | refine c_condF h rfl ?_ | ((refine st_op rfl rfl h ?_); clear h a; (first | (show Does _ (.call _) _ _ _ _; (((refine does_appX 1 (n := (emA (xs.map aN) ys xs[i].a xs[i].a.args.length).length) (news := eInstruction (1, ⟨#[]⟩, xs[i].a.num)) hm rfl rfl rfl (by omega) hfl rfl (.inr ⟨_, rfl, at_own (i := 0) hm rfl (fun j v hv => (by rw [Nat.zero_add]; exact hv))⟩) (oneCells_mem rfl) (by omega) (by simp only [maxLen]; omega) ?_; clear hm; intro p5 c5 w hc5 hc6 hm; simp only [List.set_cons_zero, List.set_cons_succ] at hm)))) | (show Does _ (.buildSlice _ _ _) _ _ _ _; (refine does_buildSlice hm rfl rfl rfl ?_; clear hm; intro b w hm; (try simp only [rep, List.replicate_succ, List.replicate_zero, List.flatten_cons, List.flatten_nil, List.cons_append, List.nil_append, Nat.zero_mul, Nat.one_mul, Nat.reduceMul, Value.cells, List.toList_toArray, List.set_cons_zero, List.set_cons_succ, splice, Nat.zero_add, Nat.reduceAdd, Nat.reduceMul, Int.reduceAdd, Int.reduceToNat, Nat.zero_mul, Nat.one_mul, Int.toNat_natCast] at hm))) | (show Does _ (.move _) _ _ _ _; refine does_move rfl ?_) | (show Does _ (.assign _) _ _ _ _; refine does_assign rfl ?_) | (show Does _ (.fieldAddr _ _ _) _ _ _ _; (refine does_fieldAddrL rfl ?_)) | (show Does _ (.load _ _) _ _ _ _; (refine zl hm rfl rfl ?_)) | (show Does _ (.binOp _ _ _ _ _) _ _ _ _; (first | refine zlss rfl rfl ?_ | refine zeql rfl rfl ?_)) | (show Does _ (.build _ _) _ _ _ _; refine does_build rfl rfl ?_)); intro a h; (try simp only [Value.cells, splice, nz, Nat.reduceAdd, Nat.reduceMul, Int.reduceAdd, Int.reduceToNat, Int.reduceTMod] at h)))
      rw [hend _ hall] at hm
      exact k_ret1 rfl h rfl ⟨hm.below, row_new (i := 1) hm rfl⟩
    · by_cases o2 : xs[i].a.op = 2
      · have o3 : ¬ xs[i].a.op = 3 := by omega
        by_cases ov : isVar xs[i].a.name
        · have hins : insOf ys xs[i].a = (2, xs[i].a.name, 0) := by simp only [insOf, if_neg o1, if_neg o3, if_pos o2, if_pos ov]
          rw [hins] at hall
          repeat' (first | refine c_seq ?_ | refine c_region ?_ | refine c_nil ?_ | refine k_then ?_ | refine k_thenR ?_ | refine k_thenE ?_ | refine k_inR ?_ | refine k_inE ?_ | refine c_ret ?_ | refine c_exit ?_ | refine c_block ?_ | refine c_condT h rfl ?_ | refine c_condF h rfl ?_ | ((refine st_op rfl rfl h ?_); clear h a; (first | (show Does _ (.call _) _ _ _ _; (first | ((refine does_funM hm en202 rfl (sVar_y _ ov) ?_; clear hm; intro w hm)) | ((refine does_appX 1 (n := (emA (xs.map aN) ys xs[i].a xs[i].a.args.length).length) (news := eInstruction (2, xs[i].a.name, 0)) hm rfl rfl rfl (by omega) hfl rfl (.inr ⟨_, rfl, at_own (i := 0) hm rfl (fun j v hv => (by rw [Nat.zero_add]; exact hv))⟩) (oneCells_mem rfl) (by omega) (by simp only [maxLen]; omega) ?_; clear hm; intro p5 c5 w hc5 hc6 hm; simp only [List.set_cons_zero, List.set_cons_succ] at hm)))) | (show Does _ (.buildSlice _ _ _) _ _ _ _; (refine does_buildSlice hm rfl rfl rfl ?_; clear hm; intro b w hm; (try simp only [rep, List.replicate_succ, List.replicate_zero, List.flatten_cons, List.flatten_nil, List.cons_append, List.nil_append, Nat.zero_mul, Nat.one_mul, Nat.reduceMul, Value.cells, List.toList_toArray, List.set_cons_zero, List.set_cons_succ, splice, Nat.zero_add, Nat.reduceAdd, Nat.reduceMul, Int.reduceAdd, Int.reduceToNat, Nat.zero_mul, Nat.one_mul, Int.toNat_natCast] at hm))) | (show Does _ (.move _) _ _ _ _; refine does_move rfl ?_) | (show Does _ (.assign _) _ _ _ _; refine does_assign rfl ?_) | (show Does _ (.fieldAddr _ _ _) _ _ _ _; (refine does_fieldAddrL rfl ?_)) | (show Does _ (.load _ _) _ _ _ _; (refine zl hm rfl rfl ?_)) | (show Does _ (.binOp _ _ _ _ _) _ _ _ _; (first | refine zlss rfl rfl ?_ | refine zeql rfl rfl ?_)) | (show Does _ (.build _ _) _ _ _ _; refine does_build rfl rfl ?_)); intro a h; (try simp only [Value.cells, splice, nz, Nat.reduceAdd, Nat.reduceMul, Int.reduceAdd, Int.reduceToNat, Int.reduceTMod] at h)))
          rw [hend _ hall] at hm
          exact k_ret1 rfl h rfl ⟨hm.below, row_new (i := 1) hm rfl⟩
        · obtain ⟨v, hfv⟩ : ∃ v, firstA ys ys.length xs[i].a.name = some v := by
            rcases (ho.names i _ g2).1 o2 with e | ⟨k, hk, hb⟩
            · exact absurd e ov
            · obtain ⟨v, e, _⟩ := (firstA_lt ys _ _).2 hb
              exact ⟨v, e⟩
          have hloc := local_ok pl (ys.map Prod.fst) dl xs[i].a.name (by rw [List.length_map]; exact hys)
          rw [locI_first hfv] at hloc
          have hins : insOf ys xs[i].a = (3, ⟨#[]⟩, v) := by simp only [insOf, if_neg o1, if_neg o3, if_pos o2, if_neg ov, hfv, Option.getD_some]
          rw [hins] at hall
          repeat' (first | refine c_seq ?_ | refine c_region ?_ | refine c_nil ?_ | refine k_then ?_ | refine k_thenR ?_ | refine k_thenE ?_ | refine k_inR ?_ | refine k_inE ?_ | refine c_skip ?_ | refine c_ret ?_ | refine c_exit ?_ | refine c_block ?_ | refine c_condT h rfl ?_ | refine c_condF h rfl ?_ | ((refine st_op rfl rfl h ?_); clear h a; (first | (show Does _ (.call _) _ _ _ _; (first | ((refine does_funM hm en202 rfl (sVar_n _ ov) ?_; clear hm; intro w hm)) | ((refine does_funP hm en204 rfl hloc (hl.up hm) ?_; clear hm; intro w hm)) | ((refine does_appX 1 (n := (emA (xs.map aN) ys xs[i].a xs[i].a.args.length).length) (news := eInstruction (3, ⟨#[]⟩, v)) hm rfl rfl rfl (by omega) hfl rfl (.inr ⟨_, rfl, at_own (i := 0) hm rfl (fun j v hv => (by rw [Nat.zero_add]; exact hv))⟩) (oneCells_mem rfl) (by omega) (by simp only [maxLen]; omega) ?_; clear hm; intro p5 c5 w hc5 hc6 hm; simp only [List.set_cons_zero, List.set_cons_succ] at hm)))) | (show Does _ (.buildSlice _ _ _) _ _ _ _; (refine does_buildSlice hm rfl rfl rfl ?_; clear hm; intro b w hm; (try simp only [rep, List.replicate_succ, List.replicate_zero, List.flatten_cons, List.flatten_nil, List.cons_append, List.nil_append, Nat.zero_mul, Nat.one_mul, Nat.reduceMul, Value.cells, List.toList_toArray, List.set_cons_zero, List.set_cons_succ, splice, Nat.zero_add, Nat.reduceAdd, Nat.reduceMul, Int.reduceAdd, Int.reduceToNat, Nat.zero_mul, Nat.one_mul, Int.toNat_natCast] at hm))) | (show Does _ (.move _) _ _ _ _; refine does_move rfl ?_) | (show Does _ (.assign _) _ _ _ _; refine does_assign rfl ?_) | (show Does _ (.fieldAddr _ _ _) _ _ _ _; (refine does_fieldAddrL rfl ?_)) | (show Does _ (.load _ _) _ _ _ _; (refine zl hm rfl rfl ?_)) | (show Does _ (.binOp _ _ _ _ _) _ _ _ _; (first | refine zlss rfl rfl ?_ | refine zeql rfl rfl ?_)) | (show Does _ (.build _ _) _ _ _ _; refine does_build rfl rfl ?_)); intro a h; (try simp only [Value.cells, splice, nz, Nat.reduceAdd, Nat.reduceMul, Int.reduceAdd, Int.reduceToNat, Int.reduceTMod] at h)))
          rw [hend _ hall] at hm
          exact k_ret1 rfl h rfl ⟨hm.below, row_new (i := 1) hm rfl⟩
      · by_cases o8 : xs[i].a.op = 8
        · have o3 : ¬ xs[i].a.op = 3 := by omega
          have hins : insOf ys xs[i].a = (7, xs[i].a.name, 0) := by simp only [insOf, if_neg o1, if_neg o3, if_neg o2, if_pos o8]
          rw [hins] at hall
          repeat' (first | refine c_seq ?_ | refine c_region ?_ | refine c_nil ?_ | refine k_then ?_ | refine k_thenR ?_ | refine k_thenE ?_ | refine k_inR ?_ | refine k_inE ?_ | refine c_ret ?_ | refine c_exit ?_ | refine c_block ?_ | refine c_condT h rfl ?_ | refine c_condF h rfl ?_ | ((refine st_op rfl rfl h ?_); clear h a; (first | (show Does _ (.call _) _ _ _ _; (((refine does_appX 1 (n := (emA (xs.map aN) ys xs[i].a xs[i].a.args.length).length) (news := eInstruction (7, xs[i].a.name, 0)) hm rfl rfl rfl (by omega) hfl rfl (.inr ⟨_, rfl, at_own (i := 0) hm rfl (fun j v hv => (by rw [Nat.zero_add]; exact hv))⟩) (oneCells_mem rfl) (by omega) (by simp only [maxLen]; omega) ?_; clear hm; intro p5 c5 w hc5 hc6 hm; simp only [List.set_cons_zero, List.set_cons_succ] at hm)))) | (show Does _ (.buildSlice _ _ _) _ _ _ _; (refine does_buildSlice hm rfl rfl rfl ?_; clear hm; intro b w hm; (try simp only [rep, List.replicate_succ, List.replicate_zero, List.flatten_cons, List.flatten_nil, List.cons_append, List.nil_append, Nat.zero_mul, Nat.one_mul, Nat.reduceMul, Value.cells, List.toList_toArray, List.set_cons_zero, List.set_cons_succ, splice, Nat.zero_add, Nat.reduceAdd, Nat.reduceMul, Int.reduceAdd, Int.reduceToNat, Nat.zero_mul, Nat.one_mul, Int.toNat_natCast] at hm))) | (show Does _ (.move _) _ _ _ _; refine does_move rfl ?_) | (show Does _ (.assign _) _ _ _ _; refine does_assign rfl ?_) | (show Does _ (.fieldAddr _ _ _) _ _ _ _; (refine does_fieldAddrL rfl ?_)) | (show Does _ (.load _ _) _ _ _ _; (refine zl hm rfl rfl ?_)) | (show Does _ (.binOp _ _ _ _ _) _ _ _ _; (first | refine zlss rfl rfl ?_ | refine zeql rfl rfl ?_)) | (show Does _ (.build _ _) _ _ _ _; refine does_build rfl rfl ?_)); intro a h; (try simp only [Value.cells, splice, nz, Nat.reduceAdd, Nat.reduceMul, Int.reduceAdd, Int.reduceToNat, Int.reduceTMod] at h)))
          rw [hend _ hall] at hm
          exact k_ret1 rfl h rfl ⟨hm.below, row_new (i := 1) hm rfl⟩
        · by_cases o3 : xs[i].a.op = 3
          · have hins : insOf ys xs[i].a = (5, ⟨#[]⟩, xs[i].a.op) := by rw [o3]; simp only [insOf, if_neg o1, if_pos o3]
            rw [hins] at hall
            repeat' (first | refine c_seq ?_ | refine c_region ?_ | refine c_nil ?_ | refine k_then ?_ | refine k_thenR ?_ | refine k_thenE ?_ | refine k_inR ?_ | refine k_inE ?_ | refine c_ret ?_ | refine c_exit ?_ | refine c_block ?_ | refine c_condT h rfl ?_ | refine c_condF h rfl ?_ | ((refine st_op rfl rfl h ?_); clear h a; (first | (show Does _ (.call _) _ _ _ _; (((refine does_appX 1 (n := (emA (xs.map aN) ys xs[i].a xs[i].a.args.length).length) (news := eInstruction (5, ⟨#[]⟩, xs[i].a.op)) hm rfl rfl rfl (by omega) hfl rfl (.inr ⟨_, rfl, at_own (i := 0) hm rfl (fun j v hv => (by rw [Nat.zero_add]; exact hv))⟩) (oneCells_mem rfl) (by omega) (by simp only [maxLen]; omega) ?_; clear hm; intro p5 c5 w hc5 hc6 hm; simp only [List.set_cons_zero, List.set_cons_succ] at hm)))) | (show Does _ (.buildSlice _ _ _) _ _ _ _; (refine does_buildSlice hm rfl rfl rfl ?_; clear hm; intro b w hm; (try simp only [rep, List.replicate_succ, List.replicate_zero, List.flatten_cons, List.flatten_nil, List.cons_append, List.nil_append, Nat.zero_mul, Nat.one_mul, Nat.reduceMul, Value.cells, List.toList_toArray, List.set_cons_zero, List.set_cons_succ, splice, Nat.zero_add, Nat.reduceAdd, Nat.reduceMul, Int.reduceAdd, Int.reduceToNat, Nat.zero_mul, Nat.one_mul, Int.toNat_natCast] at hm))) | (show Does _ (.move _) _ _ _ _; refine does_move rfl ?_) | (show Does _ (.assign _) _ _ _ _; refine does_assign rfl ?_) | (show Does _ (.fieldAddr _ _ _) _ _ _ _; (refine does_fieldAddrL rfl ?_)) | (show Does _ (.load _ _) _ _ _ _; (refine zl hm rfl rfl ?_)) | (show Does _ (.binOp _ _ _ _ _) _ _ _ _; (first | refine zlss rfl rfl ?_ | refine zeql rfl rfl ?_)) | (show Does _ (.build _ _) _ _ _ _; refine does_build rfl rfl ?_)); intro a h; (try simp only [Value.cells, splice, nz, Nat.reduceAdd, Nat.reduceMul, Int.reduceAdd, Int.reduceToNat, Int.reduceTMod] at h)))
            rw [hend _ hall] at hm
            exact k_ret1 rfl h rfl ⟨hm.below, row_new (i := 1) hm rfl⟩
          · have hins : insOf ys xs[i].a = (6, ⟨#[]⟩, xs[i].a.op) := by simp only [insOf, if_neg o1, if_neg o3, if_neg o2, if_neg o8]
            rw [hins] at hall
            repeat' (first | refine c_seq ?_ | refine c_region ?_ | refine c_nil ?_ | refine k_then ?_ | refine k_thenE ?_ | refine k_inN ?_ | refine k_inE ?_ | refine c_skip ?_ | refine c_ret ?_ | refine c_exit ?_ | refine c_block ?_ | refine c_condF h rfl ?_ | ((refine st_op rfl rfl h ?_); clear h a; (first | (show Does _ (.call _) _ _ _ _; (((refine does_appX 1 (n := (emA (xs.map aN) ys xs[i].a xs[i].a.args.length).length) (news := eInstruction (6, ⟨#[]⟩, xs[i].a.op)) hm rfl rfl rfl (by omega) hfl rfl (.inr ⟨_, rfl, at_own (i := 0) hm rfl (fun j v hv => (by rw [Nat.zero_add]; exact hv))⟩) (oneCells_mem rfl) (by omega) (by simp only [maxLen]; omega) ?_; clear hm; intro p5 c5 w hc5 hc6 hm; simp only [List.set_cons_zero, List.set_cons_succ] at hm)))) | (show Does _ (.buildSlice _ _ _) _ _ _ _; (refine does_buildSlice hm rfl rfl rfl ?_; clear hm; intro b w hm; (try simp only [rep, List.replicate_succ, List.replicate_zero, List.flatten_cons, List.flatten_nil, List.cons_append, List.nil_append, Nat.zero_mul, Nat.one_mul, Nat.reduceMul, Value.cells, List.toList_toArray, List.set_cons_zero, List.set_cons_succ, splice, Nat.zero_add, Nat.reduceAdd, Nat.reduceMul, Int.reduceAdd, Int.reduceToNat, Nat.zero_mul, Nat.one_mul, Int.toNat_natCast] at hm))) | (show Does _ (.move _) _ _ _ _; refine does_move rfl ?_) | (show Does _ (.assign _) _ _ _ _; refine does_assign rfl ?_) | (show Does _ (.fieldAddr _ _ _) _ _ _ _; (refine does_fieldAddrL rfl ?_)) | (show Does _ (.load _ _) _ _ _ _; (refine zl hm rfl rfl ?_)) | (show Does _ (.binOp _ _ _ _ _) _ _ _ _; (first | refine zlss rfl rfl ?_ | refine zeql rfl rfl ?_)) | (show Does _ (.build _ _) _ _ _ _; refine does_build rfl rfl ?_)); intro a h; (try simp only [Value.cells, splice, nz, Nat.reduceAdd, Nat.reduceMul, Int.reduceAdd, Int.reduceToNat, Int.reduceTMod] at h)))
            rw [hend _ hall] at hm
            exact k_ret1 rfl h rfl ⟨hm.below, row_new (i := 1) hm rfl⟩
end Go.Proofs.Ytgoimincdbbafaa.St
