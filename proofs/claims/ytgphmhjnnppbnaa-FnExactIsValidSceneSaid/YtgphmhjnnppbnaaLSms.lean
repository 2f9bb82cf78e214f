/-
  The reference's comparison of programs.
-/
import Derived.Test.YtgphmhjnnppbnaaLSme
set_option linter.unusedSimpArgs false
set_option linter.unusedVariables false
namespace Go.Proofs.Ytgphmhjnnppbnaa.St
open Go.RowKit
set_option maxHeartbeats 8000000 in
theorem sSameProgram_ok (x y : TProg) (hx : smP x) (hy : smP y) : FunP Try.prog 96 [.agg (eP x).toArray, .agg (eP y).toArray] (fun H => ProgH H x.p x.q x.xs x.ys ∧ ProgH H y.p y.q y.xs y.ys) (.bool (dB (aP x = aP y))) := by
  obtain ⟨⟨hx1, hx2⟩, hx3⟩ := hx
  obtain ⟨⟨hy1, hy2⟩, hy3⟩ := hy
  refine enterFunP Try.func96 rfl Try.ntmps96 rfl (fun W0 w a hp hm h => ?_)
  obtain ⟨⟨n1, s1⟩, n2, s2⟩ := hp
  repeat' (first | refine c_seq ?_ | refine c_region ?_ | refine c_nil ?_ | refine k_then ?_ | refine k_thenR ?_ | refine c_skip ?_ | refine c_ret ?_ | refine c_block ?_ | refine c_condT h rfl ?_ | (refine st_op (d := 2) rfl rfl h ?_; refine does_box hm rfl rfl ?_; clear h a hm; intro b_2 w hm a h; (try simp only [Value.cells, List.toList_toArray, splice, List.set_cons_zero, List.set_cons_succ, List.drop_zero, List.drop_succ_cons, List.take_succ_cons, List.take_zero, Nat.zero_add, Nat.reduceAdd, Nat.reduceMul, Int.reduceAdd, Int.reduceToNat, Int.reduceTMod, Nat.zero_mul, Nat.one_mul, Int.toNat_natCast] at h)) | (refine st_op (d := 3) rfl rfl h ?_; refine does_box hm rfl rfl ?_; clear h a hm; intro b_3 w hm a h; (try simp only [Value.cells, List.toList_toArray, splice, List.set_cons_zero, List.set_cons_succ, List.drop_zero, List.drop_succ_cons, List.take_succ_cons, List.take_zero, Nat.zero_add, Nat.reduceAdd, Nat.reduceMul, Int.reduceAdd, Int.reduceToNat, Int.reduceTMod, Nat.zero_mul, Nat.one_mul, Int.toNat_natCast] at h)) | ((refine st_op rfl rfl h ?_); clear h a; (first | refine does_move rfl ?_ | refine does_assign rfl ?_ | refine does_pickT rfl rfl ?_ | refine does_pickF rfl rfl ?_ | refine does_fieldAddrL rfl ?_ | refine does_loadO 0 hm rfl rfl rfl ?_ | refine does_loadO 1 hm rfl rfl rfl ?_ | refine does_neq rfl rfl ?_ | refine does_lenS (SliceT.out) rfl ?_); intro a h; (try simp only [Value.cells, List.toList_toArray, splice, List.set_cons_zero, List.set_cons_succ, List.drop_zero, List.drop_succ_cons, List.take_succ_cons, List.take_zero, Nat.zero_add, Nat.reduceAdd, Nat.reduceMul, Int.reduceAdd, Int.reduceToNat, Int.reduceTMod, Nat.zero_mul, Nat.one_mul, Int.toNat_natCast] at h)) | ((refine st_skip rfl rfl h ?_); clear h a; intro a h) | ((refine c_condD h rfl ?_ ?_) <;> intro hc <;> (try (fail))) | (refine st_guardD rfl rfl h ?_ ?_ <;> clear h <;> intro hc h))
  all_goals first | ((refine k_ret1 rfl h rfl ⟨?_, hm.below⟩); exact boolF (fun e => by have e1 := congrArg (fun z => z.1.length) e; have e2 := congrArg (fun z => z.2.length) e; simp only [aP, List.length_map] at e1 e2; omega)) | skip
  have hl1 : x.xs.length = y.xs.length := by omega
  have hl2 : x.ys.length = y.ys.length := by omega
  clear hc
  refine c_loop (σ := Nat) (fun k a w => k ≤ x.xs.length ∧ (∀ i, i < k → (x.xs.map aN)[i]? = (y.xs.map aN)[i]?) ∧ Mem W0 [] (fun b => W0.heap[b]?) [.blk b_3 (.cells (eP y).toArray 78), .blk b_2 (.cells (eP x).toArray 78)] w ∧
    Holds [(2, .pointer (some ⟨b_2, 0, none⟩)), (3, .pointer (some ⟨b_3, 0, none⟩)), (29, .slice x.p x.xs.length x.c), (30, .int .i64 x.xs.length), (31, .int .i64 k)] _ a) (fun k => x.xs.length - k) 0
    ⟨Nat.zero_le _, fun i hi => absurd hi (Nat.not_lt_zero _), hm, h.keep ⟨rfl, rfl, rfl, rfl, rfl, trivial⟩⟩ ?_
  clear h hm
  rintro k a w ⟨hk, hpre, hm, h⟩
  by_cases hlt : k < x.xs.length
  · have hlt2 : k < y.xs.length := by omega
    obtain ⟨q1, hq1, hat1⟩ := n1.row.at hlt
    obtain ⟨q2, hq2, hat2⟩ := n2.row.at hlt2
    have g1 : x.xs[k]? = some x.xs[k] := List.getElem?_eq_getElem hlt
    have g2 : y.xs[k]? = some y.xs[k] := List.getElem?_eq_getElem hlt2
    have hs1 : x.xs[k].a.args.length ≤ 1048576 := hx2 _ (List.getElem_mem hlt)
    have hs2 : y.xs[k].a.args.length ≤ 1048576 := hy2 _ (List.getElem_mem hlt2)
    have ha1 := n1.args _ (List.getElem_mem hlt)
    have ha2 := n2.args _ (List.getElem_mem hlt2)
    rw [hq1] at h
    simp only [eP, hq1, hq2] at hm
    repeat' (first | refine c_seq ?_ | refine c_region ?_ | refine c_nil ?_ | refine k_then ?_ | refine k_thenR ?_ | refine k_inR ?_ | refine c_skip ?_ | refine c_ret ?_ | refine c_block ?_ | refine c_condT h rfl ?_ | (refine st_op (d := 6) rfl rfl h ?_; refine does_alloc hm ?_; clear h a hm; intro b_6 w hm a h; (try simp only [Value.cells, List.toList_toArray, splice, List.set_cons_zero, List.set_cons_succ, List.drop_zero, List.drop_succ_cons, List.take_succ_cons, List.take_zero, Nat.zero_add, Nat.reduceAdd, Nat.reduceMul, Int.reduceAdd, Int.reduceToNat, Int.reduceTMod, Nat.zero_mul, Nat.one_mul, Int.toNat_natCast] at h)) | (refine st_op (d := 7) rfl rfl h ?_; refine does_alloc hm ?_; clear h a hm; intro b_7 w hm a h; (try simp only [Value.cells, List.toList_toArray, splice, List.set_cons_zero, List.set_cons_succ, List.drop_zero, List.drop_succ_cons, List.take_succ_cons, List.take_zero, Nat.zero_add, Nat.reduceAdd, Nat.reduceMul, Int.reduceAdd, Int.reduceToNat, Int.reduceTMod, Nat.zero_mul, Nat.one_mul, Int.toNat_natCast] at h)) | ((first | refine st_op rfl rfl h ?_ | refine st_opn rfl h ?_); clear h a; (first | (refine does_storeO 0 hm rfl rfl rfl rfl rfl rfl rfl ?_; clear hm; intro w hm; (try simp only [Value.cells, List.toList_toArray, List.set_cons_zero, List.set_cons_succ, splice, Nat.zero_add, Nat.reduceAdd, Nat.reduceMul, Int.reduceAdd, Int.reduceToNat, Nat.zero_mul, Nat.one_mul, Int.toNat_natCast] at hm)) | refine does_move rfl ?_ | refine does_assign rfl ?_ | refine does_pickT rfl rfl ?_ | refine does_pickF rfl rfl ?_ | refine does_fieldAddrL rfl ?_ | refine does_loadO 0 hm rfl rfl rfl ?_ | refine does_loadO 1 hm rfl rfl rfl ?_ | refine does_loadBA hm rfl (by assumption) rfl ?_ | refine does_lssT rfl rfl (by omega) ?_ | refine does_neq rfl rfl ?_ | refine does_neqStr rfl rfl ?_ | refine does_lenS (SliceT.out) rfl ?_ | refine does_indexSn (by omega) rfl rfl ?_); intro a h; (try simp only [Value.cells, List.toList_toArray, splice, List.set_cons_zero, List.set_cons_succ, List.drop_zero, List.drop_succ_cons, List.take_succ_cons, List.take_zero, Nat.zero_add, Nat.reduceAdd, Nat.reduceMul, Int.reduceAdd, Int.reduceToNat, Int.reduceTMod, Nat.zero_mul, Nat.one_mul, Int.toNat_natCast] at h)) | ((refine st_skip rfl rfl h ?_); clear h a; intro a h) | ((refine c_condD h rfl ?_ ?_) <;> intro hc <;> (try (fail))) | (refine st_guardD rfl rfl h ?_ ?_ <;> clear h <;> intro hc h))
    all_goals first | ((refine k_ret1 rfl h rfl ⟨?_, hm.below⟩); exact boolF (fun e => by obtain ⟨a1, a2, a3, a4⟩ := (PNode.eq_iff _ _).1 (map_eq_get aN (Prod.mk.inj e).1 g1 g2); have a5 : x.xs[k].a.args.length = y.xs[k].a.args.length := congrArg List.length a4; first | exact hc a1 | exact hc a2 | exact hc a3 | omega)) | skip
    have e1 : x.xs[k].a.op = y.xs[k].a.op := by omega
    have e2 : x.xs[k].a.name = y.xs[k].a.name := Classical.not_not.1 (by assumption)
    have e3 : x.xs[k].a.num = y.xs[k].a.num := by omega
    have e4 : x.xs[k].a.args.length = y.xs[k].a.args.length := by omega
    clear hc
    refine c_loop (σ := Nat) (fun j a w => j ≤ x.xs[k].a.args.length ∧ (∀ i, i < j → x.xs[k].a.args[i]? = y.xs[k].a.args[i]?) ∧ Mem W0 [] (fun b => W0.heap[b]?) [.blk b_7 (.cells (eN y.xs[k]).toArray 190), .blk b_6 (.cells (eN x.xs[k]).toArray 190), .blk b_3 (.cells [.slice (some q2) y.xs.length y.c, .slice y.q y.ys.length y.d].toArray 78), .blk b_2 (.cells [.slice (some q1) x.xs.length x.c, .slice x.q x.ys.length x.d].toArray 78)] w ∧
      Holds [(2, .pointer (some ⟨b_2, 0, none⟩)), (3, .pointer (some ⟨b_3, 0, none⟩)), (6, .pointer (some ⟨b_6, 0, none⟩)), (7, .pointer (some ⟨b_7, 0, none⟩)), (29, .slice (some q1) x.xs.length x.c), (30, .int .i64 x.xs.length), (31, .int .i64 k), (70, .slice x.xs[k].ptr x.xs[k].a.args.length x.xs[k].cap), (71, .int .i64 x.xs[k].a.args.length), (72, .int .i64 j)] _ a) (fun j => x.xs[k].a.args.length - j) 0
      ⟨Nat.zero_le _, fun i hi => absurd hi (Nat.not_lt_zero _), hm, h.keep ⟨rfl, rfl, rfl, rfl, rfl, rfl, rfl, rfl, rfl, rfl, trivial⟩⟩ ?_
    clear h hm
    rintro j a w ⟨hj, hpj, hm, h⟩
    by_cases hjl : j < x.xs[k].a.args.length
    · have hjl2 : j < y.xs[k].a.args.length := by omega
      obtain ⟨r1, hr1, hbt1⟩ := ha1.at1 hjl
      obtain ⟨r2, hr2, hbt2⟩ := ha2.at1 hjl2
      have f1 : x.xs[k].a.args[j]? = some (x.xs[k].a.args[j]) := List.getElem?_eq_getElem hjl
      have f2 : y.xs[k].a.args[j]? = some (y.xs[k].a.args[j]) := List.getElem?_eq_getElem hjl2
      simp only [eN, hr1, hr2] at hm
      rw [hr1] at h
      repeat' (first | refine c_seq ?_ | refine c_region ?_ | refine c_nil ?_ | refine k_then ?_ | refine k_thenR ?_ | refine k_inN ?_ | refine k_inR ?_ | refine c_skip ?_ | refine c_ret ?_ | refine c_block ?_ | refine c_condT h rfl ?_ | ((refine st_op rfl rfl h ?_); clear h a; (first | refine does_move rfl ?_ | refine does_assign rfl ?_ | refine does_fieldAddrL rfl ?_ | refine does_loadO 0 hm rfl rfl rfl ?_ | refine does_loadB hm rfl (by assumption) rfl ?_ | refine does_lssT rfl rfl (by omega) ?_ | refine does_neq rfl rfl ?_ | refine does_add rfl rfl (by omega) ?_ | refine does_indexS1 (by omega) rfl rfl ?_); intro a h; (try simp only [Value.cells, List.toList_toArray, splice, List.set_cons_zero, List.set_cons_succ, List.drop_zero, List.drop_succ_cons, List.take_succ_cons, List.take_zero, Nat.zero_add, Nat.reduceAdd, Nat.reduceMul, Int.reduceAdd, Int.reduceToNat, Int.reduceTMod, Nat.zero_mul, Nat.one_mul, Int.toNat_natCast] at h)) | ((refine c_condD h rfl ?_ ?_) <;> intro hc <;> (try (fail))))
      · (refine k_ret1 rfl h rfl ⟨?_, hm.below⟩)
        exact boolF (fun e => by
          have a0 := map_eq_get aN (Prod.mk.inj e).1 g1 g2
          have a4 := congrArg (fun z => z.args[j]?) a0
          simp only [f1, f2, aN, Option.some.injEq] at a4
          exact hc a4)
      · refine k_thenN ⟨j + 1, ⟨by omega, fun i hi => ?_, by simp only [eN, hr1, hr2]; exact hm, by rw [hr1]; exact h.keep ⟨rfl, rfl, rfl, rfl, rfl, rfl, rfl, rfl, rfl, rfl, trivial⟩⟩, by omega⟩
        by_cases hik : i < j
        · exact hpj i hik
        · obtain rfl : i = j := by omega
          rw [f1, f2, Classical.not_not.1 hc]
    · have e5 : x.xs[k].a.args = y.xs[k].a.args := eq_upto e4 hjl hpj
      repeat' (first | refine c_seq ?_ | refine c_region ?_ | refine c_nil ?_ | refine k_then ?_ | refine k_thenE ?_ | refine k_inN ?_ | refine k_inE ?_ | refine c_exit ?_ | refine c_condF h rfl ?_ | ((refine st_op rfl rfl h ?_); clear h a; (first | refine does_move rfl ?_ | refine does_lssF rfl rfl (by omega) ?_ | refine does_add rfl rfl (by omega) ?_); intro a h; (try simp only [Value.cells, List.toList_toArray, splice, List.set_cons_zero, List.set_cons_succ, List.drop_zero, List.drop_succ_cons, List.take_succ_cons, List.take_zero, Nat.zero_add, Nat.reduceAdd, Nat.reduceMul, Int.reduceAdd, Int.reduceToNat, Int.reduceTMod, Nat.zero_mul, Nat.one_mul, Int.toNat_natCast] at h)))
      refine k_thenN ⟨k + 1, ⟨by omega, fun i hi => ?_, by simp only [eP, hq1, hq2]; exact hm.drop.drop, by rw [hq1]; exact h.keep ⟨rfl, rfl, rfl, rfl, rfl, trivial⟩⟩, by omega⟩
      by_cases hik : i < k
      · exact hpre i hik
      · obtain rfl : i = k := by omega
        exact (map_get_iff aN g1 g2).2 ((PNode.eq_iff _ _).2 ⟨e1, e2, e3, e5⟩)
  · have hN : x.xs.map aN = y.xs.map aN := map_eq_upto aN hl1 hlt hpre
    clear hpre
    repeat' (first | refine c_seq ?_ | refine c_region ?_ | refine c_nil ?_ | refine k_then ?_ | refine k_thenE ?_ | refine k_inE ?_ | refine c_exit ?_ | refine c_block ?_ | refine c_condF h rfl ?_ | ((refine st_op rfl rfl h ?_); clear h a; (first | refine does_move rfl ?_ | refine does_fieldAddrL rfl ?_ | refine does_loadO 1 hm rfl rfl rfl ?_ | refine does_lssF rfl rfl (by omega) ?_ | refine does_lenS (SliceT.out) rfl ?_); intro a h; (try simp only [Value.cells, List.toList_toArray, splice, List.set_cons_zero, List.set_cons_succ, List.drop_zero, List.drop_succ_cons, List.take_succ_cons, List.take_zero, Nat.zero_add, Nat.reduceAdd, Nat.reduceMul, Int.reduceAdd, Int.reduceToNat, Int.reduceTMod, Nat.zero_mul, Nat.one_mul, Int.toNat_natCast] at h)))
    refine c_loop (σ := Nat) (fun k a w => k ≤ x.ys.length ∧ (∀ i, i < k → x.ys[i]? = y.ys[i]?) ∧ Mem W0 [] (fun b => W0.heap[b]?) [.blk b_3 (.cells (eP y).toArray 78), .blk b_2 (.cells (eP x).toArray 78)] w ∧
      Holds [(3, .pointer (some ⟨b_3, 0, none⟩)), (87, .slice x.q x.ys.length x.d), (88, .int .i64 x.ys.length), (89, .int .i64 k)] _ a) (fun k => x.ys.length - k) 0
      ⟨Nat.zero_le _, fun i hi => absurd hi (Nat.not_lt_zero _), hm, h.keep ⟨rfl, rfl, rfl, rfl, trivial⟩⟩ ?_
    clear h hm hlt hk k
    rintro k a w ⟨hk, hpre, hm, h⟩
    by_cases hlt : k < x.ys.length
    · have hlt2 : k < y.ys.length := by omega
      obtain ⟨q1, hq1, hat1⟩ := s1.at hlt
      obtain ⟨q2, hq2, hat2⟩ := s2.at hlt2
      have g1 : x.ys[k]? = some x.ys[k] := List.getElem?_eq_getElem hlt
      have g2 : y.ys[k]? = some y.ys[k] := List.getElem?_eq_getElem hlt2
      rw [hq1] at h
      simp only [eP, hq1, hq2] at hm
      repeat' (first | refine c_seq ?_ | refine c_region ?_ | refine c_nil ?_ | refine k_then ?_ | refine k_thenR ?_ | refine k_inN ?_ | refine k_inR ?_ | refine c_skip ?_ | refine c_ret ?_ | refine c_block ?_ | refine c_condT h rfl ?_ | (refine st_op (d := 11) rfl rfl h ?_; refine does_alloc hm ?_; clear h a hm; intro b_11 w hm a h; (try simp only [Value.cells, List.toList_toArray, splice, List.set_cons_zero, List.set_cons_succ, List.drop_zero, List.drop_succ_cons, List.take_succ_cons, List.take_zero, Nat.zero_add, Nat.reduceAdd, Nat.reduceMul, Int.reduceAdd, Int.reduceToNat, Int.reduceTMod, Nat.zero_mul, Nat.one_mul, Int.toNat_natCast] at h)) | ((first | refine st_op rfl rfl h ?_ | refine st_opn rfl h ?_); clear h a; (first | (refine does_storeO 0 hm rfl rfl rfl rfl rfl rfl rfl ?_; clear hm; intro w hm; (try simp only [Value.cells, List.toList_toArray, List.set_cons_zero, List.set_cons_succ, splice, Nat.zero_add, Nat.reduceAdd, Nat.reduceMul, Int.reduceAdd, Int.reduceToNat, Nat.zero_mul, Nat.one_mul, Int.toNat_natCast] at hm)) | refine does_move rfl ?_ | refine does_assign rfl ?_ | refine does_loadBA hm rfl (by assumption) rfl ?_ | refine does_lssT rfl rfl (by omega) ?_ | refine does_add rfl rfl (by omega) ?_ | refine does_indexSn (by omega) rfl rfl ?_); intro a h; (try simp only [Value.cells, List.toList_toArray, splice, List.set_cons_zero, List.set_cons_succ, List.drop_zero, List.drop_succ_cons, List.take_succ_cons, List.take_zero, Nat.zero_add, Nat.reduceAdd, Nat.reduceMul, Int.reduceAdd, Int.reduceToNat, Int.reduceTMod, Nat.zero_mul, Nat.one_mul, Int.toNat_natCast] at h)) | (apply c_drawM (id := 19) 7 [.val _, .val _, .val _, .val _, .val _, .val _, .val _] mixed (by kernel_rfl) (h := h) (hm := hm); (case vcs => (repeat' (first | exact vcs_nil | refine vcs_cons ?_ ?_ | (intro w hm; (repeat (first | refine dep_val ?_ | refine dep_nil ?_)); first | exact vc_skip rfl | exact vc_alloc rfl | exact vc_box rfl rfl rfl | exact vc_buildSlice rfl rfl rfl rfl | exact vc_makeSlice (by omega) (by omega) rfl rfl rfl | exact vc_store rfl rfl rfl rfl rfl rfl rfl rfl rfl rfl | (apply vc_run rfl; (first | refine does_move rfl ?_ | refine does_fieldAddrL rfl ?_ | refine does_loadO 1 hm rfl rfl rfl ?_ | refine does_loadOA 0 hm rfl rfl rfl ?_ | refine does_loadBA hm rfl (by assumption) rfl ?_ | refine does_neqA rfl rfl rfl rfl ?_ | refine does_indexSn (by omega) rfl rfl ?_); (exact ⟨ext_refl _, rfl⟩)))))); (case hup => kernel_rfl); (case hown => kernel_rfl); (case hnp => kernel_rfl); clear h hm a; intro  w hm; (try simp only [List.map_nil, List.nil_append] at hm); (repeat (first | refine dep_val ?_ | refine dep_nil ?_)); intro a h; (try simp only [Value.cells, List.toList_toArray, splice, List.set_cons_zero, List.set_cons_succ, List.drop_zero, List.drop_succ_cons, List.take_succ_cons, List.take_zero, Nat.zero_add, Nat.reduceAdd, Nat.reduceMul, Int.reduceAdd, Int.reduceToNat, Int.reduceTMod, Nat.zero_mul, Nat.one_mul, Int.toNat_natCast] at h)) | ((refine c_condD h rfl ?_ ?_) <;> intro hc <;> (try (fail))))
      · (refine k_ret1 rfl h rfl ⟨?_, hm.below⟩)
        exact boolF (fun e => by
          have a4 := congrArg (fun z => z.2[k]?) e
          simp only [aP, g1, g2, Option.some.injEq] at a4
          exact hc (by rw [a4]))
      · refine k_thenN ⟨k + 1, ⟨by omega, fun i hi => ?_, by simp only [eP, hq1, hq2]; exact hm.drop, by rw [hq1]; exact h.keep ⟨rfl, rfl, rfl, rfl, trivial⟩⟩, by omega⟩
        by_cases hik : i < k
        · exact hpre i hik
        · obtain rfl : i = k := by omega
          rw [g1, g2, eAssignment_inj (Classical.not_not.1 hc)]
    · repeat' (first | refine c_seq ?_ | refine c_region ?_ | refine c_nil ?_ | refine k_then ?_ | refine k_thenE ?_ | refine k_inE ?_ | refine c_ret ?_ | refine c_exit ?_ | refine c_condF h rfl ?_ | ((refine st_op rfl rfl h ?_); clear h a; (first | refine does_assign rfl ?_ | refine does_lssF rfl rfl (by omega) ?_); intro a h; (try simp only [Value.cells, List.toList_toArray, splice, List.set_cons_zero, List.set_cons_succ, List.drop_zero, List.drop_succ_cons, List.take_succ_cons, List.take_zero, Nat.zero_add, Nat.reduceAdd, Nat.reduceMul, Int.reduceAdd, Int.reduceToNat, Int.reduceTMod, Nat.zero_mul, Nat.one_mul, Int.toNat_natCast] at h)))
      (refine k_ret1 rfl h rfl ⟨?_, hm.below⟩)
      exact boolT (Prod.ext hN (eq_upto hl2 hlt hpre))
end Go.Proofs.Ytgphmhjnnppbnaa.St
