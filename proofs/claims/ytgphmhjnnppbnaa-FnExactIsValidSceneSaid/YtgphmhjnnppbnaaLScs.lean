/-
  The reference's comparison of scenes.
-/
import Derived.Test.YtgphmhjnnppbnaaLSce
import Derived.Test.YtgphmhjnnppbnaaLSms
set_option linter.unusedSimpArgs false
set_option linter.unusedVariables false
namespace Go.Proofs.Ytgphmhjnnppbnaa.St
open Go.RowKit
set_option maxHeartbeats 16000000 in
theorem sSameScene_ok (x y : TScene) (hx : smSc x) (hy : smSc y) : FunP Try.prog 31 [.agg (eSc x).toArray, .agg (eSc y).toArray] (fun H => SceneH H x ∧ SceneH H y) (.bool (dB (aSc x = aSc y))) := by
  obtain ⟨hx1, hx2, hx3, hx4⟩ := hx
  obtain ⟨hy1, hy2, hy3, hy4⟩ := hy
  refine enterFunP Try.func31 rfl Try.ntmps31 rfl (fun W0 w a hp hm h => ?_)
  obtain ⟨⟨t1, r1, u1⟩, t2, r2, u2⟩ := hp
  repeat' (first | refine c_seq ?_ | refine c_region ?_ | refine c_nil ?_ | refine k_then ?_ | refine k_thenR ?_ | refine c_skip ?_ | refine c_ret ?_ | refine c_block ?_ | refine c_condT h rfl ?_ | (refine st_op (d := 2) rfl rfl h ?_; refine does_box hm rfl rfl ?_; clear h a hm; intro b_2 w hm a h; (try simp only [Value.cells, List.toList_toArray, splice, List.set_cons_zero, List.set_cons_succ, List.drop_zero, List.drop_succ_cons, List.take_succ_cons, List.take_zero, Nat.zero_add, Nat.reduceAdd, Nat.reduceMul, Int.reduceAdd, Int.reduceToNat, Int.reduceTMod, Nat.zero_mul, Nat.one_mul, Int.toNat_natCast] at h)) | (refine st_op (d := 3) rfl rfl h ?_; refine does_box hm rfl rfl ?_; clear h a hm; intro b_3 w hm a h; (try simp only [Value.cells, List.toList_toArray, splice, List.set_cons_zero, List.set_cons_succ, List.drop_zero, List.drop_succ_cons, List.take_succ_cons, List.take_zero, Nat.zero_add, Nat.reduceAdd, Nat.reduceMul, Int.reduceAdd, Int.reduceToNat, Int.reduceTMod, Nat.zero_mul, Nat.one_mul, Int.toNat_natCast] at h)) | ((refine st_op rfl rfl h ?_); clear h a; (first | refine does_move rfl ?_ | refine does_assign rfl ?_ | refine does_pickT rfl rfl ?_ | refine does_pickF rfl rfl ?_ | refine does_fieldAddrL rfl ?_ | refine does_loadO 0 hm rfl rfl rfl ?_ | refine does_loadO 1 hm rfl rfl rfl ?_ | refine does_loadOA 0 hm rfl rfl rfl ?_ | refine does_loadOA 1 hm rfl rfl rfl ?_ | refine does_neq rfl rfl ?_ | refine does_neqA rfl rfl rfl rfl ?_ | refine does_lenS (SliceT.out) rfl ?_); intro a h; (try simp only [Value.cells, List.toList_toArray, splice, List.set_cons_zero, List.set_cons_succ, List.drop_zero, List.drop_succ_cons, List.take_succ_cons, List.take_zero, Nat.zero_add, Nat.reduceAdd, Nat.reduceMul, Int.reduceAdd, Int.reduceToNat, Int.reduceTMod, Nat.zero_mul, Nat.one_mul, Int.toNat_natCast] at h)) | ((refine st_skip rfl rfl h ?_); clear h a; intro a h) | ((refine c_condD h rfl ?_ ?_) <;> intro hc <;> (try (fail))) | (refine st_guardD rfl rfl h ?_ ?_ <;> clear h <;> intro hc h))
  all_goals first | ((refine k_ret1 rfl h rfl ⟨?_, hm.below⟩); exact boolF (fun e => by simp only [aSc, PScene.mk.injEq] at e; rw [cam_iff] at hc; simp_all)) | ((refine k_ret1 rfl h rfl ⟨?_, hm.below⟩); exact boolF (fun e => by simp only [aSc, PScene.mk.injEq] at e; obtain ⟨f1, f2, f3, f4, f5, f6, f7, f8, f9, f10, f11, f12⟩ := e; have g1 := congrArg List.length f9; have g2 := congrArg List.length f10; have g3 := congrArg List.length f11; simp only [List.length_map] at g2; omega)) | skip
  have hcam : ([I x.cw, I x.ch, I x.cz, I x.cn, .bool x.cd, I x.cl, I x.cf] : List Value) = [I y.cw, I y.ch, I y.cz, I y.cn, .bool y.cd, I y.cl, I y.cf] := Classical.not_not.1 (by assumption)
  rw [cam_iff] at hcam
  have hsd : x.sd = y.sd := by omega
  have hlg : x.lg = y.lg := by omega
  have hl1 : x.tx.length = y.tx.length := by omega
  have hl2 : x.sh.length = y.sh.length := by omega
  have hl3 : x.su.length = y.su.length := by omega
  clear hc
  refine c_loop (σ := Nat) (fun k a w => k ≤ x.tx.length ∧ (∀ i, i < k → x.tx[i]? = y.tx[i]?) ∧ Mem W0 [] (fun b => W0.heap[b]?) [.blk b_3 (.cells (eSc y).toArray 66), .blk b_2 (.cells (eSc x).toArray 66)] w ∧
    Holds [(2, .pointer (some ⟨b_2, 0, none⟩)), (3, .pointer (some ⟨b_3, 0, none⟩)), (63, .slice x.tp x.tx.length x.tc), (64, .int .i64 x.tx.length), (65, .int .i64 k)] _ a) (fun k => x.tx.length - k) 0
    ⟨Nat.zero_le _, fun i hi => absurd hi (Nat.not_lt_zero _), hm, h.keep ⟨rfl, rfl, rfl, rfl, rfl, trivial⟩⟩ ?_
  clear h hm
  rintro k a w ⟨hk, hpre, hm, h⟩
  by_cases hlt : k < x.tx.length
  · have hlt2 : k < y.tx.length := by omega
    obtain ⟨q1, hq1, hat1⟩ := t1.at1 hlt
    obtain ⟨q2, hq2, hat2⟩ := t2.at1 hlt2
    have g1 : x.tx[k]? = some x.tx[k] := List.getElem?_eq_getElem hlt
    have g2 : y.tx[k]? = some y.tx[k] := List.getElem?_eq_getElem hlt2
    rw [hq1] at h
    simp only [eSc, hq1, hq2] at hm
    repeat' (first | refine c_seq ?_ | refine c_region ?_ | refine c_nil ?_ | refine k_then ?_ | refine k_thenR ?_ | refine k_inN ?_ | refine k_inR ?_ | refine c_skip ?_ | refine c_ret ?_ | refine c_block ?_ | refine c_condT h rfl ?_ | ((refine st_op rfl rfl h ?_); clear h a; (first | refine does_move rfl ?_ | refine does_assign rfl ?_ | refine does_fieldAddrL rfl ?_ | refine does_loadO 0 hm rfl rfl rfl ?_ | refine does_loadB hm rfl (by assumption) rfl ?_ | refine does_lssT rfl rfl (by omega) ?_ | refine does_neq rfl rfl ?_ | refine does_add rfl rfl (by omega) ?_ | refine does_indexS1 (by omega) rfl rfl ?_); intro a h; (try simp only [Value.cells, List.toList_toArray, splice, List.set_cons_zero, List.set_cons_succ, List.drop_zero, List.drop_succ_cons, List.take_succ_cons, List.take_zero, Nat.zero_add, Nat.reduceAdd, Nat.reduceMul, Int.reduceAdd, Int.reduceToNat, Int.reduceTMod, Nat.zero_mul, Nat.one_mul, Int.toNat_natCast] at h)) | ((refine c_condD h rfl ?_ ?_) <;> intro hc <;> (try (fail))))
    · (refine k_ret1 rfl h rfl ⟨?_, hm.below⟩)
      exact boolF (fun e => by
        have a4 := congrArg (fun z => z.tx[k]?) e
        simp only [aSc, g1, g2, Option.some.injEq] at a4
        exact hc a4)
    · refine k_thenN ⟨k + 1, ⟨by omega, fun i hi => ?_, by simp only [eSc, hq1, hq2]; exact hm, by rw [hq1]; exact h.keep ⟨rfl, rfl, rfl, rfl, rfl, trivial⟩⟩, by omega⟩
      by_cases hik : i < k
      · exact hpre i hik
      · obtain rfl : i = k := by omega
        rw [g1, g2, Classical.not_not.1 hc]
  · have htx : x.tx = y.tx := eq_upto hl1 hlt hpre
    clear hpre
    repeat' (first | refine c_seq ?_ | refine c_region ?_ | refine c_nil ?_ | refine k_then ?_ | refine k_thenE ?_ | refine k_inE ?_ | refine c_exit ?_ | refine c_block ?_ | refine c_condF h rfl ?_ | ((refine st_op rfl rfl h ?_); clear h a; (first | refine does_move rfl ?_ | refine does_fieldAddrL rfl ?_ | refine does_loadO 1 hm rfl rfl rfl ?_ | refine does_lssF rfl rfl (by omega) ?_ | refine does_lenS (SliceT.out) rfl ?_); intro a h; (try simp only [Value.cells, List.toList_toArray, splice, List.set_cons_zero, List.set_cons_succ, List.drop_zero, List.drop_succ_cons, List.take_succ_cons, List.take_zero, Nat.zero_add, Nat.reduceAdd, Nat.reduceMul, Int.reduceAdd, Int.reduceToNat, Int.reduceTMod, Nat.zero_mul, Nat.one_mul, Int.toNat_natCast] at h)))
    refine c_loop (σ := Nat) (fun k a w => k ≤ x.sh.length ∧ (∀ i, i < k → (x.sh.map aP)[i]? = (y.sh.map aP)[i]?) ∧ Mem W0 [] (fun b => W0.heap[b]?) [.blk b_3 (.cells (eSc y).toArray 66), .blk b_2 (.cells (eSc x).toArray 66)] w ∧
      Holds [(2, .pointer (some ⟨b_2, 0, none⟩)), (3, .pointer (some ⟨b_3, 0, none⟩)), (80, .slice x.sp x.sh.length x.sc), (81, .int .i64 x.sh.length), (82, .int .i64 k)] _ a) (fun k => x.sh.length - k) 0
      ⟨Nat.zero_le _, fun i hi => absurd hi (Nat.not_lt_zero _), hm, h.keep ⟨rfl, rfl, rfl, rfl, rfl, trivial⟩⟩ ?_
    clear h hm hlt hk k
    rintro k a w ⟨hk, hpre, hm, h⟩
    by_cases hlt : k < x.sh.length
    · have hlt2 : k < y.sh.length := by omega
      obtain ⟨q1, hq1, hat1⟩ := r1.row.at hlt
      obtain ⟨q2, hq2, hat2⟩ := r2.row.at hlt2
      have g1 : x.sh[k]? = some x.sh[k] := List.getElem?_eq_getElem hlt
      have g2 : y.sh[k]? = some y.sh[k] := List.getElem?_eq_getElem hlt2
      have hp1 := r1.parts _ (List.getElem_mem hlt)
      have hp2 := r2.parts _ (List.getElem_mem hlt2)
      have hs1 := hx3 _ (List.getElem_mem hlt)
      have hs2 := hy3 _ (List.getElem_mem hlt2)
      rw [hq1] at h
      simp only [eSc, hq1, hq2] at hm
      repeat' (first | refine c_seq ?_ | refine c_region ?_ | refine c_nil ?_ | refine k_then ?_ | refine k_thenR ?_ | refine k_inN ?_ | refine k_inR ?_ | refine c_skip ?_ | refine c_ret ?_ | refine c_block ?_ | refine c_condT h rfl ?_ | (refine st_op (d := 8) rfl rfl h ?_; refine does_alloc hm ?_; clear h a hm; intro b_8 w hm a h; (try simp only [Value.cells, List.toList_toArray, splice, List.set_cons_zero, List.set_cons_succ, List.drop_zero, List.drop_succ_cons, List.take_succ_cons, List.take_zero, Nat.zero_add, Nat.reduceAdd, Nat.reduceMul, Int.reduceAdd, Int.reduceToNat, Int.reduceTMod, Nat.zero_mul, Nat.one_mul, Int.toNat_natCast] at h)) | ((first | refine st_op rfl rfl h ?_ | refine st_opn rfl h ?_); clear h a; (first | (refine does_storeO 0 hm rfl rfl rfl rfl rfl rfl rfl ?_; clear hm; intro w hm; (try simp only [Value.cells, List.toList_toArray, List.set_cons_zero, List.set_cons_succ, splice, Nat.zero_add, Nat.reduceAdd, Nat.reduceMul, Int.reduceAdd, Int.reduceToNat, Nat.zero_mul, Nat.one_mul, Int.toNat_natCast] at hm)) | refine does_move rfl ?_ | refine does_assign rfl ?_ | refine does_loadBA hm rfl (by assumption) rfl ?_ | refine does_lssT rfl rfl (by omega) ?_ | refine does_add rfl rfl (by omega) ?_ | refine does_indexSn (by omega) rfl rfl ?_); intro a h; (try simp only [Value.cells, List.toList_toArray, splice, List.set_cons_zero, List.set_cons_succ, List.drop_zero, List.drop_succ_cons, List.take_succ_cons, List.take_zero, Nat.zero_add, Nat.reduceAdd, Nat.reduceMul, Int.reduceAdd, Int.reduceToNat, Int.reduceTMod, Nat.zero_mul, Nat.one_mul, Int.toNat_natCast] at h)) | (apply c_drawM (id := 12) 8 [.val _, .val _, .val _, .val _, .val _, .val _, .val _, .val _] mixed (by kernel_rfl) (h := h) (hm := hm); (case vcs => (repeat' (first | exact vcs_nil | refine vcs_cons ?_ ?_ | (intro w hm; (repeat (first | refine dep_val ?_ | refine dep_nil ?_)); first | exact vc_skip rfl | exact vc_alloc rfl | exact vc_box rfl rfl rfl | exact vc_buildSlice rfl rfl rfl rfl | exact vc_makeSlice (by omega) (by omega) rfl rfl rfl | exact vc_store rfl rfl rfl rfl rfl rfl rfl rfl rfl rfl | (apply vc_run rfl; (first | ((refine does_funPX2 en96 rfl ⟨hp1.up hm, hp2.up hm⟩ (sSameProgram_ok x.sh[k] y.sh[k] hs1 hs2) ?_)) | refine does_move rfl ?_ | refine does_fieldAddrL rfl ?_ | refine does_loadO 1 hm rfl rfl rfl ?_ | refine does_loadOA 0 hm rfl rfl rfl ?_ | refine does_loadBA hm rfl (by assumption) rfl ?_ | refine does_notD rfl ?_ | refine does_indexSn (by omega) rfl rfl ?_); (first | exact ⟨ext_refl _, rfl⟩ | exact fun _ hx => ⟨hx, rfl⟩)))))); (case hup => kernel_rfl); (case hown => kernel_rfl); (case hnp => kernel_rfl); clear h hm a; intro  w hm; (try simp only [List.map_nil, List.nil_append] at hm); (repeat (first | refine dep_val ?_ | refine dep_nil ?_)); intro a h; (try simp only [Value.cells, List.toList_toArray, splice, List.set_cons_zero, List.set_cons_succ, List.drop_zero, List.drop_succ_cons, List.take_succ_cons, List.take_zero, Nat.zero_add, Nat.reduceAdd, Nat.reduceMul, Int.reduceAdd, Int.reduceToNat, Int.reduceTMod, Nat.zero_mul, Nat.one_mul, Int.toNat_natCast] at h)) | ((refine c_condD h rfl ?_ ?_) <;> intro hc <;> (try (fail))))
      · (refine k_ret1 rfl h rfl ⟨?_, hm.below⟩)
        exact boolF (fun e => by
          simp only [aSc, PScene.mk.injEq] at e
          exact hc (map_eq_get aP e.2.2.2.2.2.2.2.2.2.1 g1 g2))
      · refine k_thenN ⟨k + 1, ⟨by omega, fun i hi => ?_, by simp only [eSc, hq1, hq2]; exact hm.drop, by rw [hq1]; exact h.keep ⟨rfl, rfl, rfl, rfl, rfl, trivial⟩⟩, by omega⟩
        by_cases hik : i < k
        · exact hpre i hik
        · obtain rfl : i = k := by omega
          exact (map_get_iff aP g1 g2).2 (Classical.not_not.1 hc)
    · have hsh : x.sh.map aP = y.sh.map aP := map_eq_upto aP hl2 hlt hpre
      clear hpre
      repeat' (first | refine c_seq ?_ | refine c_region ?_ | refine c_nil ?_ | refine k_then ?_ | refine k_thenE ?_ | refine k_inE ?_ | refine c_exit ?_ | refine c_block ?_ | refine c_condF h rfl ?_ | ((refine st_op rfl rfl h ?_); clear h a; (first | refine does_move rfl ?_ | refine does_fieldAddrL rfl ?_ | refine does_loadO 1 hm rfl rfl rfl ?_ | refine does_lssF rfl rfl (by omega) ?_ | refine does_lenS (SliceT.out) rfl ?_); intro a h; (try simp only [Value.cells, List.toList_toArray, splice, List.set_cons_zero, List.set_cons_succ, List.drop_zero, List.drop_succ_cons, List.take_succ_cons, List.take_zero, Nat.zero_add, Nat.reduceAdd, Nat.reduceMul, Int.reduceAdd, Int.reduceToNat, Int.reduceTMod, Nat.zero_mul, Nat.one_mul, Int.toNat_natCast] at h)))
      refine c_loop (σ := Nat) (fun k a w => k ≤ x.su.length ∧ (∀ i, i < k → x.su[i]? = y.su[i]?) ∧ Mem W0 [] (fun b => W0.heap[b]?) [.blk b_3 (.cells (eSc y).toArray 66), .blk b_2 (.cells (eSc x).toArray 66)] w ∧
        Holds [(3, .pointer (some ⟨b_3, 0, none⟩)), (97, .slice x.up x.su.length x.uc), (98, .int .i64 x.su.length), (99, .int .i64 k)] _ a) (fun k => x.su.length - k) 0
        ⟨Nat.zero_le _, fun i hi => absurd hi (Nat.not_lt_zero _), hm, h.keep ⟨rfl, rfl, rfl, rfl, trivial⟩⟩ ?_
      clear h hm hlt hk k
      rintro k a w ⟨hk, hpre, hm, h⟩
      by_cases hlt : k < x.su.length
      · have hlt2 : k < y.su.length := by omega
        obtain ⟨q1, hq1, hat1⟩ := u1.at hlt
        obtain ⟨q2, hq2, hat2⟩ := u2.at hlt2
        have g1 : x.su[k]? = some x.su[k] := List.getElem?_eq_getElem hlt
        have g2 : y.su[k]? = some y.su[k] := List.getElem?_eq_getElem hlt2
        rw [hq1] at h
        simp only [eSc, hq1, hq2] at hm
        repeat' (first | refine c_seq ?_ | refine c_region ?_ | refine c_nil ?_ | refine k_then ?_ | refine k_thenR ?_ | refine k_inN ?_ | refine k_inR ?_ | refine c_skip ?_ | refine c_ret ?_ | refine c_block ?_ | refine c_condT h rfl ?_ | (refine st_op (d := 10) rfl rfl h ?_; refine does_alloc hm ?_; clear h a hm; intro b_10 w hm a h; (try simp only [Value.cells, List.toList_toArray, splice, List.set_cons_zero, List.set_cons_succ, List.drop_zero, List.drop_succ_cons, List.take_succ_cons, List.take_zero, Nat.zero_add, Nat.reduceAdd, Nat.reduceMul, Int.reduceAdd, Int.reduceToNat, Int.reduceTMod, Nat.zero_mul, Nat.one_mul, Int.toNat_natCast] at h)) | ((first | refine st_op rfl rfl h ?_ | refine st_opn rfl h ?_); clear h a; (first | (refine does_storeO 0 hm rfl rfl rfl rfl rfl rfl rfl ?_; clear hm; intro w hm; (try simp only [Value.cells, List.toList_toArray, List.set_cons_zero, List.set_cons_succ, splice, Nat.zero_add, Nat.reduceAdd, Nat.reduceMul, Int.reduceAdd, Int.reduceToNat, Nat.zero_mul, Nat.one_mul, Int.toNat_natCast] at hm)) | refine does_move rfl ?_ | refine does_assign rfl ?_ | refine does_loadBA hm rfl (by assumption) rfl ?_ | refine does_lssT rfl rfl (by omega) ?_ | refine does_add rfl rfl (by omega) ?_ | refine does_indexSn (by omega) rfl rfl ?_); intro a h; (try simp only [Value.cells, List.toList_toArray, splice, List.set_cons_zero, List.set_cons_succ, List.drop_zero, List.drop_succ_cons, List.take_succ_cons, List.take_zero, Nat.zero_add, Nat.reduceAdd, Nat.reduceMul, Int.reduceAdd, Int.reduceToNat, Int.reduceTMod, Nat.zero_mul, Nat.one_mul, Int.toNat_natCast] at h)) | (apply c_drawM (id := 18) 7 [.val _, .val _, .val _, .val _, .val _, .val _, .val _] mixed (by kernel_rfl) (h := h) (hm := hm); (case vcs => (repeat' (first | exact vcs_nil | refine vcs_cons ?_ ?_ | (intro w hm; (repeat (first | refine dep_val ?_ | refine dep_nil ?_)); first | exact vc_skip rfl | exact vc_alloc rfl | exact vc_box rfl rfl rfl | exact vc_buildSlice rfl rfl rfl rfl | exact vc_makeSlice (by omega) (by omega) rfl rfl rfl | exact vc_store rfl rfl rfl rfl rfl rfl rfl rfl rfl rfl | (apply vc_run rfl; (first | refine does_move rfl ?_ | refine does_fieldAddrL rfl ?_ | refine does_loadO 1 hm rfl rfl rfl ?_ | refine does_loadOA 0 hm rfl rfl rfl ?_ | refine does_loadBA hm rfl (by assumption) rfl ?_ | refine does_neqA rfl rfl rfl rfl ?_ | refine does_indexSn (by omega) rfl rfl ?_); (exact ⟨ext_refl _, rfl⟩)))))); (case hup => kernel_rfl); (case hown => kernel_rfl); (case hnp => kernel_rfl); clear h hm a; intro  w hm; (try simp only [List.map_nil, List.nil_append] at hm); (repeat (first | refine dep_val ?_ | refine dep_nil ?_)); intro a h; (try simp only [Value.cells, List.toList_toArray, splice, List.set_cons_zero, List.set_cons_succ, List.drop_zero, List.drop_succ_cons, List.take_succ_cons, List.take_zero, Nat.zero_add, Nat.reduceAdd, Nat.reduceMul, Int.reduceAdd, Int.reduceToNat, Int.reduceTMod, Nat.zero_mul, Nat.one_mul, Int.toNat_natCast] at h)) | ((refine c_condD h rfl ?_ ?_) <;> intro hc <;> (try (fail))))
        · (refine k_ret1 rfl h rfl ⟨?_, hm.below⟩)
          exact boolF (fun e => by
            have a4 := congrArg (fun z => z.su[k]?) e
            simp only [aSc, g1, g2, Option.some.injEq] at a4
            exact hc (by rw [a4]))
        · refine k_thenN ⟨k + 1, ⟨by omega, fun i hi => ?_, by simp only [eSc, hq1, hq2]; exact hm.drop, by rw [hq1]; exact h.keep ⟨rfl, rfl, rfl, rfl, trivial⟩⟩, by omega⟩
          by_cases hik : i < k
          · exact hpre i hik
          · obtain rfl : i = k := by omega
            rw [g1, g2, eSurface_inj (Classical.not_not.1 hc)]
      · have hsu : x.su = y.su := eq_upto hl3 hlt hpre
        repeat' (first | refine c_seq ?_ | refine c_region ?_ | refine c_nil ?_ | refine k_then ?_ | refine k_thenE ?_ | refine k_inE ?_ | refine c_ret ?_ | refine c_exit ?_ | refine c_condF h rfl ?_ | ((refine st_op rfl rfl h ?_); clear h a; (first | refine does_assign rfl ?_ | refine does_lssF rfl rfl (by omega) ?_); intro a h; (try simp only [Value.cells, List.toList_toArray, splice, List.set_cons_zero, List.set_cons_succ, List.drop_zero, List.drop_succ_cons, List.take_succ_cons, List.take_zero, Nat.zero_add, Nat.reduceAdd, Nat.reduceMul, Int.reduceAdd, Int.reduceToNat, Int.reduceTMod, Nat.zero_mul, Nat.one_mul, Int.toNat_natCast] at h)))
        (refine k_ret1 rfl h rfl ⟨?_, hm.below⟩)
        exact boolT (by simp only [aSc, PScene.mk.injEq]; simp_all)
end Go.Proofs.Ytgphmhjnnppbnaa.St
