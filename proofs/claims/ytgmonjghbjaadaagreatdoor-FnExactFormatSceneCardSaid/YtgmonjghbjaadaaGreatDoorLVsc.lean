/-
  Valid scenes.
-/
import Derived.Test.YtgmonjghbjaadaaGreatDoorJ20
import Derived.Test.YtgmonjghbjaadaaGreatDoorJ14
import Derived.Test.YtgmonjghbjaadaaGreatDoorLTes
import Derived.Test.YtgmonjghbjaadaaGreatDoorLChs
set_option linter.unusedSimpArgs false
set_option linter.unusedVariables false
namespace Go.Proofs.YtgmonjghbjaadaaGreatDoor.St
open Go.RowKit
structure vScene (s : PScene) : Prop where
  cam : vCam s.cw s.ch s.cz s.cn s.cl s.cf
  tex : vTex s.lg s.tx
  nsh : 1 ≤ (s.sh.length : Int) ∧ (s.sh.length : Int) ≤ 3
  nsu : (s.su.length : Int) ≤ 5
  side : s.sd = 1 ∨ s.sd = 2 ∨ s.sd = 4
  progs : ∀ (i : Nat) (y : List PNode × List TAssignment), s.sh[i]? = some y → okP y.1 y.2
  surfs : ∀ (i : Nat) (z : TSurface), s.su[i]? = some z → vS z s.sh.length
theorem bdP_of {x y : TProg} (h : aP x = aP y) (hy : bdP y) : bdP x := by
  obtain ⟨h1, h2, h3, h4⟩ := hy
  obtain ⟨e1, e2⟩ := Prod.mk.inj h
  have hl : x.xs.length = y.xs.length := by simpa using congrArg List.length e1
  refine ⟨fun z hz => ?_, by rw [e2]; exact h2, by omega, by rw [e2]; exact h4⟩
  have hm : z.a ∈ x.xs.map aN := List.mem_map_of_mem hz
  rw [e1] at hm
  obtain ⟨z', hz', hzz⟩ := List.mem_map.1 hm
  have h1' := h1 z' hz'
  have e : z'.a = z.a := hzz
  simp only [bdN] at h1' ⊢
  rw [← e]
  exact h1'
theorem bdS_of {x y : TScene} (h : aSc x = aSc y) (hy : ∀ z ∈ y.sh, bdP z) : ∀ z ∈ x.sh, bdP z := fun z hz => by
  simp only [aSc, PScene.mk.injEq] at h
  have hm : aP z ∈ x.sh.map aP := List.mem_map_of_mem hz
  rw [h.2.2.2.2.2.2.2.2.2.1] at hm
  obtain ⟨z', hz', hzz⟩ := List.mem_map.1 hm
  exact bdP_of hzz.symm (hy z' hz')
theorem map_aP {xs : List TProg} {i : Nat} {y : List PNode × List TAssignment} (h : (xs.map aP)[i]? = some y) : ∃ z, xs[i]? = some z ∧ aP z = y := by
  rw [List.getElem?_map] at h
  cases hz : xs[i]? with
  | none => rw [hz] at h; cases h
  | some z => rw [hz] at h; exact ⟨z, rfl, Option.some.inj h⟩
set_option maxHeartbeats 16000000 in
theorem isValidSceneD_ok (x : TScene) (hs1 : x.tx.length ≤ 1048576) (hs2 : x.sh.length ≤ 1048576) (hs3 : ∀ y ∈ x.sh, smP y) (hs4 : x.su.length ≤ 1048577) : FunP Tryz.prog 24 [.agg (eSc x).toArray] (fun H => SceneH H x) (.bool (dB (vScene (aSc x)))) := by
  refine enterFunP Tryz.func24 rfl Tryz.ntmps24 rfl (fun W0 w a hp hm h => ?_)
  obtain ⟨tx, pr, su⟩ := hp
  repeat' (first | refine c_seq ?_ | refine c_region ?_ | refine c_nil ?_ | refine k_then ?_ | refine k_thenR ?_ | refine c_skip ?_ | refine c_ret ?_ | refine c_block ?_ | refine c_condT h rfl ?_ | (refine st_op (d := 1) rfl rfl h ?_; refine does_box hm rfl rfl ?_; clear h a hm; intro b_1 w hm a h; (try simp only [Value.cells, List.toList_toArray, splice, List.set_cons_zero, List.set_cons_succ, List.drop_zero, List.drop_succ_cons, List.take_succ_cons, List.take_zero, Nat.zero_add, Nat.reduceAdd, Nat.reduceMul, Int.reduceAdd, Int.reduceToNat, Int.reduceTMod, Nat.zero_mul, Nat.one_mul, Int.toNat_natCast] at h)) | ((refine st_op rfl rfl h ?_); clear h a; (first | (show Does _ (.call _) _ _ _ _; (first | ((refine does_funP hm en52 rfl (isValidTexture_ok _ _ _ _ hs1) (tx.up hm) ?_; clear hm; intro w hm)) | (refine does_funM hm en51 rfl (isValidCamera_ok _ _ _ _ _ _ _) ?_; clear hm; intro w hm) | (refine does_funM hm en53 rfl (within_ok _ _ _) ?_; clear hm; intro w hm) | (refine does_funM hm en54 rfl (sideOk_ok _) ?_; clear hm; intro w hm) | refine does_lenS (SliceT.out) rfl ?_)) | (show Does _ (.move _) _ _ _ _; refine does_move rfl ?_) | (show Does _ (.assign _) _ _ _ _; refine does_assign rfl ?_) | (show Does _ (.pick _ _ _) _ _ _ _; (first | refine does_pickT rfl rfl ?_ | refine does_pickF rfl rfl ?_)) | (show Does _ (.fieldAddr _ _ _) _ _ _ _; (refine does_fieldAddrL rfl ?_)) | (show Does _ (.load _ _) _ _ _ _; (first | refine does_loadO 0 hm rfl rfl rfl ?_ | refine does_loadOA 0 hm rfl rfl rfl ?_)) | (show Does _ (.binOp _ _ _ _ _) _ _ _ _; (refine does_gtr rfl rfl ?_)) | (show Does _ (.unOp _ _ _) _ _ _ _; (refine does_notD rfl ?_))); intro a h; (try simp only [Value.cells, List.toList_toArray, splice, List.set_cons_zero, List.set_cons_succ, List.drop_zero, List.drop_succ_cons, List.take_succ_cons, List.take_zero, Nat.zero_add, Nat.reduceAdd, Nat.reduceMul, Int.reduceAdd, Int.reduceToNat, Int.reduceTMod, Nat.zero_mul, Nat.one_mul, Int.toNat_natCast] at h)) | ((refine st_skip rfl rfl h ?_); clear h a; intro a h) | ((refine c_condD h rfl ?_ ?_) <;> intro hc <;> (try (fail))) | (refine st_guardD rfl rfl h ?_ ?_ <;> clear h <;> intro hc h))
  all_goals first | ((refine k_ret1 rfl h rfl ⟨?_, hm.below⟩); exact boolF (fun e => by have e1 := e.cam; have e2 := e.tex; have e3 := e.nsh; have e4 : (x.su.length : Int) ≤ 5 := e.nsu; have e5 := e.side; simp only [aSc, List.length_map] at e3; first | exact hc e1 | exact hc e2 | exact hc e3 | exact hc e5 | omega)) | skip
  have hcam : vCam x.cw x.ch x.cz x.cn x.cl x.cf := Classical.not_not.1 (by assumption)
  have htex : vTex x.lg x.tx := Classical.not_not.1 (by assumption)
  have hnsh : 1 ≤ (x.sh.length : Int) ∧ (x.sh.length : Int) ≤ 3 := Classical.not_not.1 (by assumption)
  have hnsu : (x.su.length : Int) ≤ 5 := by omega
  have hside : x.sd = 1 ∨ x.sd = 2 ∨ x.sd = 4 := Classical.not_not.1 (by assumption)
  clear hc
  refine c_loop (σ := Nat) (fun k a w => k ≤ x.sh.length ∧ (∀ (i : Nat) (y : TProg), i < k → x.sh[i]? = some y → okP (y.xs.map aN) y.ys) ∧ Mem W0 [] (fun b => W0.heap[b]?) [.blk b_1 (.cells (eSc x).toArray 38)] w ∧
    Holds [(1, .pointer (some ⟨b_1, 0, none⟩)), (37, .slice x.sp x.sh.length x.sc), (38, .int .i64 x.sh.length), (39, .int .i64 k)] _ a) (fun k => x.sh.length - k) 0
    ⟨Nat.zero_le _, fun i y hi => absurd hi (Nat.not_lt_zero _), hm, h.keep ⟨rfl, rfl, rfl, rfl, trivial⟩⟩ ?_
  clear h hm
  rintro k a w ⟨hk, hpre, hm, h⟩
  by_cases hlt : k < x.sh.length
  · obtain ⟨q1, hq1, hat1⟩ := pr.row.at hlt
    have g1 : x.sh[k]? = some x.sh[k] := List.getElem?_eq_getElem hlt
    have hp1 := pr.parts _ (List.getElem_mem hlt)
    obtain ⟨⟨m1, m2⟩, m3⟩ := hs3 _ (List.getElem_mem hlt)
    rw [hq1] at h
    simp only [eSc, hq1] at hm
    repeat' (first | refine c_seq ?_ | refine c_region ?_ | refine c_nil ?_ | refine k_then ?_ | refine k_thenR ?_ | refine k_inN ?_ | refine k_inR ?_ | refine c_skip ?_ | refine c_ret ?_ | refine c_block ?_ | refine c_condT h rfl ?_ | (refine st_op (d := 4) rfl rfl h ?_; refine does_alloc hm ?_; clear h a hm; intro b_4 w hm a h; (try simp only [Value.cells, List.toList_toArray, splice, List.set_cons_zero, List.set_cons_succ, List.drop_zero, List.drop_succ_cons, List.take_succ_cons, List.take_zero, Nat.zero_add, Nat.reduceAdd, Nat.reduceMul, Int.reduceAdd, Int.reduceToNat, Int.reduceTMod, Nat.zero_mul, Nat.one_mul, Int.toNat_natCast] at h)) | ((first | refine st_op rfl rfl h ?_ | refine st_opn rfl h ?_); clear h a; (first | (show Does _ (.call _) _ _ _ _; (((refine does_funP hm en55 rfl (isOk_ok x.sh[k].p x.sh[k].q x.sh[k].xs x.sh[k].ys x.sh[k].c x.sh[k].d m1 m2 m3) (hp1.up hm) ?_; clear hm; intro w hm)))) | (show Does _ (.store _ _ _) _ _ _ _; ((refine does_storeO 0 hm rfl rfl rfl rfl rfl rfl rfl ?_; clear hm; intro w hm; (try simp only [Value.cells, List.toList_toArray, List.set_cons_zero, List.set_cons_succ, splice, Nat.zero_add, Nat.reduceAdd, Nat.reduceMul, Int.reduceAdd, Int.reduceToNat, Nat.zero_mul, Nat.one_mul, Int.toNat_natCast] at hm)))) | (show Does _ (.move _) _ _ _ _; refine does_move rfl ?_) | (show Does _ (.assign _) _ _ _ _; refine does_assign rfl ?_) | (show Does _ (.load _ _) _ _ _ _; (first | refine does_loadOA 0 hm rfl rfl rfl ?_ | refine does_loadBA hm rfl (by assumption) rfl ?_)) | (show Does _ (.binOp _ _ _ _ _) _ _ _ _; (first | refine does_lssT rfl rfl (by omega) ?_ | refine does_add rfl rfl (by omega) ?_)) | (show Does _ (.unOp _ _ _) _ _ _ _; (refine does_notD rfl ?_)) | (show Does _ (.indexAddr _ _ _) _ _ _ _; (refine does_indexSn (by omega) rfl rfl ?_))); intro a h; (try simp only [Value.cells, List.toList_toArray, splice, List.set_cons_zero, List.set_cons_succ, List.drop_zero, List.drop_succ_cons, List.take_succ_cons, List.take_zero, Nat.zero_add, Nat.reduceAdd, Nat.reduceMul, Int.reduceAdd, Int.reduceToNat, Int.reduceTMod, Nat.zero_mul, Nat.one_mul, Int.toNat_natCast] at h)) | ((refine c_condD h rfl ?_ ?_) <;> intro hc <;> (try (fail))))
    · (refine k_ret1 rfl h rfl ⟨?_, hm.below⟩)
      exact boolF (fun e => hc (e.progs k (aP x.sh[k]) (by simp only [aSc, List.getElem?_map, g1, Option.map_some])))
    · refine k_thenN ⟨k + 1, ⟨by omega, fun i y hi hy => ?_, by simp only [eSc, hq1]; exact hm.drop, by rw [hq1]; exact h.keep ⟨rfl, rfl, rfl, rfl, trivial⟩⟩, by omega⟩
      by_cases hik : i < k
      · exact hpre i y hik hy
      · obtain rfl : i = k := by omega
        rw [g1] at hy
        cases hy
        exact Classical.not_not.1 hc
  · have hprogs : ∀ (i : Nat) (y : TProg), x.sh[i]? = some y → okP (y.xs.map aN) y.ys := fun i y hy => hpre i y (by have := (List.getElem?_eq_some_iff.1 hy).1; omega) hy
    clear hpre
    repeat' (first | refine c_seq ?_ | refine c_region ?_ | refine c_nil ?_ | refine k_then ?_ | refine k_thenE ?_ | refine k_inE ?_ | refine c_exit ?_ | refine c_block ?_ | refine c_condF h rfl ?_ | ((refine st_op rfl rfl h ?_); clear h a; (first | (show Does _ (.call _) _ _ _ _; (refine does_lenS (SliceT.out) rfl ?_)) | (show Does _ (.move _) _ _ _ _; refine does_move rfl ?_) | (show Does _ (.fieldAddr _ _ _) _ _ _ _; (refine does_fieldAddrL rfl ?_)) | (show Does _ (.load _ _) _ _ _ _; (refine does_loadO 0 hm rfl rfl rfl ?_)) | (show Does _ (.binOp _ _ _ _ _) _ _ _ _; (refine does_lssF rfl rfl (by omega) ?_))); intro a h; (try simp only [Value.cells, List.toList_toArray, splice, List.set_cons_zero, List.set_cons_succ, List.drop_zero, List.drop_succ_cons, List.take_succ_cons, List.take_zero, Nat.zero_add, Nat.reduceAdd, Nat.reduceMul, Int.reduceAdd, Int.reduceToNat, Int.reduceTMod, Nat.zero_mul, Nat.one_mul, Int.toNat_natCast] at h)))
    refine c_loop (σ := Nat) (fun k a w => k ≤ x.su.length ∧ (∀ (i : Nat) (y : TSurface), i < k → x.su[i]? = some y → vS y x.sh.length) ∧ Mem W0 [] (fun b => W0.heap[b]?) [.blk b_1 (.cells (eSc x).toArray 38)] w ∧
      Holds [(1, .pointer (some ⟨b_1, 0, none⟩)), (48, .slice x.up x.su.length x.uc), (49, .int .i64 x.su.length), (50, .int .i64 k)] _ a) (fun k => x.su.length - k) 0
      ⟨Nat.zero_le _, fun i y hi => absurd hi (Nat.not_lt_zero _), hm, h.keep ⟨rfl, rfl, rfl, rfl, trivial⟩⟩ ?_
    clear h hm hlt hk k
    rintro k a w ⟨hk, hpre, hm, h⟩
    by_cases hlt : k < x.su.length
    · obtain ⟨q1, hq1, hat1⟩ := su.at hlt
      have g1 : x.su[k]? = some x.su[k] := List.getElem?_eq_getElem hlt
      rw [hq1] at h
      simp only [eSc, hq1] at hm
      repeat' (first | refine c_seq ?_ | refine c_region ?_ | refine c_nil ?_ | refine k_then ?_ | refine k_thenR ?_ | refine k_inN ?_ | refine k_inR ?_ | refine c_skip ?_ | refine c_ret ?_ | refine c_block ?_ | refine c_condT h rfl ?_ | (refine st_op (d := 6) rfl rfl h ?_; refine does_alloc hm ?_; clear h a hm; intro b_6 w hm a h; (try simp only [Value.cells, List.toList_toArray, splice, List.set_cons_zero, List.set_cons_succ, List.drop_zero, List.drop_succ_cons, List.take_succ_cons, List.take_zero, Nat.zero_add, Nat.reduceAdd, Nat.reduceMul, Int.reduceAdd, Int.reduceToNat, Int.reduceTMod, Nat.zero_mul, Nat.one_mul, Int.toNat_natCast] at h)) | ((first | refine st_op rfl rfl h ?_ | refine st_opn rfl h ?_); clear h a; (first | (show Does _ (.call _) _ _ _ _; (first | ((refine does_funM hm en56 rfl (isValidSurfaceT_ok x.su[k] x.sh.length) ?_; clear hm; intro w hm)) | refine does_lenS (SliceT.out) rfl ?_)) | (show Does _ (.store _ _ _) _ _ _ _; ((refine does_storeO 0 hm rfl rfl rfl rfl rfl rfl rfl ?_; clear hm; intro w hm; (try simp only [Value.cells, List.toList_toArray, List.set_cons_zero, List.set_cons_succ, splice, Nat.zero_add, Nat.reduceAdd, Nat.reduceMul, Int.reduceAdd, Int.reduceToNat, Nat.zero_mul, Nat.one_mul, Int.toNat_natCast] at hm)))) | (show Does _ (.move _) _ _ _ _; refine does_move rfl ?_) | (show Does _ (.assign _) _ _ _ _; refine does_assign rfl ?_) | (show Does _ (.fieldAddr _ _ _) _ _ _ _; (refine does_fieldAddrL rfl ?_)) | (show Does _ (.load _ _) _ _ _ _; (first | refine does_loadO 1 hm rfl rfl rfl ?_ | refine does_loadOA 0 hm rfl rfl rfl ?_ | refine does_loadBA hm rfl (by assumption) rfl ?_)) | (show Does _ (.binOp _ _ _ _ _) _ _ _ _; (first | refine does_lssT rfl rfl (by omega) ?_ | refine does_add rfl rfl (by omega) ?_)) | (show Does _ (.unOp _ _ _) _ _ _ _; (refine does_notD rfl ?_)) | (show Does _ (.indexAddr _ _ _) _ _ _ _; (refine does_indexSn (by omega) rfl rfl ?_))); intro a h; (try simp only [Value.cells, List.toList_toArray, splice, List.set_cons_zero, List.set_cons_succ, List.drop_zero, List.drop_succ_cons, List.take_succ_cons, List.take_zero, Nat.zero_add, Nat.reduceAdd, Nat.reduceMul, Int.reduceAdd, Int.reduceToNat, Int.reduceTMod, Nat.zero_mul, Nat.one_mul, Int.toNat_natCast] at h)) | ((refine c_condD h rfl ?_ ?_) <;> intro hc <;> (try (fail))))
      · (refine k_ret1 rfl h rfl ⟨?_, hm.below⟩)
        exact boolF (fun e => hc (by have := e.surfs k x.su[k] g1; simp only [aSc, List.length_map] at this; exact this))
      · refine k_thenN ⟨k + 1, ⟨by omega, fun i y hi hy => ?_, by simp only [eSc, hq1]; exact hm.drop, by rw [hq1]; exact h.keep ⟨rfl, rfl, rfl, rfl, trivial⟩⟩, by omega⟩
        by_cases hik : i < k
        · exact hpre i y hik hy
        · obtain rfl : i = k := by omega
          rw [g1] at hy
          cases hy
          exact Classical.not_not.1 hc
    · repeat' (first | refine c_seq ?_ | refine c_region ?_ | refine c_nil ?_ | refine k_then ?_ | refine k_thenE ?_ | refine k_inE ?_ | refine c_ret ?_ | refine c_exit ?_ | refine c_condF h rfl ?_ | ((refine st_op rfl rfl h ?_); clear h a; (first | (show Does _ (.assign _) _ _ _ _; refine does_assign rfl ?_) | (show Does _ (.binOp _ _ _ _ _) _ _ _ _; (refine does_lssF rfl rfl (by omega) ?_))); intro a h; (try simp only [Value.cells, List.toList_toArray, splice, List.set_cons_zero, List.set_cons_succ, List.drop_zero, List.drop_succ_cons, List.take_succ_cons, List.take_zero, Nat.zero_add, Nat.reduceAdd, Nat.reduceMul, Int.reduceAdd, Int.reduceToNat, Int.reduceTMod, Nat.zero_mul, Nat.one_mul, Int.toNat_natCast] at h)))
      (refine k_ret1 rfl h rfl ⟨?_, hm.below⟩)
      exact boolT ⟨hcam, htex, by simp only [aSc, List.length_map]; exact hnsh, hnsu, hside, fun i y hy => by obtain ⟨z, hz, rfl⟩ := map_aP hy; exact hprogs i z hz, fun i z hz => by simp only [aSc, List.length_map]; exact hpre i z (by have := (List.getElem?_eq_some_iff.1 hz).1; simp only [aSc] at this; omega) hz⟩
theorem isValidScene_ok (x : TScene) (hs : smSc x) : FunP Tryz.prog 24 [.agg (eSc x).toArray] (fun H => SceneH H x) (.bool (dB (vScene (aSc x)))) := isValidSceneD_ok x hs.tex hs.progs hs.each (Nat.le_succ_of_le hs.surf)
set_option maxHeartbeats 16000000 in
theorem sIsValidSceneD_ok (x : TScene) (hs1 : x.tx.length ≤ 1048576) (hs2 : x.sh.length ≤ 1048576) (hs3 : ∀ y ∈ x.sh, smP y) (hs4 : x.su.length ≤ 1048577) (hb : ∀ z ∈ x.sh, bdP z) : FunP Tryz.prog 12 [.agg (eSc x).toArray] (fun H => SceneH H x) (.bool (dB (vScene (aSc x)))) := by
  refine enterFunP Tryz.func12 rfl Tryz.ntmps12 rfl (fun W0 w a hp hm h => ?_)
  obtain ⟨tx, pr, su⟩ := hp
  repeat' (first | refine c_seq ?_ | refine c_region ?_ | refine c_nil ?_ | refine k_then ?_ | refine c_block ?_ | (refine st_op (d := 1) rfl rfl h ?_; refine does_box hm rfl rfl ?_; clear h a hm; intro b_1 w hm a h; (try simp only [Value.cells, List.toList_toArray, splice, List.set_cons_zero, List.set_cons_succ, List.drop_zero, List.drop_succ_cons, List.take_succ_cons, List.take_zero, Nat.zero_add, Nat.reduceAdd, Nat.reduceMul, Int.reduceAdd, Int.reduceToNat, Int.reduceTMod, Nat.zero_mul, Nat.one_mul, Int.toNat_natCast] at h)) | ((refine st_op rfl rfl h ?_); clear h a; (first | (show Does _ (.call _) _ _ _ _; (refine does_lenS (SliceT.out) rfl ?_)) | (show Does _ (.move _) _ _ _ _; refine does_move rfl ?_) | (show Does _ (.assign _) _ _ _ _; refine does_assign rfl ?_) | (show Does _ (.fieldAddr _ _ _) _ _ _ _; (refine does_fieldAddrL rfl ?_)) | (show Does _ (.load _ _) _ _ _ _; (refine does_loadO 0 hm rfl rfl rfl ?_))); intro a h; (try simp only [Value.cells, List.toList_toArray, splice, List.set_cons_zero, List.set_cons_succ, List.drop_zero, List.drop_succ_cons, List.take_succ_cons, List.take_zero, Nat.zero_add, Nat.reduceAdd, Nat.reduceMul, Int.reduceAdd, Int.reduceToNat, Int.reduceTMod, Nat.zero_mul, Nat.one_mul, Int.toNat_natCast] at h)))
  refine c_loop (σ := Nat) (fun k a w => k ≤ x.sh.length ∧ (∀ (i : Nat) (y : TProg), i < k → x.sh[i]? = some y → okP (y.xs.map aN) y.ys) ∧ Mem W0 [] (fun b => W0.heap[b]?) [.blk b_1 (.cells (eSc x).toArray 38)] w ∧
    Holds [(1, .pointer (some ⟨b_1, 0, none⟩)), (11, .slice x.sp x.sh.length x.sc), (12, .int .i64 x.sh.length), (13, .int .i64 k)] _ a) (fun k => x.sh.length - k) 0
    ⟨Nat.zero_le _, fun i y hi => absurd hi (Nat.not_lt_zero _), hm, h.keep ⟨rfl, rfl, rfl, rfl, trivial⟩⟩ ?_
  clear h hm
  rintro k a w ⟨hk, hpre, hm, h⟩
  by_cases hlt : k < x.sh.length
  · obtain ⟨q1, hq1, hat1⟩ := pr.row.at hlt
    have g1 : x.sh[k]? = some x.sh[k] := List.getElem?_eq_getElem hlt
    have hp1 := pr.parts _ (List.getElem_mem hlt)
    obtain ⟨⟨m1, m2⟩, m3⟩ := hs3 _ (List.getElem_mem hlt)
    obtain ⟨d1, d2, d3, d4⟩ := hb _ (List.getElem_mem hlt)
    rw [hq1] at h
    simp only [eSc, hq1] at hm
    repeat' (first | refine c_seq ?_ | refine c_region ?_ | refine c_nil ?_ | refine k_then ?_ | refine k_thenR ?_ | refine k_inN ?_ | refine k_inR ?_ | refine c_skip ?_ | refine c_ret ?_ | refine c_block ?_ | refine c_condT h rfl ?_ | (refine st_op (d := 4) rfl rfl h ?_; refine does_alloc hm ?_; clear h a hm; intro b_4 w hm a h; (try simp only [Value.cells, List.toList_toArray, splice, List.set_cons_zero, List.set_cons_succ, List.drop_zero, List.drop_succ_cons, List.take_succ_cons, List.take_zero, Nat.zero_add, Nat.reduceAdd, Nat.reduceMul, Int.reduceAdd, Int.reduceToNat, Int.reduceTMod, Nat.zero_mul, Nat.one_mul, Int.toNat_natCast] at h)) | ((first | refine st_op rfl rfl h ?_ | refine st_opn rfl h ?_); clear h a; (first | (show Does _ (.call _) _ _ _ _; (((refine does_funVal hm en38 rfl (sCheck_ok x.sh[k].p x.sh[k].q x.sh[k].xs x.sh[k].ys x.sh[k].c x.sh[k].d m1 m2 m3 d1 d2) (hp1.up hm) ?_; clear hm; rintro v w ⟨r1, r2, rfl, hr1, hr2⟩ hm)))) | (show Does _ (.store _ _ _) _ _ _ _; ((refine does_storeO 0 hm rfl rfl rfl rfl rfl rfl rfl ?_; clear hm; intro w hm; (try simp only [Value.cells, List.toList_toArray, List.set_cons_zero, List.set_cons_succ, splice, Nat.zero_add, Nat.reduceAdd, Nat.reduceMul, Int.reduceAdd, Int.reduceToNat, Nat.zero_mul, Nat.one_mul, Int.toNat_natCast] at hm)))) | (show Does _ (.move _) _ _ _ _; refine does_move rfl ?_) | (show Does _ (.assign _) _ _ _ _; refine does_assign rfl ?_) | (show Does _ (.load _ _) _ _ _ _; (first | refine does_loadOA 0 hm rfl rfl rfl ?_ | refine does_loadBA hm rfl (by assumption) rfl ?_)) | (show Does _ (.binOp _ _ _ _ _) _ _ _ _; (first | refine does_lssT rfl rfl (by omega) ?_ | refine does_neq rfl rfl ?_ | refine does_add rfl rfl (by omega) ?_)) | (show Does _ (.indexAddr _ _ _) _ _ _ _; (refine does_indexSn (by omega) rfl rfl ?_)) | (show Does _ (.extract _ _) _ _ _ _; refine does_extract rfl rfl ?_)); intro a h; (try simp only [Value.cells, List.toList_toArray, splice, List.set_cons_zero, List.set_cons_succ, List.drop_zero, List.drop_succ_cons, List.take_succ_cons, List.take_zero, Nat.zero_add, Nat.reduceAdd, Nat.reduceMul, Int.reduceAdd, Int.reduceToNat, Int.reduceTMod, Nat.zero_mul, Nat.one_mul, Int.toNat_natCast] at h)) | ((refine c_condD h rfl ?_ ?_) <;> intro hc <;> (try (fail))))
    · (refine k_ret1 rfl h rfl ⟨?_, hm.below⟩)
      exact boolF (fun e => hc (hr1.2 (e.progs k (aP x.sh[k]) (by simp only [aSc, List.getElem?_map, g1, Option.map_some]))))
    · refine k_thenN ⟨k + 1, ⟨by omega, fun i y hi hy => ?_, by simp only [eSc, hq1]; exact hm.drop, by rw [hq1]; exact h.keep ⟨rfl, rfl, rfl, rfl, trivial⟩⟩, by omega⟩
      by_cases hik : i < k
      · exact hpre i y hik hy
      · obtain rfl : i = k := by omega
        rw [g1] at hy
        cases hy
        exact hr1.1 (Classical.not_not.1 hc)
  · have hprogs : ∀ (i : Nat) (y : TProg), x.sh[i]? = some y → okP (y.xs.map aN) y.ys := fun i y hy => hpre i y (by have := (List.getElem?_eq_some_iff.1 hy).1; omega) hy
    clear hpre
    repeat' (first | refine c_seq ?_ | refine c_region ?_ | refine c_nil ?_ | refine k_then ?_ | refine k_thenE ?_ | refine k_inE ?_ | refine c_exit ?_ | refine c_block ?_ | refine c_condF h rfl ?_ | ((refine st_op rfl rfl h ?_); clear h a; (first | (show Does _ (.call _) _ _ _ _; (refine does_lenS (SliceT.out) rfl ?_)) | (show Does _ (.move _) _ _ _ _; refine does_move rfl ?_) | (show Does _ (.fieldAddr _ _ _) _ _ _ _; (refine does_fieldAddrL rfl ?_)) | (show Does _ (.load _ _) _ _ _ _; (refine does_loadO 0 hm rfl rfl rfl ?_)) | (show Does _ (.binOp _ _ _ _ _) _ _ _ _; (refine does_lssF rfl rfl (by omega) ?_))); intro a h; (try simp only [Value.cells, List.toList_toArray, splice, List.set_cons_zero, List.set_cons_succ, List.drop_zero, List.drop_succ_cons, List.take_succ_cons, List.take_zero, Nat.zero_add, Nat.reduceAdd, Nat.reduceMul, Int.reduceAdd, Int.reduceToNat, Int.reduceTMod, Nat.zero_mul, Nat.one_mul, Int.toNat_natCast] at h)))
    refine c_loop (σ := Nat) (fun k a w => k ≤ x.su.length ∧ (∀ (i : Nat) (y : TSurface), i < k → x.su[i]? = some y → vS y x.sh.length) ∧ Mem W0 [] (fun b => W0.heap[b]?) [.blk b_1 (.cells (eSc x).toArray 38)] w ∧
      Holds [(1, .pointer (some ⟨b_1, 0, none⟩)), (26, .slice x.up x.su.length x.uc), (27, .int .i64 x.su.length), (28, .int .i64 k)] _ a) (fun k => x.su.length - k) 0
      ⟨Nat.zero_le _, fun i y hi => absurd hi (Nat.not_lt_zero _), hm, h.keep ⟨rfl, rfl, rfl, rfl, trivial⟩⟩ ?_
    clear h hm hlt hk k
    rintro k a w ⟨hk, hpre, hm, h⟩
    by_cases hlt : k < x.su.length
    · obtain ⟨q1, hq1, hat1⟩ := su.at hlt
      have g1 : x.su[k]? = some x.su[k] := List.getElem?_eq_getElem hlt
      rw [hq1] at h
      simp only [eSc, hq1] at hm
      repeat' (first | refine c_seq ?_ | refine c_region ?_ | refine c_nil ?_ | refine k_then ?_ | refine k_thenR ?_ | refine k_inN ?_ | refine k_inR ?_ | refine c_skip ?_ | refine c_ret ?_ | refine c_block ?_ | refine c_condT h rfl ?_ | (refine st_op (d := 8) rfl rfl h ?_; refine does_alloc hm ?_; clear h a hm; intro b_8 w hm a h; (try simp only [Value.cells, List.toList_toArray, splice, List.set_cons_zero, List.set_cons_succ, List.drop_zero, List.drop_succ_cons, List.take_succ_cons, List.take_zero, Nat.zero_add, Nat.reduceAdd, Nat.reduceMul, Int.reduceAdd, Int.reduceToNat, Int.reduceTMod, Nat.zero_mul, Nat.one_mul, Int.toNat_natCast] at h)) | ((first | refine st_op rfl rfl h ?_ | refine st_opn rfl h ?_); clear h a; (first | (show Does _ (.call _) _ _ _ _; (first | ((refine does_funM hm en39 rfl (sIsValidSurfaceT_ok x.su[k] x.sh.length) ?_; clear hm; intro w hm)) | refine does_lenS (SliceT.out) rfl ?_)) | (show Does _ (.store _ _ _) _ _ _ _; ((refine does_storeO 0 hm rfl rfl rfl rfl rfl rfl rfl ?_; clear hm; intro w hm; (try simp only [Value.cells, List.toList_toArray, List.set_cons_zero, List.set_cons_succ, splice, Nat.zero_add, Nat.reduceAdd, Nat.reduceMul, Int.reduceAdd, Int.reduceToNat, Nat.zero_mul, Nat.one_mul, Int.toNat_natCast] at hm)))) | (show Does _ (.move _) _ _ _ _; refine does_move rfl ?_) | (show Does _ (.assign _) _ _ _ _; refine does_assign rfl ?_) | (show Does _ (.fieldAddr _ _ _) _ _ _ _; (refine does_fieldAddrL rfl ?_)) | (show Does _ (.load _ _) _ _ _ _; (first | refine does_loadO 1 hm rfl rfl rfl ?_ | refine does_loadOA 0 hm rfl rfl rfl ?_ | refine does_loadBA hm rfl (by assumption) rfl ?_)) | (show Does _ (.binOp _ _ _ _ _) _ _ _ _; (first | refine does_lssT rfl rfl (by omega) ?_ | refine does_add rfl rfl (by omega) ?_)) | (show Does _ (.unOp _ _ _) _ _ _ _; (refine does_notD rfl ?_)) | (show Does _ (.indexAddr _ _ _) _ _ _ _; (refine does_indexSn (by omega) rfl rfl ?_))); intro a h; (try simp only [Value.cells, List.toList_toArray, splice, List.set_cons_zero, List.set_cons_succ, List.drop_zero, List.drop_succ_cons, List.take_succ_cons, List.take_zero, Nat.zero_add, Nat.reduceAdd, Nat.reduceMul, Int.reduceAdd, Int.reduceToNat, Int.reduceTMod, Nat.zero_mul, Nat.one_mul, Int.toNat_natCast] at h)) | ((refine c_condD h rfl ?_ ?_) <;> intro hc <;> (try (fail))))
      · (refine k_ret1 rfl h rfl ⟨?_, hm.below⟩)
        exact boolF (fun e => hc (by have := e.surfs k x.su[k] g1; simp only [aSc, List.length_map] at this; exact this))
      · refine k_thenN ⟨k + 1, ⟨by omega, fun i y hi hy => ?_, by simp only [eSc, hq1]; exact hm.drop, by rw [hq1]; exact h.keep ⟨rfl, rfl, rfl, rfl, trivial⟩⟩, by omega⟩
        by_cases hik : i < k
        · exact hpre i y hik hy
        · obtain rfl : i = k := by omega
          rw [g1] at hy
          cases hy
          exact Classical.not_not.1 hc
    · have hsurfs : ∀ (i : Nat) (z : TSurface), x.su[i]? = some z → vS z x.sh.length := fun i z hz => hpre i z (by have := (List.getElem?_eq_some_iff.1 hz).1; omega) hz
      clear hpre
      by_cases hside : x.sd = 1 ∨ x.sd = 2 ∨ x.sd = 4
      · repeat' (first | refine c_seq ?_ | refine c_region ?_ | refine c_nil ?_ | refine k_then ?_ | refine k_thenE ?_ | refine k_inE ?_ | refine c_ret ?_ | refine c_exit ?_ | refine c_condF h rfl ?_ | ((refine st_op rfl rfl h ?_); clear h a; (first | (show Does _ (.call _) _ _ _ _; (first | ((refine does_funP hm en41 rfl (sIsValidTexture_ok _ _ _ _ hs1) (tx.up hm) ?_; clear hm; intro w hm)) | (refine does_funM hm en40 rfl (sIsValidCamera_ok _ _ _ _ _ _ _) ?_; clear hm; intro w hm) | (refine does_funM hm en42 rfl (sIn_ok _ _ _) ?_; clear hm; intro w hm) | refine does_lenS (SliceT.out) rfl ?_)) | (show Does _ (.move _) _ _ _ _; refine does_move rfl ?_) | (show Does _ (.assign _) _ _ _ _; refine does_assign rfl ?_) | (show Does _ (.pick _ _ _) _ _ _ _; (first | refine does_pickT rfl rfl ?_ | refine does_pickF rfl rfl ?_)) | (show Does _ (.fieldAddr _ _ _) _ _ _ _; (refine does_fieldAddrL rfl ?_)) | (show Does _ (.load _ _) _ _ _ _; (first | refine does_loadO 0 hm rfl rfl rfl ?_ | refine does_loadOA 0 hm rfl rfl rfl ?_)) | (show Does _ (.binOp _ _ _ _ _) _ _ _ _; (first | refine does_lssF rfl rfl (by omega) ?_ | refine does_leq rfl rfl ?_ | refine does_eqlT rfl rfl (by omega) ?_ | refine does_eql rfl rfl ?_))); intro a h; (try simp only [Value.cells, List.toList_toArray, splice, List.set_cons_zero, List.set_cons_succ, List.drop_zero, List.drop_succ_cons, List.take_succ_cons, List.take_zero, Nat.zero_add, Nat.reduceAdd, Nat.reduceMul, Int.reduceAdd, Int.reduceToNat, Int.reduceTMod, Nat.zero_mul, Nat.one_mul, Int.toNat_natCast] at h)) | ((refine st_skip rfl rfl h ?_); clear h a; intro a h) | (refine st_guardD rfl rfl h ?_ ?_ <;> clear h <;> intro hc h))
        all_goals (refine k_ret1 rfl h rfl ⟨?_, hm.below⟩)
        all_goals first
          | exact boolF (fun e => by have e1 := e.cam; have e2 := e.tex; have e3 := e.nsh; have e4 : (x.su.length : Int) ≤ 5 := e.nsu; have e5 := e.side; simp only [aSc, List.length_map] at e3; first | exact hc e1 | exact hc e2 | exact hc e3 | exact hc e5 | omega)
          | exact boolI ⟨fun e => ⟨by assumption, by assumption, by simp only [aSc, List.length_map]; assumption, e, hside, fun i y hy => by obtain ⟨z, hz, rfl⟩ := map_aP hy; exact hprogs i z hz, fun i z hz => by simp only [aSc, List.length_map]; exact hsurfs i z hz⟩, fun e => e.nsu⟩
          | exact boolT ⟨by assumption, by assumption, by simp only [aSc, List.length_map]; assumption, by simp only [aSc]; omega, hside, fun i y hy => by obtain ⟨z, hz, rfl⟩ := map_aP hy; exact hprogs i z hz, fun i z hz => by simp only [aSc, List.length_map]; exact hsurfs i z hz⟩
      · repeat' (first | refine c_seq ?_ | refine c_region ?_ | refine c_nil ?_ | refine k_then ?_ | refine k_thenE ?_ | refine k_inE ?_ | refine c_ret ?_ | refine c_exit ?_ | refine c_condF h rfl ?_ | ((refine st_op rfl rfl h ?_); clear h a; (first | (show Does _ (.move _) _ _ _ _; refine does_move rfl ?_) | (show Does _ (.assign _) _ _ _ _; refine does_assign rfl ?_) | (show Does _ (.pick _ _ _) _ _ _ _; (refine does_pickF rfl rfl ?_)) | (show Does _ (.fieldAddr _ _ _) _ _ _ _; (refine does_fieldAddrL rfl ?_)) | (show Does _ (.load _ _) _ _ _ _; (refine does_loadO 0 hm rfl rfl rfl ?_)) | (show Does _ (.binOp _ _ _ _ _) _ _ _ _; (first | refine does_lssF rfl rfl (by omega) ?_ | refine does_eqlF rfl rfl (by omega) ?_))); intro a h; (try simp only [Value.cells, List.toList_toArray, splice, List.set_cons_zero, List.set_cons_succ, List.drop_zero, List.drop_succ_cons, List.take_succ_cons, List.take_zero, Nat.zero_add, Nat.reduceAdd, Nat.reduceMul, Int.reduceAdd, Int.reduceToNat, Int.reduceTMod, Nat.zero_mul, Nat.one_mul, Int.toNat_natCast] at h)) | ((refine st_skip rfl rfl h ?_); clear h a; intro a h))
        all_goals (refine k_ret1 rfl h rfl ⟨?_, hm.below⟩)
        all_goals exact boolF (fun e => hside e.side)
theorem sIsValidScene_ok (x : TScene) (hs : smSc x) (hb : ∀ z ∈ x.sh, bdP z) : FunP Tryz.prog 12 [.agg (eSc x).toArray] (fun H => SceneH H x) (.bool (dB (vScene (aSc x)))) := sIsValidSceneD_ok x hs.tex hs.progs hs.each (Nat.le_succ_of_le hs.surf) hb
end Go.Proofs.YtgmonjghbjaadaaGreatDoor.St
