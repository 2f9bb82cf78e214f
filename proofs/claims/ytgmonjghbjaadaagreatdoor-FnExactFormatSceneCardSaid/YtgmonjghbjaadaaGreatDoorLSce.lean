/-
  Contracts of the functions on scenes: sizes, copies, sameness.
-/
import Derived.Test.YtgmonjghbjaadaaGreatDoorJ19
import Derived.Test.YtgmonjghbjaadaaGreatDoorJ7
set_option linter.unusedSimpArgs false
set_option linter.unusedVariables false
namespace Go.Proofs.YtgmonjghbjaadaaGreatDoor.St
open Go.RowKit
/-- a scene as it lies -/
structure TScene where
  (cw ch cz cn : Int)
  cd : Bool
  (cl cf lg : Int)
  tx : List Int
  tp : Option Addr
  tc : Nat
  sh : List TProg
  sp : Option Addr
  sc : Nat
  su : List TSurface
  up : Option Addr
  uc : Nat
  sd : Int
/-- what it says -/
structure PScene where
  (cw ch cz cn : Int)
  cd : Bool
  (cl cf lg : Int)
  tx : List Int
  sh : List (List PNode × List TAssignment)
  su : List TSurface
  sd : Int
abbrev eSc (x : TScene) : List Value := [I x.cw, I x.ch, I x.cz, I x.cn, .bool x.cd, I x.cl, I x.cf, I x.lg, .slice x.tp x.tx.length x.tc, .slice x.sp x.sh.length x.sc, .slice x.up x.su.length x.uc, I x.sd]
abbrev aSc (x : TScene) : PScene := ⟨x.cw, x.ch, x.cz, x.cn, x.cd, x.cl, x.cf, x.lg, x.tx, x.sh.map aP, x.su, x.sd⟩
structure SceneH (B : Heap) (x : TScene) : Prop where
  tex : Sl B x.tp eI 1 x.tx
  progs : ProgsH B x.sp x.sh
  surf : Sl B x.up eSurface 26 x.su
theorem SceneH.mono {B B' : Heap} {x : TScene} (h : SceneH B x) (hB : Heap.le B B') : SceneH B' x := ⟨h.tex.mono hB, h.progs.mono hB, h.surf.mono hB⟩
theorem SceneH.up {W0 w : World} {X : List Nat} {B : Heap} {L : List Own} {x : TScene} (h : SceneH B x) (hm : Mem W0 X B L w) : SceneH (fun b => w.heap[b]?) x := h.mono hm.base
structure bdSc (x : TScene) : Prop where
  tex : x.tx.length ≤ 9223372036854775807
  progs : x.sh.length ≤ 9223372036854775807
  each : ∀ y ∈ x.sh, bdP y
  surf : x.su.length ≤ 9223372036854775807
structure smSc (x : TScene) : Prop where
  tex : x.tx.length ≤ 1048576
  progs : x.sh.length ≤ 1048576
  each : ∀ y ∈ x.sh, smP y
  surf : x.su.length ≤ 1048576
set_option maxHeartbeats 4000000 in
theorem szScene_ok (x : TScene) (left : Int) (hb : bdSc x) (hl : 0 ≤ left ∧ left ≤ 1048576) : FunV Tryz.prog 4 [.agg (eSc x).toArray, I left] (fun H => SceneH H x) (leftP left (smSc x)) := by
  obtain ⟨hb1, hb2, hb3, hb4⟩ := hb
  refine enterFunV Tryz.func4 rfl Tryz.ntmps4 rfl (fun W0 w a hp hm h => ?_)
  have hpr := hp.progs
  by_cases ht : (x.tx.length : Int) ≤ left
  · repeat' (first | refine c_seq ?_ | refine c_region ?_ | refine c_nil ?_ | refine k_then ?_ | refine k_thenR ?_ | refine c_skip ?_ | refine c_ret ?_ | refine c_condF h rfl ?_ | (refine st_op (d := 2) rfl rfl h ?_; refine does_box hm rfl rfl ?_; clear h a hm; intro b_2 w hm a h; (try simp only [Value.cells, List.toList_toArray, splice, List.set_cons_zero, List.set_cons_succ, List.drop_zero, List.drop_succ_cons, List.take_succ_cons, List.take_zero, Nat.zero_add, Nat.reduceAdd, Nat.reduceMul, Int.reduceAdd, Int.reduceToNat, Int.reduceTMod, Nat.zero_mul, Nat.one_mul, Int.toNat_natCast] at h)) | ((refine st_op rfl rfl h ?_); clear h a; (first | (show Does _ (.call _) _ _ _ _; (first | ((refine does_funVal hm en10 rfl (szProgramS_ok _ _ _ _ hb3 (by omega) (by omega)) (hpr.up hm) ?_; clear hm; rintro v w ⟨r1, rfl, hr1⟩ hm)) | (refine does_funM hm en9 rfl (szTexture_ok _ _ _ _ _ (by first | assumption | omega) (by first | assumption | omega)) ?_; clear hm; intro w hm) | (refine does_funM hm en11 rfl (szSurfaceS_ok _ _ _ _ (by first | assumption | omega) (by first | assumption | omega)) ?_; clear hm; intro w hm))) | (show Does _ (.move _) _ _ _ _; refine does_move rfl ?_) | (show Does _ (.assign _) _ _ _ _; refine does_assign rfl ?_) | (show Does _ (.fieldAddr _ _ _) _ _ _ _; (refine does_fieldAddrL rfl ?_)) | (show Does _ (.load _ _) _ _ _ _; (first | refine does_loadO 0 hm rfl rfl rfl ?_ | refine does_loadOA 0 hm rfl rfl rfl ?_)) | (show Does _ (.binOp _ _ _ _ _) _ _ _ _; (first | refine does_lssF rfl rfl (by omega) ?_ | refine does_lss rfl rfl ?_))); intro a h; (try simp only [Value.cells, List.toList_toArray, splice, List.set_cons_zero, List.set_cons_succ, List.drop_zero, List.drop_succ_cons, List.take_succ_cons, List.take_zero, Nat.zero_add, Nat.reduceAdd, Nat.reduceMul, Int.reduceAdd, Int.reduceToNat, Int.reduceTMod, Nat.zero_mul, Nat.one_mul, Int.toNat_natCast] at h)) | ((refine c_condD h rfl ?_ ?_) <;> intro hc <;> (try (fail))))
    all_goals first | exact k_ret1 rfl h rfl ⟨⟨_, rfl, .inl rfl⟩, hm.below⟩ | skip
    by_cases hs : (x.su.length : Int) ≤ r1
    · repeat' (fail)
      all_goals first | exact k_ret1 rfl h rfl ⟨⟨_, rfl, .inl rfl⟩, hm.below⟩ | skip
      obtain ⟨hr2, hr3, hr4⟩ := hr1.resolve_left (by omega)
      refine k_ret1 rfl h rfl ⟨⟨_, rfl, .inr ⟨by rw [if_neg (by omega)]; omega, by omega, hr3, hr4, by omega⟩⟩, hm.below⟩
    · repeat' (fail)
      all_goals exact k_ret1 rfl h rfl ⟨⟨_, rfl, .inl (by first | rfl | rw [if_pos (by omega)])⟩, hm.below⟩
  · repeat' (first | refine c_seq ?_ | refine c_region ?_ | refine c_nil ?_ | refine k_then ?_ | refine k_thenR ?_ | refine c_ret ?_ | refine c_condT h rfl ?_ | (refine st_op (d := 2) rfl rfl h ?_; refine does_box hm rfl rfl ?_; clear h a hm; intro b_2 w hm a h; (try simp only [Value.cells, List.toList_toArray, splice, List.set_cons_zero, List.set_cons_succ, List.drop_zero, List.drop_succ_cons, List.take_succ_cons, List.take_zero, Nat.zero_add, Nat.reduceAdd, Nat.reduceMul, Int.reduceAdd, Int.reduceToNat, Int.reduceTMod, Nat.zero_mul, Nat.one_mul, Int.toNat_natCast] at h)) | ((refine st_op rfl rfl h ?_); clear h a; (first | (show Does _ (.call _) _ _ _ _; ((refine does_funM hm en9 rfl (szTexture_ok _ _ _ _ _ (by first | assumption | omega) (by first | assumption | omega)) ?_; clear hm; intro w hm))) | (show Does _ (.move _) _ _ _ _; refine does_move rfl ?_) | (show Does _ (.assign _) _ _ _ _; refine does_assign rfl ?_) | (show Does _ (.fieldAddr _ _ _) _ _ _ _; (refine does_fieldAddrL rfl ?_)) | (show Does _ (.load _ _) _ _ _ _; (refine does_loadOA 0 hm rfl rfl rfl ?_)) | (show Does _ (.binOp _ _ _ _ _) _ _ _ _; (refine does_lssT rfl rfl (by omega) ?_))); intro a h; (try simp only [Value.cells, List.toList_toArray, splice, List.set_cons_zero, List.set_cons_succ, List.drop_zero, List.drop_succ_cons, List.take_succ_cons, List.take_zero, Nat.zero_add, Nat.reduceAdd, Nat.reduceMul, Int.reduceAdd, Int.reduceToNat, Int.reduceTMod, Nat.zero_mul, Nat.one_mul, Int.toNat_natCast] at h)))
    all_goals exact k_ret1 rfl h rfl ⟨⟨_, rfl, .inl (by first | rfl | rw [if_pos (by omega)])⟩, hm.below⟩
structure SceneR (s : PScene) (v : Value) (N : Heap) : Prop where
  out : ∃ x, v = .agg (eSc x).toArray ∧ aSc x = s ∧ SceneH N x
instance (s : PScene) : MonoR (SceneR s) := ⟨fun _ _ _ hle ⟨⟨x, h0, h1, h2⟩⟩ => ⟨⟨x, h0, h1, h2.mono hle⟩⟩⟩
set_option maxHeartbeats 2000000 in
theorem toCamera_ok (w h z n : Int) (d : Bool) (l f : Int) : Fun Tryz.prog 20 [.agg #[I w, I h, I z, I n, .bool d, I l, I f]] (.agg #[I w, I h, I z, I n, .bool d, I l, I f]) := by
  refine enterFun Tryz.func20 rfl Tryz.ntmps20 rfl (fun W0 w a hm h => ?_)
  repeat' (first | refine c_seq ?_ | refine c_region ?_ | refine c_nil ?_ | refine k_then ?_ | refine c_ret ?_ | ((first | refine st_op rfl rfl h ?_ | refine st_opn rfl h ?_); clear h a; (first | (show Does _ (.box _ _) _ _ _ _; (refine does_box hm rfl rfl ?_; clear hm; intro b w hm)) | (show Does _ (.alloc _) _ _ _ _; (refine does_alloc hm ?_; clear hm; intro b w hm)) | (show Does _ (.store _ _ _) _ _ _ _; (first | (refine does_storeO 0 hm rfl rfl rfl rfl rfl rfl rfl ?_; clear hm; intro w hm; (try simp only [Value.cells, List.toList_toArray, List.set_cons_zero, List.set_cons_succ, splice, Nat.zero_add, Nat.reduceAdd, Nat.reduceMul, Int.reduceAdd, Int.reduceToNat, Nat.zero_mul, Nat.one_mul, Int.toNat_natCast] at hm)) | (refine does_storeO 1 hm rfl rfl rfl rfl rfl rfl rfl ?_; clear hm; intro w hm; (try simp only [Value.cells, List.toList_toArray, List.set_cons_zero, List.set_cons_succ, splice, Nat.zero_add, Nat.reduceAdd, Nat.reduceMul, Int.reduceAdd, Int.reduceToNat, Nat.zero_mul, Nat.one_mul, Int.toNat_natCast] at hm)))) | (show Does _ (.fieldAddr _ _ _) _ _ _ _; (refine does_fieldAddrL rfl ?_)) | (show Does _ (.load _ _) _ _ _ _; (first | refine does_loadO 2 hm rfl rfl rfl ?_ | refine does_loadOA 0 hm rfl rfl rfl ?_))); intro a h; (try simp only [Value.cells, List.toList_toArray, splice, List.set_cons_zero, List.set_cons_succ, List.drop_zero, List.drop_succ_cons, List.take_succ_cons, List.take_zero, Nat.zero_add, Nat.reduceAdd, Nat.reduceMul, Int.reduceAdd, Int.reduceToNat, Int.reduceTMod, Nat.zero_mul, Nat.one_mul, Int.toNat_natCast] at h)))
  all_goals (refine k_ret (vs := [_]) rfl h ⟨rv_cellA (i := 1) hm rfl rfl rfl, trivial⟩ ⟨?_, hm.below⟩)
  all_goals (rfl)
set_option maxHeartbeats 2000000 in
theorem eqCamera_same (w h z n : Int) (d : Bool) (l f : Int) : Fun Tryz.prog 32 [.agg #[I w, I h, I z, I n, .bool d, I l, I f], .agg #[I w, I h, I z, I n, .bool d, I l, I f]] (.bool true) := by
  refine enterFun Tryz.func32 rfl Tryz.ntmps32 rfl (fun W0 w a hm h => ?_)
  repeat' (first | refine c_seq ?_ | refine c_region ?_ | refine c_nil ?_ | refine k_then ?_ | refine c_skip ?_ | refine c_ret ?_ | refine c_condF h rfl ?_ | ((refine st_op rfl rfl h ?_); clear h a; (first | (show Does _ (.box _ _) _ _ _ _; (refine does_box hm rfl rfl ?_; clear hm; intro b w hm)) | (show Does _ (.assign _) _ _ _ _; refine does_assign rfl ?_) | (show Does _ (.fieldAddr _ _ _) _ _ _ _; (refine does_fieldAddrL rfl ?_)) | (show Does _ (.load _ _) _ _ _ _; (first | refine does_loadO 0 hm rfl rfl rfl ?_ | refine does_loadO 1 hm rfl rfl rfl ?_)) | (show Does _ (.binOp _ _ _ _ _) _ _ _ _; (first | refine does_neqF rfl rfl (by omega) ?_ | refine does_neqBS (BoolT.out) rfl rfl ?_))); intro a h; (try simp only [Value.cells, List.toList_toArray, splice, List.set_cons_zero, List.set_cons_succ, List.drop_zero, List.drop_succ_cons, List.take_succ_cons, List.take_zero, Nat.zero_add, Nat.reduceAdd, Nat.reduceMul, Int.reduceAdd, Int.reduceToNat, Int.reduceTMod, Nat.zero_mul, Nat.one_mul, Int.toNat_natCast] at h)))
  all_goals (refine k_ret1 rfl h rfl ⟨?_, hm.below⟩)
  all_goals (rfl)
set_option maxHeartbeats 8000000 in
theorem toScene_ok (x : TScene) (hs : smSc x) : FunR Tryz.prog 6 [.agg (eSc x).toArray] (fun H => SceneH H x) (SceneR (aSc x)) := by
  obtain ⟨hs1, hs2, hs3, hs4⟩ := hs
  refine enterFunR Tryz.func6 rfl Tryz.ntmps6 rfl (fun W0 w a hp hm h => ?_)
  obtain ⟨hx, hy, hz⟩ := hp
  repeat' (first | refine c_seq ?_ | refine c_region ?_ | refine c_nil ?_ | refine k_then ?_ | (refine st_op (d := 1) rfl rfl h ?_; refine does_box hm rfl rfl ?_; clear h a hm; intro b_1 w hm a h; (try simp only [Value.cells, List.toList_toArray, splice, List.set_cons_zero, List.set_cons_succ, List.drop_zero, List.drop_succ_cons, List.take_succ_cons, List.take_zero, Nat.zero_add, Nat.reduceAdd, Nat.reduceMul, Int.reduceAdd, Int.reduceToNat, Int.reduceTMod, Nat.zero_mul, Nat.one_mul, Int.toNat_natCast] at h)) | (refine st_op (d := 2) rfl rfl h ?_; refine does_alloc hm ?_; clear h a hm; intro b_2 w hm a h; (try simp only [Value.cells, List.toList_toArray, splice, List.set_cons_zero, List.set_cons_succ, List.drop_zero, List.drop_succ_cons, List.take_succ_cons, List.take_zero, Nat.zero_add, Nat.reduceAdd, Nat.reduceMul, Int.reduceAdd, Int.reduceToNat, Int.reduceTMod, Nat.zero_mul, Nat.one_mul, Int.toNat_natCast] at h)) | (refine st_op (d := 3) rfl rfl h ?_; refine does_alloc hm ?_; clear h a hm; intro b_3 w hm a h; (try simp only [Value.cells, List.toList_toArray, splice, List.set_cons_zero, List.set_cons_succ, List.drop_zero, List.drop_succ_cons, List.take_succ_cons, List.take_zero, Nat.zero_add, Nat.reduceAdd, Nat.reduceMul, Int.reduceAdd, Int.reduceToNat, Int.reduceTMod, Nat.zero_mul, Nat.one_mul, Int.toNat_natCast] at h)) | ((first | refine st_op rfl rfl h ?_ | refine st_opn rfl h ?_); clear h a; (first | (show Does _ (.call _) _ _ _ _; ((refine does_funM hm en20 rfl (toCamera_ok _ _ _ _ _ _ _) ?_; clear hm; intro w hm))) | (show Does _ (.store _ _ _) _ _ _ _; ((refine does_storeO 0 hm rfl rfl rfl rfl rfl rfl rfl ?_; clear hm; intro w hm; (try simp only [Value.cells, List.toList_toArray, List.set_cons_zero, List.set_cons_succ, splice, Nat.zero_add, Nat.reduceAdd, Nat.reduceMul, Int.reduceAdd, Int.reduceToNat, Nat.zero_mul, Nat.one_mul, Int.toNat_natCast] at hm)))) | (show Does _ (.fieldAddr _ _ _) _ _ _ _; (refine does_fieldAddrL rfl ?_)) | (show Does _ (.load _ _) _ _ _ _; (refine does_loadOA 2 hm rfl rfl rfl ?_))); intro a h; (try simp only [Value.cells, List.toList_toArray, splice, List.set_cons_zero, List.set_cons_succ, List.drop_zero, List.drop_succ_cons, List.take_succ_cons, List.take_zero, Nat.zero_add, Nat.reduceAdd, Nat.reduceMul, Int.reduceAdd, Int.reduceToNat, Int.reduceTMod, Nat.zero_mul, Nat.one_mul, Int.toNat_natCast] at h)))
  refine st_op rfl rfl h ?_; clear h a; refine does_funRN hm en21 rfl (toTextureR_ok _ _ x.tx _ hs1) (hx.up hm) ?_; clear hm; rintro v w N B HB HN ⟨p1, c1, rfl, hc1, hcm1, hn1⟩ hm a h
  replace hy := hy.mono HB
  replace hz := hz.mono HB
  replace hn1 := hn1.mono HN
  repeat' (first | refine c_seq ?_ | refine c_region ?_ | refine c_nil ?_ | refine k_then ?_ | ((first | refine st_op rfl rfl h ?_ | refine st_opn rfl h ?_); clear h a; (first | (show Does _ (.store _ _ _) _ _ _ _; ((refine does_storeO 0 hm rfl rfl rfl rfl rfl rfl rfl ?_; clear hm; intro w hm; (try simp only [Value.cells, List.toList_toArray, List.set_cons_zero, List.set_cons_succ, splice, Nat.zero_add, Nat.reduceAdd, Nat.reduceMul, Int.reduceAdd, Int.reduceToNat, Nat.zero_mul, Nat.one_mul, Int.toNat_natCast] at hm)))) | (show Does _ (.fieldAddr _ _ _) _ _ _ _; (refine does_fieldAddrL rfl ?_)) | (show Does _ (.load _ _) _ _ _ _; (refine does_loadO 2 hm rfl rfl rfl ?_))); intro a h; (try simp only [Value.cells, List.toList_toArray, splice, List.set_cons_zero, List.set_cons_succ, List.drop_zero, List.drop_succ_cons, List.take_succ_cons, List.take_zero, Nat.zero_add, Nat.reduceAdd, Nat.reduceMul, Int.reduceAdd, Int.reduceToNat, Int.reduceTMod, Nat.zero_mul, Nat.one_mul, Int.toNat_natCast] at h)))
  refine st_op rfl rfl h ?_; clear h a; refine does_funRN hm en22 rfl (toProgramS_ok _ x.sh _ hs2 hs3) (hy.up hm) ?_; clear hm; rintro v w N2 B2 HB2 HN2 ⟨⟨p2, c2, xs2, rfl, hc2, ha2, hn2⟩⟩ hm a h
  replace hz := hz.mono HB2
  replace hn1 := hn1.mono (newPart_mono HB2)
  replace hn2 := hn2.mono HN2
  repeat' (first | refine c_seq ?_ | refine c_region ?_ | refine c_nil ?_ | refine k_then ?_ | ((first | refine st_op rfl rfl h ?_ | refine st_opn rfl h ?_); clear h a; (first | (show Does _ (.store _ _ _) _ _ _ _; ((refine does_storeO 0 hm rfl rfl rfl rfl rfl rfl rfl ?_; clear hm; intro w hm; (try simp only [Value.cells, List.toList_toArray, List.set_cons_zero, List.set_cons_succ, splice, Nat.zero_add, Nat.reduceAdd, Nat.reduceMul, Int.reduceAdd, Int.reduceToNat, Nat.zero_mul, Nat.one_mul, Int.toNat_natCast] at hm)))) | (show Does _ (.fieldAddr _ _ _) _ _ _ _; (refine does_fieldAddrL rfl ?_)) | (show Does _ (.load _ _) _ _ _ _; (refine does_loadO 2 hm rfl rfl rfl ?_))); intro a h; (try simp only [Value.cells, List.toList_toArray, splice, List.set_cons_zero, List.set_cons_succ, List.drop_zero, List.drop_succ_cons, List.take_succ_cons, List.take_zero, Nat.zero_add, Nat.reduceAdd, Nat.reduceMul, Int.reduceAdd, Int.reduceToNat, Int.reduceTMod, Nat.zero_mul, Nat.one_mul, Int.toNat_natCast] at h)))
  refine st_op rfl rfl h ?_; clear h a; refine does_funN hm en23 rfl (toSurfaceS_ok _ _ _ (by omega)) (by repeat' (exact Sl.up (by assumption) hm)) ?_; clear hm; intro v w hm a h
  obtain ⟨B5, p5, c5, hB5, hmx, rfl, hcc5, hcm5, hs5⟩ := hm.frozenN (fun _ => rfl) (by omega); clear hm; have hm := hmx; clear hmx
  replace hn1 := hn1.mono (newPart_mono hB5)
  replace hn2 := hn2.mono (newPart_mono hB5)
  repeat' (first | refine c_seq ?_ | refine c_region ?_ | refine c_nil ?_ | refine k_then ?_ | refine c_ret ?_ | ((first | refine st_op rfl rfl h ?_ | refine st_opn rfl h ?_); clear h a; (first | (show Does _ (.store _ _ _) _ _ _ _; (first | (refine does_storeO 0 hm rfl rfl rfl rfl rfl rfl rfl ?_; clear hm; intro w hm; (try simp only [Value.cells, List.toList_toArray, List.set_cons_zero, List.set_cons_succ, splice, Nat.zero_add, Nat.reduceAdd, Nat.reduceMul, Int.reduceAdd, Int.reduceToNat, Nat.zero_mul, Nat.one_mul, Int.toNat_natCast] at hm)) | (refine does_storeO 1 hm rfl rfl rfl rfl rfl rfl rfl ?_; clear hm; intro w hm; (try simp only [Value.cells, List.toList_toArray, List.set_cons_zero, List.set_cons_succ, splice, Nat.zero_add, Nat.reduceAdd, Nat.reduceMul, Int.reduceAdd, Int.reduceToNat, Nat.zero_mul, Nat.one_mul, Int.toNat_natCast] at hm)))) | (show Does _ (.fieldAddr _ _ _) _ _ _ _; (refine does_fieldAddrL rfl ?_)) | (show Does _ (.load _ _) _ _ _ _; (first | refine does_loadO 2 hm rfl rfl rfl ?_ | refine does_loadOA 0 hm rfl rfl rfl ?_))); intro a h; (try simp only [Value.cells, List.toList_toArray, splice, List.set_cons_zero, List.set_cons_succ, List.drop_zero, List.drop_succ_cons, List.take_succ_cons, List.take_zero, Nat.zero_add, Nat.reduceAdd, Nat.reduceMul, Int.reduceAdd, Int.reduceToNat, Int.reduceTMod, Nat.zero_mul, Nat.one_mul, Int.toNat_natCast] at h)))
  have hnew := newPart_new hm
  have hfin : SceneR (aSc x) (.agg (eSc ⟨x.cw, x.ch, x.cz, x.cn, x.cd, x.cl, x.cf, x.lg, x.tx, p1, c1, xs2, p2, c2, x.su, p5, c5, x.sd⟩).toArray) (newHeap W0 w) := ⟨⟨_, rfl, by simp only [aSc, ha2], hn1.mono hnew, hn2.mono hnew, hs5.mono hnew⟩⟩
  first | exact k_ret (vs := [_]) rfl h ⟨rv_cellA (i := 1) hm rfl rfl rfl, trivial⟩ ⟨hm.below, hfin⟩ | exact k_ret (vs := [_]) rfl h ⟨rv_cellA (i := 2) hm rfl rfl rfl, trivial⟩ ⟨hm.below, hfin⟩ | exact k_ret (vs := [_]) rfl h ⟨rv_cellA (i := 0) hm rfl rfl rfl, trivial⟩ ⟨hm.below, hfin⟩
set_option maxHeartbeats 4000000 in
theorem eqScene_same (x y : TScene) (hxy : aSc x = aSc y) (hs : smSc x) : FunP Tryz.prog 8 [.agg (eSc x).toArray, .agg (eSc y).toArray] (fun H => SceneH H x ∧ SceneH H y) (.bool true) := by
  obtain ⟨x1, x2, x3, x4, x5, x6, x7, x8, x9, x10, x11, xsh, x13, x14, x15, x16, x17, x18⟩ := x
  obtain ⟨y1, y2, y3, y4, y5, y6, y7, y8, y9, y10, y11, ysh, y13, y14, y15, y16, y17, y18⟩ := y
  obtain ⟨hs1, hs2, hs3, hs4⟩ := hs
  simp only [aSc, PScene.mk.injEq] at hxy
  obtain ⟨rfl, rfl, rfl, rfl, rfl, rfl, rfl, rfl, rfl, hsh, rfl, rfl⟩ := hxy
  simp only at hs1 hs2 hs3 hs4
  refine enterFunP Tryz.func8 rfl Tryz.ntmps8 rfl (fun W0 w a hp hm h => ?_)
  obtain ⟨⟨t1, r1, u1⟩, t2, r2, u2⟩ := hp
  simp only at t1 r1 u1 t2 r2 u2
  repeat' (first | refine c_seq ?_ | refine c_region ?_ | refine c_nil ?_ | refine k_then ?_ | refine c_skip ?_ | refine c_ret ?_ | refine c_condF h rfl ?_ | (refine st_op (d := 2) rfl rfl h ?_; refine does_box hm rfl rfl ?_; clear h a hm; intro b_2 w hm a h; (try simp only [Value.cells, List.toList_toArray, splice, List.set_cons_zero, List.set_cons_succ, List.drop_zero, List.drop_succ_cons, List.take_succ_cons, List.take_zero, Nat.zero_add, Nat.reduceAdd, Nat.reduceMul, Int.reduceAdd, Int.reduceToNat, Int.reduceTMod, Nat.zero_mul, Nat.one_mul, Int.toNat_natCast] at h)) | (refine st_op (d := 3) rfl rfl h ?_; refine does_box hm rfl rfl ?_; clear h a hm; intro b_3 w hm a h; (try simp only [Value.cells, List.toList_toArray, splice, List.set_cons_zero, List.set_cons_succ, List.drop_zero, List.drop_succ_cons, List.take_succ_cons, List.take_zero, Nat.zero_add, Nat.reduceAdd, Nat.reduceMul, Int.reduceAdd, Int.reduceToNat, Int.reduceTMod, Nat.zero_mul, Nat.one_mul, Int.toNat_natCast] at h)) | ((refine st_op rfl rfl h ?_); clear h a; (first | (show Does _ (.call _) _ _ _ _; (first | ((refine does_funP hm en34 rfl (eqProgramS_same _ _ xsh ysh _ _ hsh hs2 hs3) ⟨r1.up hm, r2.up hm⟩ ?_; clear hm; intro w hm)) | (refine does_funM hm en32 rfl (eqCamera_same _ _ _ _ _ _ _) ?_; clear hm; intro w hm) | (refine does_funP2 hm en33 rfl (by repeat' (first | with_reducible refine And.intro ?_ ?_ | exact Sl.up (by assumption) hm)) (eqTexture_same _ _ _ _ _ _ (by omega)) ?_; clear hm; intro w hm) | (refine does_funP2 hm en35 rfl (by repeat' (first | with_reducible refine And.intro ?_ ?_ | exact Sl.up (by assumption) hm)) (eqSurfaceS_same _ _ _ _ _ (by omega)) ?_; clear hm; intro w hm))) | (show Does _ (.assign _) _ _ _ _; refine does_assign rfl ?_) | (show Does _ (.fieldAddr _ _ _) _ _ _ _; (refine does_fieldAddrL rfl ?_)) | (show Does _ (.load _ _) _ _ _ _; (first | refine does_loadO 0 hm rfl rfl rfl ?_ | refine does_loadO 1 hm rfl rfl rfl ?_ | refine does_loadOA 0 hm rfl rfl rfl ?_ | refine does_loadOA 1 hm rfl rfl rfl ?_)) | (show Does _ (.binOp _ _ _ _ _) _ _ _ _; (refine does_neqF rfl rfl (by omega) ?_)) | (show Does _ (.unOp _ _ _) _ _ _ _; (refine does_not rfl ?_))); intro a h; (try simp only [Value.cells, List.toList_toArray, splice, List.set_cons_zero, List.set_cons_succ, List.drop_zero, List.drop_succ_cons, List.take_succ_cons, List.take_zero, Nat.zero_add, Nat.reduceAdd, Nat.reduceMul, Int.reduceAdd, Int.reduceToNat, Int.reduceTMod, Nat.zero_mul, Nat.one_mul, Int.toNat_natCast] at h)))
  all_goals first | exact absurd rfl hc | ((refine k_ret1 rfl h rfl ⟨?_, hm.below⟩); rfl)
end Go.Proofs.YtgmonjghbjaadaaGreatDoor.St
