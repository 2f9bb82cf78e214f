/-
  The order of a scene's surfaces by depth: the comparison; the program's DepthOrder.
-/
import Derived.Test.YtaiiiendfcglmaaLStb
import Derived.Test.YtaiiiendfcglmaaLSrf2
import Derived.Test.YtaiiiendfcglmaaLSce
import Derived.Test.YtaiiiendfcglmaaLAxw
import Derived.Test.YtaiiiendfcglmaaLCin
import Derived.Test.YtaiiiendfcglmaaStMap
import Derived.Test.YtaiiiendfcglmaaStCat
import Derived.Test.YtaiiiendfcglmaaStArr
set_option linter.unusedSimpArgs false
set_option linter.unusedVariables false
namespace Go.Proofs.Ytaiiiendfcglmaa.St
open Go.RowKit
def cmpI (x y : Int) : Int := if x < y then -1 else if y < x then 1 else 0
def or2 (x y : Int) : Int := if x ≠ 0 then x else y
set_option maxHeartbeats 2000000 in
theorem isNaNI_ok (n : Int) : Fun Try.prog 44 [I n] (.bool false) := by
  refine enterFun Try.func44 rfl Try.ntmps44 rfl (fun W0 w a hm h => ?_)
  repeat' (first | refine c_seq ?_ | refine c_region ?_ | refine c_nil ?_ | refine k_then ?_ | refine c_ret ?_ | ((refine st_op rfl rfl h ?_); clear h a; (first | (show Does _ (.move _) _ _ _ _; refine does_move rfl ?_) | (show Does _ (.assign _) _ _ _ _; refine does_assign rfl ?_) | (show Does _ (.binOp _ _ _ _ _) _ _ _ _; (refine does_neqF rfl rfl (by omega) ?_))); intro a h; (try simp only [Value.cells, List.toList_toArray, splice, List.set_cons_zero, List.set_cons_succ, List.drop_zero, List.drop_succ_cons, List.take_succ_cons, List.take_zero, Nat.zero_add, Nat.reduceAdd, Nat.reduceMul, Int.reduceAdd, Int.reduceToNat, Int.reduceTMod, Nat.zero_mul, Nat.one_mul, Int.toNat_natCast] at h)))
  all_goals (refine k_ret1 rfl h rfl ⟨?_, hm.below⟩)
  all_goals (rfl)
set_option maxHeartbeats 2000000 in
theorem cmpI_ok (x y : Int) : Fun Try.prog 28 [I x, I y] (I (cmpI x y)) := by
  refine enterFun Try.func28 rfl Try.ntmps28 rfl (fun W0 w a hm h => ?_)
  repeat' (first | refine c_seq ?_ | refine c_region ?_ | refine c_nil ?_ | refine k_then ?_ | refine k_thenR ?_ | refine c_skip ?_ | refine c_ret ?_ | refine c_condF h rfl ?_ | ((refine st_op rfl rfl h ?_); clear h a; (first | (show Does _ (.call _) _ _ _ _; ((refine does_funM hm en44 rfl (isNaNI_ok _) ?_; clear hm; intro w hm))) | (show Does _ (.move _) _ _ _ _; refine does_move rfl ?_) | (show Does _ (.assign _) _ _ _ _; refine does_assign rfl ?_) | (show Does _ (.binOp _ _ _ _ _) _ _ _ _; (first | refine does_lss rfl rfl ?_ | refine does_gtr rfl rfl ?_))); intro a h; (try simp only [Value.cells, List.toList_toArray, splice, List.set_cons_zero, List.set_cons_succ, List.drop_zero, List.drop_succ_cons, List.take_succ_cons, List.take_zero, Nat.zero_add, Nat.reduceAdd, Nat.reduceMul, Int.reduceAdd, Int.reduceToNat, Int.reduceTMod, Nat.zero_mul, Nat.one_mul, Int.toNat_natCast] at h)) | ((refine c_condD h rfl ?_ ?_) <;> intro hc <;> (try (fail))))
  all_goals (refine k_ret1 rfl h rfl ⟨?_, hm.below⟩)
  all_goals (((exact intE (by unfold cmpI; repeat' split <;> omega)); done))
set_option maxHeartbeats 2000000 in
theorem or2_ok (q : Addr) (x y : Int) (c : Nat) : FunP Try.prog 27 [.slice (some q) 2 c] (fun H => At H q [I x, I y]) (I (or2 x y)) := by
  refine enterFunP Try.func27 rfl Try.ntmps27 rfl (fun W0 w a hp hm h => ?_)
  have h1 : At (fun b => W0.heap[b]?) (q.add 1) [I y] := hp.add 1
  have h0 : At (fun b => W0.heap[b]?) (q.add 0) [I x, I y] := hp.add 0
  by_cases hx : x = 0
  · by_cases hy : y = 0
    all_goals
      repeat' (first | refine c_seq ?_ | refine c_region ?_ | refine c_nil ?_ | refine k_then ?_ | refine k_thenL ?_ | refine k_thenR ?_ | refine k_thenE ?_ | refine k_inN ?_ | refine k_inR ?_ | refine k_inE ?_ | refine c_skip ?_ | refine c_ret ?_ | refine c_exit ?_ | refine c_block ?_ | refine r_succ ?_ | refine c_condT h rfl ?_ | refine c_condF h rfl ?_ | (refine c_rounds 4 ?_) | ((refine st_op rfl rfl h ?_); clear h a; (first | (show Does _ (.move _) _ _ _ _; refine does_move rfl ?_) | (show Does _ (.assign _) _ _ _ _; refine does_assign rfl ?_) | (show Does _ (.load _ _) _ _ _ _; (refine does_loadB hm rfl (by assumption) rfl ?_)) | (show Does _ (.binOp _ _ _ _ _) _ _ _ _; (first | refine does_lssT rfl rfl (by omega) ?_ | refine does_lssF rfl rfl (by omega) ?_ | refine does_neqT rfl rfl (by omega) ?_ | refine does_neqF rfl rfl (by omega) ?_ | refine does_add rfl rfl (by omega) ?_)) | (show Does _ (.call _) _ _ _ _; refine does_lenS (SliceT.out) rfl ?_) | (show Does _ (.indexAddr _ _ _) _ _ _ _; (refine does_indexS1m (by omega) rfl rfl ?_))); intro a h; (try simp only [Value.cells, List.toList_toArray, splice, List.set_cons_zero, List.set_cons_succ, List.drop_zero, List.drop_succ_cons, List.take_succ_cons, List.take_zero, Nat.zero_add, Nat.reduceAdd, Nat.reduceMul, Int.reduceAdd, Int.reduceToNat, Int.reduceTMod, Nat.zero_mul, Nat.one_mul, Int.toNat_natCast] at h)))
      all_goals (refine k_ret1 rfl h rfl ⟨?_, hm.below⟩)
      all_goals exact intE (by simp [or2, hx, hy])
  · repeat' (first | refine c_seq ?_ | refine c_region ?_ | refine c_nil ?_ | refine k_then ?_ | refine k_thenR ?_ | refine k_inR ?_ | refine c_skip ?_ | refine c_ret ?_ | refine c_block ?_ | refine r_succ ?_ | refine c_condT h rfl ?_ | (refine c_rounds 4 ?_) | ((refine st_op rfl rfl h ?_); clear h a; (first | (show Does _ (.move _) _ _ _ _; refine does_move rfl ?_) | (show Does _ (.assign _) _ _ _ _; refine does_assign rfl ?_) | (show Does _ (.load _ _) _ _ _ _; (refine does_loadB hm rfl (by assumption) rfl ?_)) | (show Does _ (.binOp _ _ _ _ _) _ _ _ _; (first | refine does_lssT rfl rfl (by omega) ?_ | refine does_neqT rfl rfl (by omega) ?_)) | (show Does _ (.call _) _ _ _ _; refine does_lenS (SliceT.out) rfl ?_) | (show Does _ (.indexAddr _ _ _) _ _ _ _; (refine does_indexS1m (by omega) rfl rfl ?_))); intro a h; (try simp only [Value.cells, List.toList_toArray, splice, List.set_cons_zero, List.set_cons_succ, List.drop_zero, List.drop_succ_cons, List.take_succ_cons, List.take_zero, Nat.zero_add, Nat.reduceAdd, Nat.reduceMul, Int.reduceAdd, Int.reduceToNat, Int.reduceTMod, Nat.zero_mul, Nat.one_mul, Int.toNat_natCast] at h)))
    all_goals (refine k_ret1 rfl h rfl ⟨?_, hm.below⟩)
    all_goals exact intE (by simp [or2, hx])
/-- the least depth of a surface -/
abbrev nrS (S : TSurface) : Int := (G.SC S.x0 S.y0 S.z0 S.x1 S.y1 S.z1 S.x2 S.y2 S.z2 S.x3 S.y3 S.z3 S.u0 S.v0 S.w0 S.u1 S.v1 S.w1 S.u2 S.v2 S.w2 S.u3 S.v3 S.w3).1.2.2
def nrK (su : List TSurface) (k : Int) : Int := match su[k.toNat]? with
  | some S => nrS S
  | none => 0
theorem nrK_get {su : List TSurface} {k : Nat} (h : k < su.length) : nrK su (k : Int) = nrS su[k] := by
  unfold nrK
  rw [Int.toNat_natCast, List.getElem?_eq_getElem h]
theorem kk_or {nr : Int → Int} {a b : Int} : kk nr a b = or2 (cmpI (nr a) (nr b)) (cmpI a b) := by
  unfold kk or2 cmpI
  split <;> (try split) <;> (try split) <;> (try split) <;> simp_all
set_option maxHeartbeats 8000000 in
theorem clo_ok (x : TScene) (q : Addr) (i j : Nat) (hi : i < x.su.length) (hj : j < x.su.length) (hsu : x.su.length ≤ 1048576) : FunP Try.prog 26 [I i, I j, .pointer (some q)] (fun H => At H q (eSc x) ∧ SceneH H x) (I (kk (nrK x.su) i j)) := by
  refine enterFunP Try.func26 rfl Try.ntmps26 rfl (fun W0 w a hp hm h => ?_)
  obtain ⟨hq, hx⟩ := hp
  have hs := hx.surf
  obtain ⟨p1, e1, hat1⟩ := hs.at hi
  obtain ⟨p2, e2, hat2⟩ := hs.at hj
  rw [e1] at e2
  cases e2
  have hq10 : At (fun b => W0.heap[b]?) (q.add 10) [.slice x.up x.su.length x.uc, I x.sd] := hq.add 10
  rw [e1] at hq10
  repeat' (first | refine c_seq ?_ | refine c_region ?_ | refine c_nil ?_ | refine k_then ?_ | ((refine st_op rfl rfl h ?_); clear h a; ((show Does _ (.assign _) _ _ _ _; refine does_assign rfl ?_)); intro a h; (try simp only [Value.cells, List.toList_toArray, splice, List.set_cons_zero, List.set_cons_succ, List.drop_zero, List.drop_succ_cons, List.take_succ_cons, List.take_zero, Nat.zero_add, Nat.reduceAdd, Nat.reduceMul, Int.reduceAdd, Int.reduceToNat, Int.reduceTMod, Nat.zero_mul, Nat.one_mul, Int.toNat_natCast] at h)))
  refine hw_region ([]) mixed hm ?_; clear hm; intro w hm
  refine hw_take 0 rfl (by kernel_rfl) (by kernel_rfl) (by kernel_rfl) rfl rfl rfl h (hm.sub (by repeat' (exact List.Sublist.refl _))) (fun w hm => by (refine does_fieldAddr rfl ?_) <;> exact ⟨rfl, rfl⟩) ?_; clear h a; intro a h; (try simp only [Value.cells, List.toList_toArray, splice, List.set_cons_zero, List.set_cons_succ, List.drop_zero, List.drop_succ_cons, List.take_succ_cons, List.take_zero, Nat.zero_add, Nat.reduceAdd, Nat.reduceMul, Int.reduceAdd, Int.reduceToNat, Int.reduceTMod, Nat.zero_mul, Nat.one_mul, Int.toNat_natCast] at h)
  refine hw_take 1 rfl (by kernel_rfl) (by kernel_rfl) (by kernel_rfl) rfl rfl rfl h (hm.sub (by repeat' (exact List.Sublist.refl _))) (fun w hm => by (refine does_loadB hm rfl (by assumption) rfl ?_) <;> exact ⟨rfl, rfl⟩) ?_; clear h a; intro a h; (try simp only [Value.cells, List.toList_toArray, splice, List.set_cons_zero, List.set_cons_succ, List.drop_zero, List.drop_succ_cons, List.take_succ_cons, List.take_zero, Nat.zero_add, Nat.reduceAdd, Nat.reduceMul, Int.reduceAdd, Int.reduceToNat, Int.reduceTMod, Nat.zero_mul, Nat.one_mul, Int.toNat_natCast] at h)
  refine hw_take 2 rfl (by kernel_rfl) (by kernel_rfl) (by kernel_rfl) rfl rfl rfl h (hm.sub (by repeat' (exact List.Sublist.refl _))) (fun w hm => by refine does_move rfl ?_ <;> exact ⟨rfl, rfl⟩) ?_; clear h a; intro a h; (try simp only [Value.cells, List.toList_toArray, splice, List.set_cons_zero, List.set_cons_succ, List.drop_zero, List.drop_succ_cons, List.take_succ_cons, List.take_zero, Nat.zero_add, Nat.reduceAdd, Nat.reduceMul, Int.reduceAdd, Int.reduceToNat, Int.reduceTMod, Nat.zero_mul, Nat.one_mul, Int.toNat_natCast] at h)
  refine hw_take 3 rfl (by kernel_rfl) (by kernel_rfl) (by kernel_rfl) rfl rfl rfl h (hm.sub (by repeat' (exact List.Sublist.refl _))) (fun w hm => by (refine does_indexSn (by omega) rfl rfl ?_) <;> exact ⟨rfl, rfl⟩) ?_; clear h a; intro a h; (try simp only [Value.cells, List.toList_toArray, splice, List.set_cons_zero, List.set_cons_succ, List.drop_zero, List.drop_succ_cons, List.take_succ_cons, List.take_zero, Nat.zero_add, Nat.reduceAdd, Nat.reduceMul, Int.reduceAdd, Int.reduceToNat, Int.reduceTMod, Nat.zero_mul, Nat.one_mul, Int.toNat_natCast] at h)
  refine hw_take 4 rfl (by kernel_rfl) (by kernel_rfl) (by kernel_rfl) rfl rfl rfl h (hm.sub (by repeat' (exact List.Sublist.refl _))) (fun w hm => by (refine does_loadBA hm rfl (by assumption) rfl ?_) <;> exact ⟨rfl, rfl⟩) ?_; clear h a; intro a h; (try simp only [Value.cells, List.toList_toArray, splice, List.set_cons_zero, List.set_cons_succ, List.drop_zero, List.drop_succ_cons, List.take_succ_cons, List.take_zero, Nat.zero_add, Nat.reduceAdd, Nat.reduceMul, Int.reduceAdd, Int.reduceToNat, Int.reduceTMod, Nat.zero_mul, Nat.one_mul, Int.toNat_natCast] at h)
  refine hw_take 6 rfl (by kernel_rfl) (by kernel_rfl) (by kernel_rfl) rfl rfl rfl h (hm.sub (by repeat' (exact List.Sublist.refl _))) (fun w hm => by (refine does_fieldAddr rfl ?_) <;> exact ⟨rfl, rfl⟩) ?_; clear h a; intro a h; (try simp only [Value.cells, List.toList_toArray, splice, List.set_cons_zero, List.set_cons_succ, List.drop_zero, List.drop_succ_cons, List.take_succ_cons, List.take_zero, Nat.zero_add, Nat.reduceAdd, Nat.reduceMul, Int.reduceAdd, Int.reduceToNat, Int.reduceTMod, Nat.zero_mul, Nat.one_mul, Int.toNat_natCast] at h)
  refine hw_take 7 rfl (by kernel_rfl) (by kernel_rfl) (by kernel_rfl) rfl rfl rfl h (hm.sub (by repeat' (exact List.Sublist.refl _))) (fun w hm => by (refine does_loadB hm rfl (by assumption) rfl ?_) <;> exact ⟨rfl, rfl⟩) ?_; clear h a; intro a h; (try simp only [Value.cells, List.toList_toArray, splice, List.set_cons_zero, List.set_cons_succ, List.drop_zero, List.drop_succ_cons, List.take_succ_cons, List.take_zero, Nat.zero_add, Nat.reduceAdd, Nat.reduceMul, Int.reduceAdd, Int.reduceToNat, Int.reduceTMod, Nat.zero_mul, Nat.one_mul, Int.toNat_natCast] at h)
  refine hw_take 8 rfl (by kernel_rfl) (by kernel_rfl) (by kernel_rfl) rfl rfl rfl h (hm.sub (by repeat' (exact List.Sublist.refl _))) (fun w hm => by refine does_move rfl ?_ <;> exact ⟨rfl, rfl⟩) ?_; clear h a; intro a h; (try simp only [Value.cells, List.toList_toArray, splice, List.set_cons_zero, List.set_cons_succ, List.drop_zero, List.drop_succ_cons, List.take_succ_cons, List.take_zero, Nat.zero_add, Nat.reduceAdd, Nat.reduceMul, Int.reduceAdd, Int.reduceToNat, Int.reduceTMod, Nat.zero_mul, Nat.one_mul, Int.toNat_natCast] at h)
  refine hw_take 9 rfl (by kernel_rfl) (by kernel_rfl) (by kernel_rfl) rfl rfl rfl h (hm.sub (by repeat' (exact List.Sublist.refl _))) (fun w hm => by (refine does_indexSn (by omega) rfl rfl ?_) <;> exact ⟨rfl, rfl⟩) ?_; clear h a; intro a h; (try simp only [Value.cells, List.toList_toArray, splice, List.set_cons_zero, List.set_cons_succ, List.drop_zero, List.drop_succ_cons, List.take_succ_cons, List.take_zero, Nat.zero_add, Nat.reduceAdd, Nat.reduceMul, Int.reduceAdd, Int.reduceToNat, Int.reduceTMod, Nat.zero_mul, Nat.one_mul, Int.toNat_natCast] at h)
  refine hw_take 10 rfl (by kernel_rfl) (by kernel_rfl) (by kernel_rfl) rfl rfl rfl h (hm.sub (by repeat' (exact List.Sublist.refl _))) (fun w hm => by (refine does_loadBA hm rfl (by assumption) rfl ?_) <;> exact ⟨rfl, rfl⟩) ?_; clear h a; intro a h; (try simp only [Value.cells, List.toList_toArray, splice, List.set_cons_zero, List.set_cons_succ, List.drop_zero, List.drop_succ_cons, List.take_succ_cons, List.take_zero, Nat.zero_add, Nat.reduceAdd, Nat.reduceMul, Int.reduceAdd, Int.reduceToNat, Int.reduceTMod, Nat.zero_mul, Nat.one_mul, Int.toNat_natCast] at h)
  refine hw_take 13 rfl (by kernel_rfl) (by kernel_rfl) (by kernel_rfl) rfl rfl rfl h (hm.sub (by repeat' (exact List.Sublist.refl _))) (fun w hm => by refine does_move rfl ?_ <;> exact ⟨rfl, rfl⟩) ?_; clear h a; intro a h; (try simp only [Value.cells, List.toList_toArray, splice, List.set_cons_zero, List.set_cons_succ, List.drop_zero, List.drop_succ_cons, List.take_succ_cons, List.take_zero, Nat.zero_add, Nat.reduceAdd, Nat.reduceMul, Int.reduceAdd, Int.reduceToNat, Int.reduceTMod, Nat.zero_mul, Nat.one_mul, Int.toNat_natCast] at h)
  refine hw_take 14 rfl (by kernel_rfl) (by kernel_rfl) (by kernel_rfl) rfl rfl rfl h (hm.sub (by repeat' (exact List.Sublist.refl _))) (fun w hm => by refine does_move rfl ?_ <;> exact ⟨rfl, rfl⟩) ?_; clear h a; intro a h; (try simp only [Value.cells, List.toList_toArray, splice, List.set_cons_zero, List.set_cons_succ, List.drop_zero, List.drop_succ_cons, List.take_succ_cons, List.take_zero, Nat.zero_add, Nat.reduceAdd, Nat.reduceMul, Int.reduceAdd, Int.reduceToNat, Int.reduceTMod, Nat.zero_mul, Nat.one_mul, Int.toNat_natCast] at h)
  refine hw1 5 (by decide +kernel) ?_
  (refine ho_op rfl rfl rfl h ?_); clear h a; (((refine does_funM hm en29 rfl (G.surfaceNear_ok _ _ _ _ _ _ _ _ _ _ _ _ _ _ _ _ _ _ _ _ _ _ _ _ _ _) ?_; clear hm; intro w hm))); intro a h; (try simp only [Value.cells, List.toList_toArray, splice, List.set_cons_zero, List.set_cons_succ, List.drop_zero, List.drop_succ_cons, List.take_succ_cons, List.take_zero, Nat.zero_add, Nat.reduceAdd, Nat.reduceMul, Int.reduceAdd, Int.reduceToNat, Int.reduceTMod, Nat.zero_mul, Nat.one_mul, Int.toNat_natCast] at h); refine ⟨hm.sub (by repeat' (exact List.Sublist.refl _)), ?_⟩
  refine hw1 11 (by decide +kernel) ?_
  (refine ho_op rfl rfl rfl h ?_); clear h a; (((refine does_funM hm en29 rfl (G.surfaceNear_ok _ _ _ _ _ _ _ _ _ _ _ _ _ _ _ _ _ _ _ _ _ _ _ _ _ _) ?_; clear hm; intro w hm))); intro a h; (try simp only [Value.cells, List.toList_toArray, splice, List.set_cons_zero, List.set_cons_succ, List.drop_zero, List.drop_succ_cons, List.take_succ_cons, List.take_zero, Nat.zero_add, Nat.reduceAdd, Nat.reduceMul, Int.reduceAdd, Int.reduceToNat, Int.reduceTMod, Nat.zero_mul, Nat.one_mul, Int.toNat_natCast] at h); refine ⟨hm.sub (by repeat' (exact List.Sublist.refl _)), ?_⟩
  refine hw1 12 (by decide +kernel) ?_
  (refine ho_op rfl rfl rfl h ?_); clear h a; (((refine does_funM hm en28 rfl (cmpI_ok _ _) ?_; clear hm; intro w hm))); intro a h; (try simp only [Value.cells, List.toList_toArray, splice, List.set_cons_zero, List.set_cons_succ, List.drop_zero, List.drop_succ_cons, List.take_succ_cons, List.take_zero, Nat.zero_add, Nat.reduceAdd, Nat.reduceMul, Int.reduceAdd, Int.reduceToNat, Int.reduceTMod, Nat.zero_mul, Nat.one_mul, Int.toNat_natCast] at h); refine ⟨hm.sub (by repeat' (exact List.Sublist.refl _)), ?_⟩
  refine hw1 15 (by decide +kernel) ?_
  (refine ho_op rfl rfl rfl h ?_); clear h a; (((refine does_funM hm en28 rfl (cmpI_ok _ _) ?_; clear hm; intro w hm))); intro a h; (try simp only [Value.cells, List.toList_toArray, splice, List.set_cons_zero, List.set_cons_succ, List.drop_zero, List.drop_succ_cons, List.take_succ_cons, List.take_zero, Nat.zero_add, Nat.reduceAdd, Nat.reduceMul, Int.reduceAdd, Int.reduceToNat, Int.reduceTMod, Nat.zero_mul, Nat.one_mul, Int.toNat_natCast] at h); refine ⟨hm.sub (by repeat' (exact List.Sublist.refl _)), ?_⟩
  refine hw1 16 (by decide +kernel) ?_
  (refine ho_op rfl rfl rfl h ?_); clear h a; (refine does_buildSlice hm rfl rfl rfl ?_; clear hm; intro b w hm; (try simp only [rep, List.replicate_succ, List.replicate_zero, List.flatten_cons, List.flatten_nil, List.cons_append, List.nil_append, Nat.zero_mul, Nat.one_mul, Nat.reduceMul, Value.cells, List.toList_toArray, List.set_cons_zero, List.set_cons_succ, splice, Nat.zero_add, Nat.reduceAdd, Nat.reduceMul, Int.reduceAdd, Int.reduceToNat, Nat.zero_mul, Nat.one_mul, Int.toNat_natCast] at hm)); intro a h; (try simp only [Value.cells, List.toList_toArray, splice, List.set_cons_zero, List.set_cons_succ, List.drop_zero, List.drop_succ_cons, List.take_succ_cons, List.take_zero, Nat.zero_add, Nat.reduceAdd, Nat.reduceMul, Int.reduceAdd, Int.reduceToNat, Int.reduceTMod, Nat.zero_mul, Nat.one_mul, Int.toNat_natCast] at h); refine ⟨hm.sub (by repeat' (exact List.nil_sublist _)), ?_⟩
  refine hw1 17 (by decide +kernel) ?_
  (refine ho_op rfl rfl rfl h ?_); clear h a; ((refine does_funP hm en27 rfl (or2_ok _ _ _ _) (at_own (i := 0) hm rfl (fun j v hv => (by rw [Nat.zero_add]; exact hv))) ?_; clear hm; intro w hm)); intro a h; (try simp only [Value.cells, List.toList_toArray, splice, List.set_cons_zero, List.set_cons_succ, List.drop_zero, List.drop_succ_cons, List.take_succ_cons, List.take_zero, Nat.zero_add, Nat.reduceAdd, Nat.reduceMul, Int.reduceAdd, Int.reduceToNat, Int.reduceTMod, Nat.zero_mul, Nat.one_mul, Int.toNat_natCast] at h); refine ⟨hm.sub (by repeat' (exact List.nil_sublist _)), ?_⟩
  refine hw_take 18 rfl (by kernel_rfl) (by kernel_rfl) (by kernel_rfl) rfl rfl rfl h (hm.sub (by repeat' (exact List.nil_sublist _))) (fun w hm => by refine does_assign rfl ?_ <;> exact ⟨rfl, rfl⟩) ?_; clear h a; intro a h; (try simp only [Value.cells, List.toList_toArray, splice, List.set_cons_zero, List.set_cons_succ, List.drop_zero, List.drop_succ_cons, List.take_succ_cons, List.take_zero, Nat.zero_add, Nat.reduceAdd, Nat.reduceMul, Int.reduceAdd, Int.reduceToNat, Int.reduceTMod, Nat.zero_mul, Nat.one_mul, Int.toNat_natCast] at h)
  refine hw0 (by decide +kernel) ?_
  skip
  repeat' (first | refine k_then ?_ | refine c_ret ?_)
  (refine k_ret1 rfl h rfl ⟨?_, hm.below⟩)
  rw [kk_or, nrK_get hi, nrK_get hj]
def inR (su : List TSurface) (l : List Int) : Prop := ∀ k ∈ l, 0 ≤ k ∧ k ≤ (su.length : Int) - 1
theorem inR_get {su : List TSurface} {l : List Int} : (∀ i, i < l.length → 0 ≤ l.getD i 0 ∧ l.getD i 0 ≤ (su.length : Int) - 1) ↔ inR su l := by
  constructor
  · intro h k hk
    obtain ⟨i, hi, rfl⟩ := List.mem_iff_getElem.1 hk
    have := h i hi
    rwa [List.getD_eq_getElem?_getD, List.getElem?_eq_getElem hi, Option.getD_some] at this
  · intro h i hi
    have := h l[i] (List.getElem_mem hi)
    rwa [List.getD_eq_getElem?_getD, List.getElem?_eq_getElem hi, Option.getD_some]
/-- the indices in order, or none -/
def dpP (su : List TSurface) (l C : List Int) : Prop := (inR su l ∧ C.Perm l ∧ So (nrK su) C) ∨ (¬ inR su l ∧ C = [])
theorem dpP_inj {su : List TSurface} {l C C' : List Int} (h : dpP su l C) (h' : dpP su l C') : C = C' := by
  rcases h with ⟨h1, h2, h3⟩ | ⟨h1, h2⟩ <;> rcases h' with ⟨g1, g2, g3⟩ | ⟨g1, g2⟩
  · exact so_uniq (h2.trans g2.symm) h3 g3
  · exact absurd h1 g1
  · exact absurd g1 h1
  · rw [h2, g2]
theorem dpP_len {su : List TSurface} {l C : List Int} (h : dpP su l C) : C.length ≤ l.length := by
  rcases h with ⟨_, h2, _⟩ | ⟨_, h2⟩
  · exact Nat.le_of_eq h2.length_eq
  · rw [h2]
    exact Nat.zero_le _
def dpR (su : List TSurface) (l : List Int) (v : Value) (L' : List Own) : Prop := ∃ C p c, dpP su l C ∧ v = .slice p C.length c ∧ L' = [.row (.slice p C.length c) 3 1 (C.map eI).flatten]
theorem flat_int (l : List Int) : (l.map eI).flatten = l.map (Value.int .i64) := by
  induction l with
  | nil => rfl
  | cons x l ih =>
    rw [List.map_cons, List.flatten_cons, ih]
    rfl
theorem Mem.lowerD {W0 w : World} {X : List Nat} {B B' : Heap} {L : List Own} (hm : Mem W0 X B' L w) (h : Heap.le B B') : Mem W0 X B L w :=
  ⟨hm.os, hm.tape, hm.output, hm.size, hm.block, fun b o hb => hm.base b o (h b o hb), hm.own, hm.fresh, (fun x hx b hb => by
    have h1 := hm.apart x hx b hb
    refine Option.eq_none_iff_forall_ne_some.2 fun o h2 => ?_
    rw [h b o h2] at h1
    cases h1), hm.nodup⟩
theorem cmpK_ok (x : TScene) (q : Addr) (hsu : x.su.length ≤ 1048576) : CmpK q (fun k => 0 ≤ k ∧ k ≤ (x.su.length : Int) - 1) (nrK x.su) (fun H => At H q (eSc x) ∧ SceneH H x) where
  up := fun _ _ h hle => ⟨h.1.mono hle, h.2.mono hle⟩
  call := fun a b ha hb => by
    obtain ⟨i, rfl⟩ : ∃ i : Nat, a = i := ⟨a.toNat, by omega⟩
    obtain ⟨j, rfl⟩ : ∃ j : Nat, b = j := ⟨b.toNat, by omega⟩
    exact clo_ok x q i j (by omega) (by omega) hsu
set_option maxHeartbeats 8000000 in
theorem iDepthOrder_ok (x : TScene) (p : Option Addr) (l : List Int) (c : Nat) (hsu : x.su.length ≤ 1048576) (hl : l.length ≤ 1048576) : FunG Try.prog 8 [.agg (eSc x).toArray, .slice p l.length c] (fun H => SceneH H x ∧ Sl H p eI 1 l) (dpR x.su l) := by
  refine enterFunG Try.func8 rfl Try.ntmps8 rfl (fun W0 w a hp hm h => ?_)
  obtain ⟨hx, hy⟩ := hp
  have hA := G.allWithin_ok p l c 0 ((x.su.length : Int) - 1) hl
  rw [dB_congr inR_get] at hA
  by_cases hin : inR x.su l
  · repeat' (first | refine c_seq ?_ | refine c_region ?_ | refine c_nil ?_ | refine k_then ?_ | refine c_skip ?_ | refine c_condF h rfl ?_ | (refine st_op (d := 2) rfl rfl h ?_; refine does_box hm rfl rfl ?_; clear h a hm; intro b_2 w hm a h; (try simp only [Value.cells, List.toList_toArray, splice, List.set_cons_zero, List.set_cons_succ, List.drop_zero, List.drop_succ_cons, List.take_succ_cons, List.take_zero, Nat.zero_add, Nat.reduceAdd, Nat.reduceMul, Int.reduceAdd, Int.reduceToNat, Int.reduceTMod, Nat.zero_mul, Nat.one_mul, Int.toNat_natCast] at h)) | ((refine st_op rfl rfl h ?_); clear h a; (first | (show Does _ (.call _) _ _ _ _; (first | ((refine does_funP hm en23 rfl (hA.yes hin) (hy.up hm) ?_; clear hm; intro w hm)) | refine does_lenS (SliceT.out) rfl ?_)) | (show Does _ (.move _) _ _ _ _; refine does_move rfl ?_) | (show Does _ (.assign _) _ _ _ _; refine does_assign rfl ?_) | (show Does _ (.fieldAddr _ _ _) _ _ _ _; (refine does_fieldAddrL rfl ?_)) | (show Does _ (.load _ _) _ _ _ _; (refine does_loadO 0 hm rfl rfl rfl ?_)) | (show Does _ (.unOp _ _ _) _ _ _ _; (refine does_not rfl ?_)) | (show Does _ (.binOp _ _ _ _ _) _ _ _ _; refine does_sub rfl rfl (by omega) ?_)); intro a h; (try simp only [Value.cells, List.toList_toArray, splice, List.set_cons_zero, List.set_cons_succ, List.drop_zero, List.drop_succ_cons, List.take_succ_cons, List.take_zero, Nat.zero_add, Nat.reduceAdd, Nat.reduceMul, Int.reduceAdd, Int.reduceToNat, Int.reduceTMod, Nat.zero_mul, Nat.one_mul, Int.toNat_natCast] at h)))
    refine st_op rfl rfl h ?_; clear h a; refine does_funN hm en24 rfl (cloneI_ok p l c hl) (hy.up hm) ?_; clear hm; intro v w hm a h
    have hfl := flat_len (enc := eI) (sz := 1) (fun _ => rfl) l
    by_cases h0 : l.length = 0
    · obtain ⟨pv, cv, rfl, hcv1, hcv2⟩ := row_slice (i := 0) hm rfl (fun _ => rfl) (by omega)
      obtain rfl := List.eq_nil_of_length_eq_zero h0
      repeat' (first | refine c_seq ?_ | refine c_region ?_ | refine c_nil ?_ | refine k_then ?_ | ((refine st_op rfl rfl h ?_); clear h a; (first | (show Does _ (.move _) _ _ _ _; refine does_move rfl ?_) | (show Does _ (.assign _) _ _ _ _; refine does_assign rfl ?_) | (show Does _ (.makeFunc _ _ _) _ _ _ _; refine does_makeFunc rfl rfl ?_)); intro a h; (try simp only [Value.cells, List.toList_toArray, splice, List.set_cons_zero, List.set_cons_succ, List.drop_zero, List.drop_succ_cons, List.take_succ_cons, List.take_zero, Nat.zero_add, Nat.reduceAdd, Nat.reduceMul, Int.reduceAdd, Int.reduceToNat, Int.reduceTMod, Nat.zero_mul, Nat.one_mul, Int.toNat_natCast] at h)))
      refine st_op rfl rfl h ?_; clear h a; refine does_funVal hm en25 rfl (sortNone_ok _ _ _) trivial ?_; clear hm; rintro v w _ hm a h
      repeat' (first | refine c_seq ?_ | refine c_region ?_ | refine c_nil ?_ | refine k_then ?_ | refine c_ret ?_ | ((refine st_op rfl rfl h ?_); clear h a; (first | (show Does _ (.move _) _ _ _ _; refine does_move rfl ?_) | (show Does _ (.assign _) _ _ _ _; refine does_assign rfl ?_)); intro a h; (try simp only [Value.cells, List.toList_toArray, splice, List.set_cons_zero, List.set_cons_succ, List.drop_zero, List.drop_succ_cons, List.take_succ_cons, List.take_zero, Nat.zero_add, Nat.reduceAdd, Nat.reduceMul, Int.reduceAdd, Int.reduceToNat, Int.reduceTMod, Nat.zero_mul, Nat.one_mul, Int.toNat_natCast] at h)))
      exact k_ret1 rfl h rfl ⟨_, ⟨[], pv, cv, .inl ⟨hin, List.Perm.refl _, List.Pairwise.nil⟩, rfl, rfl⟩, hm.sub (List.Sublist.cons_cons _ (List.nil_sublist _))⟩
    · obtain ⟨b, cap, spare, rfl, hc1, hc2, hc3, hm'⟩ := hm.toBlk 0 rfl hfl (by omega) (by omega)
      clear hm
      have hm := hm'
      clear hm'
      simp only [List.set_cons_zero] at hm
      rw [flat_int] at hm hc3
      repeat' (first | refine c_seq ?_ | refine c_region ?_ | refine c_nil ?_ | refine k_then ?_ | ((refine st_op rfl rfl h ?_); clear h a; (first | (show Does _ (.move _) _ _ _ _; refine does_move rfl ?_) | (show Does _ (.assign _) _ _ _ _; refine does_assign rfl ?_) | (show Does _ (.makeFunc _ _ _) _ _ _ _; refine does_makeFunc rfl rfl ?_)); intro a h; (try simp only [Value.cells, List.toList_toArray, splice, List.set_cons_zero, List.set_cons_succ, List.drop_zero, List.drop_succ_cons, List.take_succ_cons, List.take_zero, Nat.zero_add, Nat.reduceAdd, Nat.reduceMul, Int.reduceAdd, Int.reduceToNat, Int.reduceTMod, Nat.zero_mul, Nat.one_mul, Int.toNat_natCast] at h)))
      obtain ⟨B', hle, hb2, hm'⟩ := (hm.perm (List.Perm.swap _ _ _)).freezeB
      clear hm
      have hm := hm'
      clear hm'
      refine st_op rfl rfl h ?_; clear h a; refine does_funL (L0 := [_]) hm en25 rfl (sortStable_ok ⟨b_2, 0, none⟩ _ (nrK x.su) _ (cmpK_ok x ⟨b_2, 0, none⟩ hsu) b spare cap l hl hin) ⟨?_, hx.mono hle⟩ ?_
      · exact ⟨rfl, _, _, _, hb2, fun j v hv => by
          show (eSc x).toArray[0 + j]? = some v
          rw [Nat.zero_add, List.getElem?_toArray]
          exact hv⟩
      clear hm; rintro v _ w ⟨C, ⟨hC1, hC2⟩, rfl⟩ hm a h; simp only [List.cons_append, List.nil_append] at hm
      have hCl := hC1.length_eq
      have hm2 := hm.ofBlk 0 (sz := 1) (n := C.length) (cap := cap) rfl (by rw [List.length_map]; omega) (by rw [List.length_append, List.length_map] at hc3 ⊢; omega) (by omega) hc2
      simp only [List.set_cons_zero] at hm2
      rw [← flat_int] at hm2
      rw [hCl.symm] at h
      repeat' (first | refine c_seq ?_ | refine c_region ?_ | refine c_nil ?_ | refine k_then ?_ | refine c_ret ?_ | ((refine st_op rfl rfl h ?_); clear h a; (first | (show Does _ (.move _) _ _ _ _; refine does_move rfl ?_) | (show Does _ (.assign _) _ _ _ _; refine does_assign rfl ?_)); intro a h; (try simp only [Value.cells, List.toList_toArray, splice, List.set_cons_zero, List.set_cons_succ, List.drop_zero, List.drop_succ_cons, List.take_succ_cons, List.take_zero, Nat.zero_add, Nat.reduceAdd, Nat.reduceMul, Int.reduceAdd, Int.reduceToNat, Int.reduceTMod, Nat.zero_mul, Nat.one_mul, Int.toNat_natCast] at h)))
      exact k_ret1 rfl h rfl ⟨_, ⟨C, _, _, .inl ⟨hin, hC1, hC2⟩, rfl, rfl⟩, hm2.lowerD hle⟩
  · repeat' (first | refine c_seq ?_ | refine c_region ?_ | refine c_nil ?_ | refine k_then ?_ | refine k_thenR ?_ | refine c_ret ?_ | refine c_condT h rfl ?_ | (refine st_op (d := 2) rfl rfl h ?_; refine does_box hm rfl rfl ?_; clear h a hm; intro b_2 w hm a h; (try simp only [Value.cells, List.toList_toArray, splice, List.set_cons_zero, List.set_cons_succ, List.drop_zero, List.drop_succ_cons, List.take_succ_cons, List.take_zero, Nat.zero_add, Nat.reduceAdd, Nat.reduceMul, Int.reduceAdd, Int.reduceToNat, Int.reduceTMod, Nat.zero_mul, Nat.one_mul, Int.toNat_natCast] at h)) | ((refine st_op rfl rfl h ?_); clear h a; (first | (show Does _ (.call _) _ _ _ _; (first | ((refine does_funP hm en23 rfl (hA.no hin) (hy.up hm) ?_; clear hm; intro w hm)) | refine does_lenS (SliceT.out) rfl ?_)) | (show Does _ (.move _) _ _ _ _; refine does_move rfl ?_) | (show Does _ (.assign _) _ _ _ _; refine does_assign rfl ?_) | (show Does _ (.fieldAddr _ _ _) _ _ _ _; (refine does_fieldAddrL rfl ?_)) | (show Does _ (.load _ _) _ _ _ _; (refine does_loadO 0 hm rfl rfl rfl ?_)) | (show Does _ (.unOp _ _ _) _ _ _ _; (refine does_not rfl ?_)) | (show Does _ (.binOp _ _ _ _ _) _ _ _ _; refine does_sub rfl rfl (by omega) ?_)); intro a h; (try simp only [Value.cells, List.toList_toArray, splice, List.set_cons_zero, List.set_cons_succ, List.drop_zero, List.drop_succ_cons, List.take_succ_cons, List.take_zero, Nat.zero_add, Nat.reduceAdd, Nat.reduceMul, Int.reduceAdd, Int.reduceToNat, Int.reduceTMod, Nat.zero_mul, Nat.one_mul, Int.toNat_natCast] at h)))
    exact k_ret1 rfl h rfl ⟨_, ⟨[], none, 0, .inr ⟨hin, rfl⟩, rfl, rfl⟩, hm.dropAll.addNil _ _⟩
end Go.Proofs.Ytaiiiendfcglmaa.St
