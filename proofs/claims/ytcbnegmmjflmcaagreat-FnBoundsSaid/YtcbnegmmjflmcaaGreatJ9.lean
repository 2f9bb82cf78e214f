/-
  Contracts of the functions on boxes and patches.
-/
import Derived.Test.YtcbnegmmjflmcaaGreatLVec
import Derived.Test.YtcbnegmmjflmcaaGreatJ2
import Derived.Test.YtcbnegmmjflmcaaGreatJ1

section
set_option linter.unusedSimpArgs false
set_option linter.unusedVariables false
namespace Go.Proofs.YtcbnegmmjflmcaaGreat.St.G
open Go.RowKit
abbrev TVec := Int × Int × Int
abbrev eVec (v : TVec) : List Value := [I v.1, I v.2.1, I v.2.2]
abbrev minV (a b : TVec) : TVec := (min (max (-1000000) (min a.1 1000000)) (max (-1000000) (min b.1 1000000)), min (max (-1000000) (min a.2.1 1000000)) (max (-1000000) (min b.2.1 1000000)), min (max (-1000000) (min a.2.2 1000000)) (max (-1000000) (min b.2.2 1000000)))
abbrev maxV (a b : TVec) : TVec := (max (max (-1000000) (min a.1 1000000)) (max (-1000000) (min b.1 1000000)), max (max (-1000000) (min a.2.1 1000000)) (max (-1000000) (min b.2.1 1000000)), max (max (-1000000) (min a.2.2 1000000)) (max (-1000000) (min b.2.2 1000000)))
abbrev clV (a : TVec) : TVec := ((max (-1000000) (min a.1 1000000)), (max (-1000000) (min a.2.1 1000000)), (max (-1000000) (min a.2.2 1000000)))
abbrev stepB (b : TVec × TVec) (v : TVec) : TVec × TVec := (minV b.1 v, maxV b.2 v)
def boundsOf : List TVec → TVec × TVec
  | [] => ((0, 0, 0), (0, 0, 0))
  | x :: r => r.foldl stepB (clV x, clV x)
theorem foldl_snoc {α β : Type} (f : β → α → β) (b : β) {xs : List α} {k : Nat} (hk : k < xs.length) : (xs.take (k + 1)).foldl f b = f ((xs.take k).foldl f b) xs[k] := by
  rw [List.take_succ_eq_append_getElem hk, List.foldl_append]; rfl
abbrev bCells (b : TVec × TVec) : List Value := [I b.1.1, I b.1.2.1, I b.1.2.2, I b.2.1, I b.2.2.1, I b.2.2.2]
set_option maxHeartbeats 4000000 in
theorem boundPoints_ok (p : Option Addr) (x : TVec) (r : List TVec) (c : Nat) (hl : (x :: r).length ≤ 1048576) (hc : (x :: r).length ≤ c) : FunP Tryz.prog 39 [.slice p (x :: r).length c] (fun H => Sl H p eVec 3 (x :: r)) (.tuple #[.agg (bCells (boundsOf (x :: r))).toArray, .bool true]) := by
  refine enterFunP Tryz.func39 rfl Tryz.ntmps39 rfl (fun W0 w a hp hm h => ?_)
  have hlen : (x :: r).length = r.length + 1 := rfl
  obtain ⟨q1, rfl, hat1⟩ := hp.at (k := 0) (by omega)
  simp only [List.getElem_cons_zero] at hat1
  repeat' (first | refine c_seq ?_ | refine c_region ?_ | refine c_nil ?_ | refine k_then ?_ | refine c_skip ?_ | refine c_block ?_ | refine c_condF h rfl ?_ | ((refine st_op rfl rfl h ?_); clear h a; (first | (show Does _ (.slice _ _ _ _ _) _ _ _ _; (((refine does_sliceLo (by omega) rfl rfl ?_; intro p' hp')))) | (show Does _ (.alloc _) _ _ _ _; (refine does_alloc hm ?_; clear hm; intro b w hm)) | (show Does _ (.call _) _ _ _ _; (refine does_lenS (SliceT.out) rfl ?_)) | (show Does _ (.move _) _ _ _ _; refine does_move rfl ?_) | (show Does _ (.assign _) _ _ _ _; refine does_assign rfl ?_) | (show Does _ (.binOp _ _ _ _ _) _ _ _ _; (refine does_eqlF rfl rfl (by omega) ?_))); intro a h; (first | simp only [Value.cells, splice, nqq, Nat.reduceAdd, Nat.reduceMul, Int.reduceAdd, Int.reduceToNat, Int.reduceTMod] at h | skip)) | (apply c_drawM (id := 3) 11 [.val _, .val _, .val _, .val _, .val _, .val _, .val _, .val _, .val _, .own _ _, .upd 9 _] mixed (by kernel_rfl) (h := h) (hm := hm); (case vcs => (repeat' (first | exact vcs_nil | refine vcs_cons ?_ ?_ | (intro w hm; (repeat (first | refine dep_val ?_ | (refine dep_own ?_; intro _) | refine dep_nil ?_)); first | exact vc_skip rfl | exact vc_alloc rfl | exact vc_box rfl rfl rfl | exact vc_buildSlice rfl rfl rfl rfl | exact vc_makeSlice (by omega) (by omega) rfl rfl rfl | exact vc_store rfl rfl rfl rfl rfl rfl rfl rfl rfl rfl | (apply vc_run rfl; (first | (show Does _ (.call _) _ _ _ _; ((refine does_funX en55 rfl (clamped_ok _ _ _) ?_))) | (show Does _ (.move _) _ _ _ _; refine does_move rfl ?_) | (show Does _ (.load _ _) _ _ _ _; (refine does_loadBA hm rfl (by assumption) rfl ?_)) | (show Does _ (.indexAddr _ _ _) _ _ _ _; (refine does_indexS (by omega) rfl rfl ?_)) | (show Does _ (.build _ _) _ _ _ _; refine does_build rfl rfl ?_)); (first | exact ⟨ext_refl _, rfl⟩ | exact fun _ hx => ⟨hx, rfl⟩)))))); (case hup => kernel_rfl); (case hown => kernel_rfl); (case hnp => kernel_rfl); clear h hm a; intro b3_0 w hm; (simp only [lastO, List.map_cons, List.map_nil, List.cons_append, List.nil_append, reduceIte, Nat.reduceEqDiff, splice, List.set_cons_zero, List.set_cons_succ, Nat.zero_add, Nat.reduceAdd] at hm); (repeat (first | refine dep_val ?_ | refine dep_nil ?_)); intro a h; (dsimp only at h); (simp only [Value.cells, splice, nqq, Nat.reduceAdd, Nat.reduceMul, Int.reduceAdd, Int.reduceToNat, Int.reduceTMod] at h)))
  have hs := Sl.drop (k := 1) hp rfl hc hp'
  have hd : (x :: r).drop 1 = r := rfl
  rw [hd] at hs
  refine c_loop (σ := Nat) (fun k a w => k ≤ r.length ∧ Mem W0 [] (fun b => W0.heap[b]?) [.blk b3_0 (.cells (bCells ((r.take k).foldl stepB (clV x, clV x))).toArray 44), .blk b (.cells [I 0, I 0, I 0, I 0, I 0, I 0].toArray 44)] w ∧
    Holds [(2, .pointer (some ⟨b, 0, none⟩)), (4, .pointer (some ⟨b3_0, 0, none⟩)), (21, .slice p' ((x :: r).length - Int.toNat 1) (c - Int.toNat 1)), (22, .int .i64 (((x :: r).length - Int.toNat 1 : Nat) : Int)), (23, .int .i64 k)] _ a) (fun k => r.length - k) 0
    ⟨Nat.zero_le _, hm, h.keep ⟨rfl, rfl, rfl, rfl, rfl, trivial⟩⟩ ?_
  clear h hm
  rintro k a w ⟨hk, hm, h⟩
  by_cases hlt : k < r.length
  · obtain ⟨q2, rfl, hat2⟩ := hs.at hlt
    have hst := foldl_snoc stepB (clV x, clV x) hlt
    generalize (r.take k).foldl stepB (clV x, clV x) = b0 at hm hst
    repeat' (first | refine c_seq ?_ | refine c_region ?_ | refine c_nil ?_ | refine k_then ?_ | refine k_inN ?_ | refine c_skip ?_ | refine c_block ?_ | refine c_condT h rfl ?_ | ((first | refine st_op rfl rfl h ?_ | refine st_opn rfl h ?_); clear h a; (first | (show Does _ (.alloc _) _ _ _ _; (refine does_alloc hm ?_; clear hm; intro b w hm)) | (show Does _ (.store _ _ _) _ _ _ _; (first | (refine does_storeO 0 hm rfl rfl rfl rfl rfl rfl rfl ?_; clear hm; intro w hm; (simp only [Value.cells, splice, nqq, Nat.reduceAdd, Nat.reduceMul, Int.reduceAdd, Int.reduceToNat] at hm)) | (refine does_storeO 1 hm rfl rfl rfl rfl rfl rfl rfl ?_; clear hm; intro w hm; (simp only [Value.cells, splice, nqq, Nat.reduceAdd, Nat.reduceMul, Int.reduceAdd, Int.reduceToNat] at hm)))) | (show Does _ (.move _) _ _ _ _; refine does_move rfl ?_) | (show Does _ (.fieldAddr _ _ _) _ _ _ _; (refine does_fieldAddrL rfl ?_)) | (show Does _ (.load _ _) _ _ _ _; (refine does_loadBA hm rfl (by assumption) rfl ?_)) | (show Does _ (.binOp _ _ _ _ _) _ _ _ _; (first | refine does_lssT rfl rfl (by omega) ?_ | refine does_add rfl rfl (by omega) ?_)) | (show Does _ (.indexAddr _ _ _) _ _ _ _; (refine does_indexSn (by omega) rfl rfl ?_))); intro a h; (first | simp only [Value.cells, splice, nqq, Nat.reduceAdd, Nat.reduceMul, Int.reduceAdd, Int.reduceToNat, Int.reduceTMod] at h | skip)) | (apply c_drawM (id := 7) 9 [.val _, .val _, .val _, .val _, .val _, .val _, .val _, .val _, .val _] mixed (by kernel_rfl) (h := h) (hm := hm); (case vcs => (repeat' (first | exact vcs_nil | refine vcs_cons ?_ ?_ | (intro w hm; (repeat (first | refine dep_val ?_ | refine dep_nil ?_)); first | exact vc_skip rfl | exact vc_alloc rfl | exact vc_box rfl rfl rfl | exact vc_buildSlice rfl rfl rfl rfl | exact vc_makeSlice (by omega) (by omega) rfl rfl rfl | exact vc_store rfl rfl rfl rfl rfl rfl rfl rfl rfl rfl | (apply vc_run rfl; (first | (show Does _ (.call _) _ _ _ _; (first | (refine does_funX en37 rfl (minVec_ok _ _ _ _ _ _) ?_) | (refine does_funX en38 rfl (maxVec_ok _ _ _ _ _ _) ?_))) | (show Does _ (.fieldAddr _ _ _) _ _ _ _; (refine does_fieldAddrL rfl ?_)) | (show Does _ (.load _ _) _ _ _ _; (first | refine does_loadOA 0 hm rfl rfl rfl ?_ | refine does_loadOA 1 hm rfl rfl rfl ?_))); (first | exact ⟨ext_refl _, rfl⟩ | exact fun _ hx => ⟨hx, rfl⟩)))))); (case hup => kernel_rfl); (case hown => kernel_rfl); (case hnp => kernel_rfl); clear h hm a; intro  w hm; (simp only [List.map_nil, List.nil_append] at hm); (repeat (first | refine dep_val ?_ | refine dep_nil ?_)); intro a h; (simp only [Value.cells, splice, nqq, Nat.reduceAdd, Nat.reduceMul, Int.reduceAdd, Int.reduceToNat, Int.reduceTMod] at h)))
    refine k_thenN ⟨k + 1, ⟨by omega, ?_, h.keep ⟨rfl, rfl, rfl, rfl, rfl, trivial⟩⟩, by omega⟩
    rw [hst]
    exact hm.drop
  · obtain rfl : k = r.length := by omega
    rw [List.take_length] at hm
    repeat' (first | refine c_seq ?_ | refine c_region ?_ | refine c_nil ?_ | refine k_then ?_ | refine k_thenE ?_ | refine k_inE ?_ | refine c_ret ?_ | refine c_exit ?_ | refine c_condF h rfl ?_ | ((first | refine st_op rfl rfl h ?_ | refine st_opn rfl h ?_); clear h a; (first | (show Does _ (.store _ _ _) _ _ _ _; ((refine does_storeO 1 hm rfl rfl rfl rfl rfl rfl rfl ?_; clear hm; intro w hm; (simp only [Value.cells, splice, nqq, Nat.reduceAdd, Nat.reduceMul, Int.reduceAdd, Int.reduceToNat] at hm)))) | (show Does _ (.assign _) _ _ _ _; refine does_assign rfl ?_) | (show Does _ (.load _ _) _ _ _ _; (refine does_loadOA 0 hm rfl rfl rfl ?_)) | (show Does _ (.binOp _ _ _ _ _) _ _ _ _; (refine does_lssF rfl rfl (by omega) ?_))); intro a h; (first | simp only [Value.cells, splice, nqq, Nat.reduceAdd, Nat.reduceMul, Int.reduceAdd, Int.reduceToNat, Int.reduceTMod] at h | skip)))
    (refine k_ret (vs := [_, _]) rfl h ⟨rv_cellA (i := 1) hm rfl rfl rfl, rfl, trivial⟩ ⟨?_, hm.below⟩)
    rfl
end Go.Proofs.YtcbnegmmjflmcaaGreat.St.G
end

section
/-
  Contracts for buckets, fragments and triangles.
-/
set_option linter.unusedSimpArgs false
set_option linter.unusedVariables false
namespace Go.Proofs.YtcbnegmmjflmcaaGreat.St.G
open Go.RowKit


set_option maxHeartbeats 2000000 in
theorem sIsValidCamera_ok (w h z n : Int) (d : Bool) (l f : Int) : Fun Tryz.prog 52 [.agg #[I w, I h, I z, I n, .bool d, I l, I f]] (.bool (dB ((1 ≤ w ∧ w ≤ 12) ∧ (1 ≤ h ∧ h ≤ 12) ∧ (1 ≤ z ∧ z ≤ 65536) ∧ (1 ≤ n ∧ n ≤ 1000000) ∧ (0 ≤ l ∧ l ≤ 64) ∧ (0 ≤ f ∧ f ≤ 1000000)))) := by
  refine enterFun Tryz.func52 rfl Tryz.ntmps52 rfl (fun W0 w a hm h => ?_)
  repeat' (first | refine c_seq ?_ | refine c_region ?_ | refine c_nil ?_ | refine k_then ?_ | refine c_ret ?_ | ((refine st_op rfl rfl h ?_); clear h a; (first | (show Does _ (.box _ _) _ _ _ _; (refine does_box hm rfl rfl ?_; clear hm; intro b w hm)) | (show Does _ (.call _) _ _ _ _; (refine does_funM hm en53 rfl (sIn_ok _ _ _) ?_; clear hm; intro w hm)) | (show Does _ (.move _) _ _ _ _; refine does_move rfl ?_) | (show Does _ (.assign _) _ _ _ _; refine does_assign rfl ?_) | (show Does _ (.pick _ _ _) _ _ _ _; (first | refine does_pickT rfl rfl ?_ | refine does_pickF rfl rfl ?_)) | (show Does _ (.fieldAddr _ _ _) _ _ _ _; (refine does_fieldAddrL rfl ?_)) | (show Does _ (.load _ _) _ _ _ _; (refine does_loadO 0 hm rfl rfl rfl ?_))); intro a h; (try simp only [Value.cells, splice, nqq, Nat.reduceAdd, Nat.reduceMul, Int.reduceAdd, Int.reduceToNat, Int.reduceTMod] at h)) | ((refine st_skip rfl rfl h ?_); clear h a; intro a h) | (refine st_guardD rfl rfl h ?_ ?_ <;> clear h <;> intro hc h))
  all_goals (refine k_ret1 rfl h rfl ⟨?_, hm.below⟩)
  all_goals (first | exact boolF (by omega) | exact boolI (by omega))
set_option maxHeartbeats 2000000 in
theorem isValidCamera_ok (w h z n : Int) (d : Bool) (l f : Int) : Fun Tryz.prog 16 [.agg #[I w, I h, I z, I n, .bool d, I l, I f]] (.bool (dB ((1 ≤ w ∧ w ≤ 12) ∧ (1 ≤ h ∧ h ≤ 12) ∧ (1 ≤ z ∧ z ≤ 65536) ∧ (1 ≤ n ∧ n ≤ 1000000) ∧ (0 ≤ l ∧ l ≤ 64) ∧ (0 ≤ f ∧ f ≤ 1000000)))) := by
  refine enterFun Tryz.func16 rfl Tryz.ntmps16 rfl (fun W0 w a hm h => ?_)
  repeat' (first | refine c_seq ?_ | refine c_region ?_ | refine c_nil ?_ | refine k_then ?_ | refine c_ret ?_ | ((refine st_op rfl rfl h ?_); clear h a; (first | (show Does _ (.box _ _) _ _ _ _; (refine does_box hm rfl rfl ?_; clear hm; intro b w hm)) | (show Does _ (.call _) _ _ _ _; (refine does_funM hm en30 rfl (within_ok _ _ _) ?_; clear hm; intro w hm)) | (show Does _ (.move _) _ _ _ _; refine does_move rfl ?_) | (show Does _ (.assign _) _ _ _ _; refine does_assign rfl ?_) | (show Does _ (.pick _ _ _) _ _ _ _; (first | refine does_pickT rfl rfl ?_ | refine does_pickF rfl rfl ?_)) | (show Does _ (.fieldAddr _ _ _) _ _ _ _; (refine does_fieldAddrL rfl ?_)) | (show Does _ (.load _ _) _ _ _ _; (refine does_loadO 0 hm rfl rfl rfl ?_))); intro a h; (try simp only [Value.cells, splice, nqq, Nat.reduceAdd, Nat.reduceMul, Int.reduceAdd, Int.reduceToNat, Int.reduceTMod] at h)) | ((refine st_skip rfl rfl h ?_); clear h a; intro a h) | (refine st_guardD rfl rfl h ?_ ?_ <;> clear h <;> intro hc h))
  all_goals (refine k_ret1 rfl h rfl ⟨?_, hm.below⟩)
  all_goals (first | exact boolF (by omega) | exact boolI (by omega))
end Go.Proofs.YtcbnegmmjflmcaaGreat.St.G
end
