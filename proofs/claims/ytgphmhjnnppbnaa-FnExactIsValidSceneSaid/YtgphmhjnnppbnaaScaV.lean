/-
  Contracts of the functions on points.
-/
import Derived.Test.YtgphmhjnnppbnaaFnB
import Derived.Test.YtgphmhjnnppbnaaScal
import Derived.Test.YtgphmhjnnppbnaaStZip
set_option linter.unusedSimpArgs false
set_option linter.unusedVariables false
namespace Go.Proofs.Ytgphmhjnnppbnaa.St
open Go.RowKit
set_option maxHeartbeats 2000000 in
theorem clamped1_ok (n : Int) : Fun Try.prog 246 [I n] (I (max (-1000000) (min n 1000000))) := by
  refine enterFun Try.func246 rfl Try.ntmps246 rfl (fun W0 w a hm h => ?_)
  repeat' (first | refine c_seq ?_ | refine c_region ?_ | refine c_nil ?_ | refine k_then ?_ | refine c_ret ?_ | ((refine st_op rfl rfl h ?_); clear h a; (first | ((refine does_funM hm en247 rfl (clamp_ok _ _ _) ?_); clear hm; intro w hm) | refine does_move rfl ?_ | refine does_assign rfl ?_); intro a h; (try simp only [Value.cells, splice, nz, Nat.reduceAdd, Nat.reduceMul, Int.reduceAdd, Int.reduceToNat, Int.reduceTMod] at h)))
  all_goals (refine k_ret1 rfl h rfl ⟨?_, hm.below⟩)
  all_goals (rfl)
set_option maxHeartbeats 2000000 in
theorem each_clamped_ok (x y z : Int) : Fun Try.prog 245 [.agg #[I x, I y, I z], .func (.func 246) #[] #[]] (.agg #[I (max (-1000000) (min x 1000000)), I (max (-1000000) (min y 1000000)), I (max (-1000000) (min z 1000000))]) := by
  refine enterFun Try.func245 rfl Try.ntmps245 rfl (fun W0 w a hm h => ?_)
  repeat' (first | refine c_seq ?_ | refine c_region ?_ | refine c_nil ?_ | refine k_then ?_ | refine c_ret ?_ | ((first | refine st_op rfl rfl h ?_ | refine st_opn rfl h ?_); clear h a; (first | (refine does_box hm rfl rfl ?_; clear hm; intro b w hm) | (refine does_alloc hm ?_; clear hm; intro b w hm) | ((refine zs hm rfl rfl rfl rfl rfl rfl ?_); clear hm; intro w hm; (try simp only [Value.cells, splice, nz, ns, Nat.reduceAdd, Nat.reduceMul, Int.reduceAdd, Int.reduceToNat] at hm))); intro a h; (try simp only [Value.cells, splice, nz, Nat.reduceAdd, Nat.reduceMul, Int.reduceAdd, Int.reduceToNat, Int.reduceTMod] at h)) | (apply c_drawM (id := 1) 13 [.val _, .val _, .val _, .val _, .val _, .val _, .val _, .val _, .val _, .val _, .val _, .val _, .val _] mixed (by kernel_rfl) (h := h) (hm := hm); (case vcs => (repeat' (first | exact vcs_nil | refine vcs_cons ?_ ?_ | (intro w hm; (repeat (first | refine dep_val ?_ | refine dep_nil ?_)); first | exact vc_skip rfl | exact vc_alloc rfl | exact vc_box rfl rfl rfl | exact vc_buildSlice rfl rfl rfl rfl | exact vc_makeSlice (by omega) (by omega) rfl rfl rfl | exact vc_store rfl rfl rfl rfl rfl rfl rfl rfl rfl rfl | (apply vc_run rfl; (first | (refine does_funVX rfl rfl rfl (clamped1_ok _) ?_) | refine does_move rfl ?_ | refine does_fieldAddrL rfl ?_ | refine does_loadO 1 hm rfl rfl rfl ?_ | refine does_build rfl rfl ?_); (first | exact ⟨ext_refl _, rfl⟩ | exact fun _ hx => ⟨hx, rfl⟩)))))); (case hup => kernel_rfl); (case hown => kernel_rfl); (case hnp => kernel_rfl); clear h hm a; intro  w hm; (try simp only [List.map_nil, List.nil_append] at hm); (repeat (first | refine dep_val ?_ | refine dep_nil ?_)); intro a h; (try simp only [Value.cells, List.toList_toArray, splice, List.set_cons_zero, List.set_cons_succ, List.drop_zero, List.drop_succ_cons, List.take_succ_cons, List.take_zero, Nat.zero_add, Nat.reduceAdd, Nat.reduceMul, Int.reduceAdd, Int.reduceToNat, Int.reduceTMod, Nat.zero_mul, Nat.one_mul, Int.toNat_natCast] at h)))
  all_goals (refine k_ret (vs := [_]) rfl h ⟨rv_cellA (i := 0) hm rfl rfl rfl, trivial⟩ ⟨?_, hm.below⟩)
  all_goals (rfl)
set_option maxHeartbeats 2000000 in
theorem clamped_ok (x y z : Int) : Fun Try.prog 181 [.agg #[I x, I y, I z]] (.agg #[I (max (-1000000) (min x 1000000)), I (max (-1000000) (min y 1000000)), I (max (-1000000) (min z 1000000))]) := by
  refine enterFun Try.func181 rfl Try.ntmps181 rfl (fun W0 w a hm h => ?_)
  repeat' (first | refine c_seq ?_ | refine c_region ?_ | refine c_nil ?_ | refine k_then ?_ | refine c_ret ?_ | ((first | refine st_op rfl rfl h ?_ | refine st_opn rfl h ?_); clear h a; (first | (refine does_box hm rfl rfl ?_; clear hm; intro b w hm) | (refine does_alloc hm ?_; clear hm; intro b w hm) | ((refine zs hm rfl rfl rfl rfl rfl rfl ?_); clear hm; intro w hm; (try simp only [Value.cells, splice, nz, ns, Nat.reduceAdd, Nat.reduceMul, Int.reduceAdd, Int.reduceToNat] at hm)) | ((refine does_funM hm en245 rfl (each_clamped_ok _ _ _) ?_); clear hm; intro w hm) | refine za hm rfl rfl ?_); intro a h; (try simp only [Value.cells, splice, nz, Nat.reduceAdd, Nat.reduceMul, Int.reduceAdd, Int.reduceToNat, Int.reduceTMod] at h)))
  all_goals (refine k_ret (vs := [_]) rfl h ⟨rv_cellA (i := 0) hm rfl rfl rfl, trivial⟩ ⟨?_, hm.below⟩)
  all_goals (rfl)
end Go.Proofs.Ytgphmhjnnppbnaa.St
