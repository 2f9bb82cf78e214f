/-
  Contracts of the functions that fold constants.
-/
import Derived.Test.YtgoimincdbbafaaPOpt
import Derived.Test.YtgoimincdbbafaaStArr
import Derived.Test.YtgoimincdbbafaaStZip
set_option linter.unusedSimpArgs false
set_option linter.unusedVariables false
namespace Go.Proofs.Ytgoimincdbbafaa.St
open Go.RowKit
abbrev i9 (a : Int) : Prop := -1000000000 ≤ a ∧ a ≤ 1000000000
theorem mul9 {a b : Int} (ha : i9 a) (hb : i9 b) : -1000000000000000000 ≤ a * b ∧ a * b ≤ 1000000000000000000 := by
  have := mul_bd (a := 1000000000) (b := 1000000000) (m := a) (n := b) ha hb
  omega
set_option maxHeartbeats 2000000 in
theorem ratio_ok (a b : Int) (ha : i9 a) (hb : i9 b) : Fun Try.prog 238 [I a, I b] (I (quoI a b)) := by
  refine enterFun Try.func238 rfl Try.ntmps238 rfl (fun W0 w a hm h => ?_)
  repeat' (first | refine c_seq ?_ | refine c_region ?_ | refine c_nil ?_ | refine k_then ?_ | refine c_skip ?_ | refine c_ret ?_ | ((refine st_op rfl rfl h ?_); clear h a; (first | ((refine does_funM hm en224 rfl (floorDiv_ok _ _ (by first | assumption | omega)) ?_); clear hm; intro w hm) | refine does_move rfl ?_ | refine does_assign rfl ?_ | refine zlss rfl rfl ?_ | refine does_mul rfl rfl (mul_in (by omega) (by omega)) ?_ | refine does_neg rfl (by omega) ?_); intro a h; (try simp only [Value.cells, splice, nz, Nat.reduceAdd, Nat.reduceMul, Int.reduceAdd, Int.reduceToNat, Int.reduceTMod] at h)) | ((refine c_condD h rfl ?_ ?_) <;> intro hc <;> (try (fail))))
  all_goals (refine k_ret1 rfl h rfl ⟨?_, hm.below⟩)
  all_goals (((exact intE (by simp only [quoI, fdv]; split <;> first | contradiction | rfl | omega)); done))
set_option maxHeartbeats 2000000 in
theorem sQuot_ok (a b : Int) (ha : i9 a) (hb : i9 b) : Fun Try.prog 234 [I (a * 256), I b] (I (quoI a b)) := by
  refine enterFun Try.func234 rfl Try.ntmps234 rfl (fun W0 w a hm h => ?_)
  repeat' (first | refine c_seq ?_ | refine c_region ?_ | refine c_nil ?_ | refine k_then ?_ | refine c_skip ?_ | refine c_ret ?_ | ((refine st_op rfl rfl h ?_); clear h a; (first | ((refine does_funM hm en216 rfl (sFloorDiv_ok _ _ (by first | assumption | omega)) ?_); clear hm; intro w hm) | refine does_move rfl ?_ | refine does_assign rfl ?_ | refine zlss rfl rfl ?_ | refine does_neg rfl (by omega) ?_); intro a h; (try simp only [Value.cells, splice, nz, Nat.reduceAdd, Nat.reduceMul, Int.reduceAdd, Int.reduceToNat, Int.reduceTMod] at h)) | ((refine c_condD h rfl ?_ ?_) <;> intro hc <;> (try (fail))))
  all_goals (refine k_ret1 rfl h rfl ⟨?_, hm.below⟩)
  all_goals (((exact intE (by simp only [quoI, fdv]; split <;> first | contradiction | rfl | (rw [Int.neg_mul]; done) | omega)); done))
theorem arith3_ok (a b : Int) (ha : i9 a) (hb : i9 b) : Fun Try.prog 190 [I 3, I a, I b] (I (satI (ari 3 a b))) := by
  have hab := mul9 ha hb
  refine enterFun Try.func190 rfl Try.ntmps190 rfl (fun W0 w a hm h => ?_)
  repeat' (first | refine c_seq ?_ | refine c_region ?_ | refine c_nil ?_ | refine k_then ?_ | refine k_thenR ?_ | refine k_inR ?_ | refine c_ret ?_ | refine c_block ?_ | refine c_condT h rfl ?_ | ((refine st_op rfl rfl h ?_); clear h a; (first | ((refine does_funM hm en237 rfl (saturate_ok _) ?_); clear hm; intro w hm) | refine does_move rfl ?_ | refine does_assign rfl ?_ | refine zeql rfl rfl ?_ | refine does_neg rfl (by omega) ?_); intro a h; (try simp only [Value.cells, splice, nz, Nat.reduceAdd, Nat.reduceMul, Int.reduceAdd, Int.reduceToNat, Int.reduceTMod] at h)))
  (refine k_ret1 rfl h rfl ⟨?_, hm.below⟩)
  rfl
theorem arith4_ok (a b : Int) (ha : i9 a) (hb : i9 b) : Fun Try.prog 190 [I 4, I a, I b] (I (satI (ari 4 a b))) := by
  have hab := mul9 ha hb
  refine enterFun Try.func190 rfl Try.ntmps190 rfl (fun W0 w a hm h => ?_)
  repeat' (first | refine c_seq ?_ | refine c_region ?_ | refine c_nil ?_ | refine k_then ?_ | refine k_thenR ?_ | refine k_inR ?_ | refine c_ret ?_ | refine c_block ?_ | refine c_condT h rfl ?_ | refine c_condF h rfl ?_ | ((refine st_op rfl rfl h ?_); clear h a; (first | ((refine does_funM hm en237 rfl (saturate_ok _) ?_); clear hm; intro w hm) | refine does_move rfl ?_ | refine does_assign rfl ?_ | refine zeql rfl rfl ?_ | refine zadd rfl rfl ?_); intro a h; (try simp only [Value.cells, splice, nz, Nat.reduceAdd, Nat.reduceMul, Int.reduceAdd, Int.reduceToNat, Int.reduceTMod] at h)))
  (refine k_ret1 rfl h rfl ⟨?_, hm.below⟩)
  rfl
theorem arith5_ok (a b : Int) (ha : i9 a) (hb : i9 b) : Fun Try.prog 190 [I 5, I a, I b] (I (satI (ari 5 a b))) := by
  have hab := mul9 ha hb
  refine enterFun Try.func190 rfl Try.ntmps190 rfl (fun W0 w a hm h => ?_)
  repeat' (first | refine c_seq ?_ | refine c_region ?_ | refine c_nil ?_ | refine k_then ?_ | refine k_thenR ?_ | refine k_inR ?_ | refine c_ret ?_ | refine c_block ?_ | refine c_condT h rfl ?_ | refine c_condF h rfl ?_ | ((refine st_op rfl rfl h ?_); clear h a; (first | ((refine does_funM hm en237 rfl (saturate_ok _) ?_); clear hm; intro w hm) | refine does_move rfl ?_ | refine does_assign rfl ?_ | refine zeql rfl rfl ?_ | refine zsub rfl rfl ?_); intro a h; (try simp only [Value.cells, splice, nz, Nat.reduceAdd, Nat.reduceMul, Int.reduceAdd, Int.reduceToNat, Int.reduceTMod] at h)))
  (refine k_ret1 rfl h rfl ⟨?_, hm.below⟩)
  rfl
theorem arith6_ok (a b : Int) (ha : i9 a) (hb : i9 b) : Fun Try.prog 190 [I 6, I a, I b] (I (satI (ari 6 a b))) := by
  have hab := mul9 ha hb
  refine enterFun Try.func190 rfl Try.ntmps190 rfl (fun W0 w a hm h => ?_)
  repeat' (first | refine c_seq ?_ | refine c_region ?_ | refine c_nil ?_ | refine k_then ?_ | refine k_thenR ?_ | refine k_inR ?_ | refine c_ret ?_ | refine c_block ?_ | refine c_condT h rfl ?_ | refine c_condF h rfl ?_ | ((refine st_op rfl rfl h ?_); clear h a; (first | (refine does_mul rfl rfl (by omega) ?_) | ((first | refine does_funM hm en237 rfl (saturate_ok _) ?_ | refine does_funM hm en224 rfl (floorDiv_ok _ _ (by first | assumption | omega)) ?_); clear hm; intro w hm) | refine does_move rfl ?_ | refine does_assign rfl ?_ | refine zeql rfl rfl ?_); intro a h; (try simp only [Value.cells, splice, nz, Nat.reduceAdd, Nat.reduceMul, Int.reduceAdd, Int.reduceToNat, Int.reduceTMod] at h)))
  (refine k_ret1 rfl h rfl ⟨?_, hm.below⟩)
  rfl
theorem arith7_ok (a b : Int) (ha : i9 a) (hb : i9 b) : Fun Try.prog 190 [I 7, I a, I b] (I (satI (ari 7 a b))) := by
  have hab := mul9 ha hb
  refine enterFun Try.func190 rfl Try.ntmps190 rfl (fun W0 w a hm h => ?_)
  repeat' (first | refine c_seq ?_ | refine c_region ?_ | refine c_nil ?_ | refine k_then ?_ | refine k_inN ?_ | refine c_skip ?_ | refine c_ret ?_ | refine c_block ?_ | refine c_condF h rfl ?_ | ((refine st_op rfl rfl h ?_); clear h a; (first | ((first | refine does_funM hm en237 rfl (saturate_ok _) ?_ | refine does_funM hm en238 rfl (ratio_ok _ _ (by first | assumption | omega) (by first | assumption | omega)) ?_); clear hm; intro w hm) | refine does_move rfl ?_ | refine does_assign rfl ?_ | refine zeql rfl rfl ?_); intro a h; (try simp only [Value.cells, splice, nz, Nat.reduceAdd, Nat.reduceMul, Int.reduceAdd, Int.reduceToNat, Int.reduceTMod] at h)))
  (refine k_ret1 rfl h rfl ⟨?_, hm.below⟩)
  rfl
theorem arith_ok (o a b : Int) (ho : o = 3 ∨ o = 4 ∨ o = 5 ∨ o = 6 ∨ o = 7) (ha : i9 a) (hb : i9 b) : Fun Try.prog 190 [I o, I a, I b] (I (satI (ari o a b))) := by
  rcases ho with rfl | rfl | rfl | rfl | rfl
  · exact arith3_ok a b ha hb
  · exact arith4_ok a b ha hb
  · exact arith5_ok a b ha hb
  · exact arith6_ok a b ha hb
  · exact arith7_ok a b ha hb
set_option maxHeartbeats 4000000 in
theorem l17Op3_ok (q : Addr) (x : Int) (c : Nat) (hx : i9 x) : FunP Try.prog 183 [I 3, .slice (some q) 1 c] (fun H => At H q [I x]) (I (ari 3 0 x)) := by
  refine enterFunP Try.func183 rfl Try.ntmps183 rfl (fun W0 w a hp hm h => ?_)
  have h0 : At (fun b => W0.heap[b]?) (q.add 0) [I x] := hp.add 0
  repeat' (first | refine c_seq ?_ | refine c_region ?_ | refine c_nil ?_ | refine k_then ?_ | refine k_thenR ?_ | refine k_inR ?_ | refine c_ret ?_ | refine c_block ?_ | refine c_condT h rfl ?_ | ((refine st_op rfl rfl h ?_); clear h a; (first | refine does_move rfl ?_ | refine does_assign rfl ?_ | refine does_loadB hm rfl (by assumption) rfl ?_ | refine zeql rfl rfl ?_ | refine does_neg rfl (by omega) ?_ | refine ziS1m rfl rfl ?_); intro a h; (try simp only [Value.cells, splice, nz, Nat.reduceAdd, Nat.reduceMul, Int.reduceAdd, Int.reduceToNat, Int.reduceTMod] at h)))
  (refine k_ret1 rfl h rfl ⟨?_, hm.below⟩)
  rfl
set_option maxHeartbeats 4000000 in
theorem l17Op4_ok (q : Addr) (x y : Int) (c : Nat) (hx : i9 x) (hy : i9 y) : FunP Try.prog 183 [I 4, .slice (some q) 2 c] (fun H => At H q [I x, I y]) (I (ari 4 x y)) := by
  have hab := mul9 hx hy
  refine enterFunP Try.func183 rfl Try.ntmps183 rfl (fun W0 w a hp hm h => ?_)
  have h0 : At (fun b => W0.heap[b]?) (q.add 0) [I x, I y] := hp.add 0
  have h1 : At (fun b => W0.heap[b]?) (q.add 1) [I y] := hp.add 1
  repeat' (first | refine c_seq ?_ | refine c_region ?_ | refine c_nil ?_ | refine k_then ?_ | refine k_thenR ?_ | refine k_inR ?_ | refine c_ret ?_ | refine c_block ?_ | refine c_condT h rfl ?_ | refine c_condF h rfl ?_ | ((refine st_op rfl rfl h ?_); clear h a; (first | refine does_move rfl ?_ | refine does_assign rfl ?_ | refine zeql rfl rfl ?_); intro a h; (try simp only [Value.cells, splice, nz, Nat.reduceAdd, Nat.reduceMul, Int.reduceAdd, Int.reduceToNat, Int.reduceTMod] at h)) | (apply c_drawM (id := 5) 8 [.val _, .val _, .val _, .val _, .val _, .val _, .val _, .val _] mixed (by kernel_rfl) (h := h) (hm := hm); (case vcs => (repeat' (first | exact vcs_nil | refine vcs_cons ?_ ?_ | (intro w hm; (repeat (first | refine dep_val ?_ | refine dep_nil ?_)); first | exact vc_skip rfl | exact vc_alloc rfl | exact vc_box rfl rfl rfl | exact vc_buildSlice rfl rfl rfl rfl | exact vc_makeSlice (by omega) (by omega) rfl rfl rfl | exact vc_store rfl rfl rfl rfl rfl rfl rfl rfl rfl rfl | (apply vc_run rfl; (first | refine does_move rfl ?_ | refine does_assign rfl ?_ | refine does_loadB hm rfl (by assumption) rfl ?_ | refine does_add rfl rfl (by omega) ?_ | refine does_indexS1m (by omega) rfl rfl ?_); (exact ⟨ext_refl _, rfl⟩)))))); (case hup => kernel_rfl); (case hown => kernel_rfl); (case hnp => kernel_rfl); clear h hm a; intro  w hm; (try simp only [List.map_nil, List.nil_append] at hm); (repeat (first | refine dep_val ?_ | refine dep_nil ?_)); intro a h; (try simp only [Value.cells, List.toList_toArray, splice, List.set_cons_zero, List.set_cons_succ, List.drop_zero, List.drop_succ_cons, List.take_succ_cons, List.take_zero, Nat.zero_add, Nat.reduceAdd, Nat.reduceMul, Int.reduceAdd, Int.reduceToNat, Int.reduceTMod, Nat.zero_mul, Nat.one_mul, Int.toNat_natCast] at h)))
  (refine k_ret1 rfl h rfl ⟨?_, hm.below⟩)
  rfl
set_option maxHeartbeats 4000000 in
theorem l17Op5_ok (q : Addr) (x y : Int) (c : Nat) (hx : i9 x) (hy : i9 y) : FunP Try.prog 183 [I 5, .slice (some q) 2 c] (fun H => At H q [I x, I y]) (I (ari 5 x y)) := by
  have hab := mul9 hx hy
  refine enterFunP Try.func183 rfl Try.ntmps183 rfl (fun W0 w a hp hm h => ?_)
  have h0 : At (fun b => W0.heap[b]?) (q.add 0) [I x, I y] := hp.add 0
  have h1 : At (fun b => W0.heap[b]?) (q.add 1) [I y] := hp.add 1
  repeat' (first | refine c_seq ?_ | refine c_region ?_ | refine c_nil ?_ | refine k_then ?_ | refine k_thenR ?_ | refine k_inR ?_ | refine c_ret ?_ | refine c_block ?_ | refine c_condT h rfl ?_ | refine c_condF h rfl ?_ | ((refine st_op rfl rfl h ?_); clear h a; (first | refine does_move rfl ?_ | refine does_assign rfl ?_ | refine zeql rfl rfl ?_); intro a h; (try simp only [Value.cells, splice, nz, Nat.reduceAdd, Nat.reduceMul, Int.reduceAdd, Int.reduceToNat, Int.reduceTMod] at h)) | (apply c_drawM (id := 7) 8 [.val _, .val _, .val _, .val _, .val _, .val _, .val _, .val _] mixed (by kernel_rfl) (h := h) (hm := hm); (case vcs => (repeat' (first | exact vcs_nil | refine vcs_cons ?_ ?_ | (intro w hm; (repeat (first | refine dep_val ?_ | refine dep_nil ?_)); first | exact vc_skip rfl | exact vc_alloc rfl | exact vc_box rfl rfl rfl | exact vc_buildSlice rfl rfl rfl rfl | exact vc_makeSlice (by omega) (by omega) rfl rfl rfl | exact vc_store rfl rfl rfl rfl rfl rfl rfl rfl rfl rfl | (apply vc_run rfl; (first | refine does_move rfl ?_ | refine does_assign rfl ?_ | refine does_loadB hm rfl (by assumption) rfl ?_ | refine does_sub rfl rfl (by omega) ?_ | refine does_indexS1m (by omega) rfl rfl ?_); (exact ⟨ext_refl _, rfl⟩)))))); (case hup => kernel_rfl); (case hown => kernel_rfl); (case hnp => kernel_rfl); clear h hm a; intro  w hm; (try simp only [List.map_nil, List.nil_append] at hm); (repeat (first | refine dep_val ?_ | refine dep_nil ?_)); intro a h; (try simp only [Value.cells, List.toList_toArray, splice, List.set_cons_zero, List.set_cons_succ, List.drop_zero, List.drop_succ_cons, List.take_succ_cons, List.take_zero, Nat.zero_add, Nat.reduceAdd, Nat.reduceMul, Int.reduceAdd, Int.reduceToNat, Int.reduceTMod, Nat.zero_mul, Nat.one_mul, Int.toNat_natCast] at h)))
  (refine k_ret1 rfl h rfl ⟨?_, hm.below⟩)
  rfl
set_option maxHeartbeats 4000000 in
theorem l17Op6_ok (q : Addr) (x y : Int) (c : Nat) (hx : i9 x) (hy : i9 y) : FunP Try.prog 183 [I 6, .slice (some q) 2 c] (fun H => At H q [I x, I y]) (I (ari 6 x y)) := by
  have hab := mul9 hx hy
  refine enterFunP Try.func183 rfl Try.ntmps183 rfl (fun W0 w a hp hm h => ?_)
  have h0 : At (fun b => W0.heap[b]?) (q.add 0) [I x, I y] := hp.add 0
  have h1 : At (fun b => W0.heap[b]?) (q.add 1) [I y] := hp.add 1
  repeat' (first | refine c_seq ?_ | refine c_region ?_ | refine c_nil ?_ | refine k_then ?_ | refine k_thenR ?_ | refine k_inR ?_ | refine c_ret ?_ | refine c_block ?_ | refine c_condT h rfl ?_ | refine c_condF h rfl ?_ | ((refine st_op rfl rfl h ?_); clear h a; (first | refine does_move rfl ?_ | refine does_assign rfl ?_ | refine zeql rfl rfl ?_); intro a h; (try simp only [Value.cells, splice, nz, Nat.reduceAdd, Nat.reduceMul, Int.reduceAdd, Int.reduceToNat, Int.reduceTMod] at h)) | (apply c_drawM (id := 9) 9 [.val _, .val _, .val _, .val _, .val _, .val _, .val _, .val _, .val _] mixed (by kernel_rfl) (h := h) (hm := hm); (case vcs => (repeat' (first | exact vcs_nil | refine vcs_cons ?_ ?_ | (intro w hm; (repeat (first | refine dep_val ?_ | refine dep_nil ?_)); first | exact vc_skip rfl | exact vc_alloc rfl | exact vc_box rfl rfl rfl | exact vc_buildSlice rfl rfl rfl rfl | exact vc_makeSlice (by omega) (by omega) rfl rfl rfl | exact vc_store rfl rfl rfl rfl rfl rfl rfl rfl rfl rfl | (apply vc_run rfl; (first | (refine does_mul rfl rfl (by omega) ?_) | (refine does_funX en216 rfl (sFloorDiv_ok _ _ (by first | assumption | omega)) ?_) | refine does_move rfl ?_ | refine does_assign rfl ?_ | refine does_loadB hm rfl (by assumption) rfl ?_ | refine does_indexS1m (by omega) rfl rfl ?_); (first | exact ⟨ext_refl _, rfl⟩ | exact fun _ hx => ⟨hx, rfl⟩)))))); (case hup => kernel_rfl); (case hown => kernel_rfl); (case hnp => kernel_rfl); clear h hm a; intro  w hm; (try simp only [List.map_nil, List.nil_append] at hm); (repeat (first | refine dep_val ?_ | refine dep_nil ?_)); intro a h; (try simp only [Value.cells, List.toList_toArray, splice, List.set_cons_zero, List.set_cons_succ, List.drop_zero, List.drop_succ_cons, List.take_succ_cons, List.take_zero, Nat.zero_add, Nat.reduceAdd, Nat.reduceMul, Int.reduceAdd, Int.reduceToNat, Int.reduceTMod, Nat.zero_mul, Nat.one_mul, Int.toNat_natCast] at h)))
  (refine k_ret1 rfl h rfl ⟨?_, hm.below⟩)
  rfl
set_option maxHeartbeats 4000000 in
theorem l17Op7_ok (q : Addr) (x y : Int) (c : Nat) (hx : i9 x) (hy : i9 y) : FunP Try.prog 183 [I 7, .slice (some q) 2 c] (fun H => At H q [I x, I y]) (I (ari 7 x y)) := by
  have hab := mul9 hx hy
  refine enterFunP Try.func183 rfl Try.ntmps183 rfl (fun W0 w a hp hm h => ?_)
  have h0 : At (fun b => W0.heap[b]?) (q.add 0) [I x, I y] := hp.add 0
  have h1 : At (fun b => W0.heap[b]?) (q.add 1) [I y] := hp.add 1
  repeat' (first | refine c_seq ?_ | refine c_region ?_ | refine c_nil ?_ | refine k_then ?_ | refine k_inN ?_ | refine c_skip ?_ | refine c_ret ?_ | refine c_block ?_ | refine c_condF h rfl ?_ | ((refine st_op rfl rfl h ?_); clear h a; (first | refine does_move rfl ?_ | refine does_assign rfl ?_ | refine zeql rfl rfl ?_); intro a h; (try simp only [Value.cells, splice, nz, Nat.reduceAdd, Nat.reduceMul, Int.reduceAdd, Int.reduceToNat, Int.reduceTMod] at h)) | (apply c_drawM (id := 10) 9 [.val _, .val _, .val _, .val _, .val _, .val _, .val _, .val _, .val _] mixed (by kernel_rfl) (h := h) (hm := hm); (case vcs => (repeat' (first | exact vcs_nil | refine vcs_cons ?_ ?_ | (intro w hm; (repeat (first | refine dep_val ?_ | refine dep_nil ?_)); first | exact vc_skip rfl | exact vc_alloc rfl | exact vc_box rfl rfl rfl | exact vc_buildSlice rfl rfl rfl rfl | exact vc_makeSlice (by omega) (by omega) rfl rfl rfl | exact vc_store rfl rfl rfl rfl rfl rfl rfl rfl rfl rfl | (apply vc_run rfl; (first | (refine does_mul rfl rfl (by omega) ?_) | (refine does_funX en234 rfl (sQuot_ok _ _ (by first | assumption | omega) (by first | assumption | omega)) ?_) | refine does_move rfl ?_ | refine does_assign rfl ?_ | refine does_loadB hm rfl (by assumption) rfl ?_ | refine does_indexS1m (by omega) rfl rfl ?_); (first | exact ⟨ext_refl _, rfl⟩ | exact fun _ hx => ⟨hx, rfl⟩)))))); (case hup => kernel_rfl); (case hown => kernel_rfl); (case hnp => kernel_rfl); clear h hm a; intro  w hm; (try simp only [List.map_nil, List.nil_append] at hm); (repeat (first | refine dep_val ?_ | refine dep_nil ?_)); intro a h; (try simp only [Value.cells, List.toList_toArray, splice, List.set_cons_zero, List.set_cons_succ, List.drop_zero, List.drop_succ_cons, List.take_succ_cons, List.take_zero, Nat.zero_add, Nat.reduceAdd, Nat.reduceMul, Int.reduceAdd, Int.reduceToNat, Int.reduceTMod, Nat.zero_mul, Nat.one_mul, Int.toNat_natCast] at h)))
  (refine k_ret1 rfl h rfl ⟨?_, hm.below⟩)
  rfl
theorem l17Op_ok (q : Addr) (o x y : Int) (c : Nat) (ho : 4 ≤ o ∧ o ≤ 7) (hx : i9 x) (hy : i9 y) : FunP Try.prog 183 [I o, .slice (some q) 2 c] (fun H => At H q [I x, I y]) (I (ari o x y)) := by
  obtain rfl | rfl | rfl | rfl : o = 4 ∨ o = 5 ∨ o = 6 ∨ o = 7 := by omega
  · exact l17Op4_ok q x y c hx hy
  · exact l17Op5_ok q x y c hx hy
  · exact l17Op6_ok q x y c hx hy
  · exact l17Op7_ok q x y c hx hy
end Go.Proofs.Ytgoimincdbbafaa.St
