/-
  Contracts of the functions that compare programs, lists of programs and of surfaces.
-/
import Derived.Test.YtgphmhjnnppbnaaLPgs
import Derived.Test.YtgphmhjnnppbnaaLSfs
set_option linter.unusedSimpArgs false
set_option linter.unusedVariables false
namespace Go.Proofs.Ytgphmhjnnppbnaa.St
open Go.RowKit
set_option maxHeartbeats 4000000 in
theorem slEqInt_ok (p q : Option Addr) (xs ys : List Int) (c d : Nat) (hxs : xs.length ≤ 1048576) (hys : ys.length ≤ 1048576) : FunP Try.prog 186 [.slice p xs.length c, .slice q ys.length d] (fun H => Sl H p eI 1 xs ∧ Sl H q eI 1 ys) (.bool (dB (xs = ys))) := by
  refine enterFunP Try.func186 rfl Try.ntmps186 rfl (fun W0 w a hp hm h => ?_)
  obtain ⟨hx, hy⟩ := hp
  repeat' (first | refine c_seq ?_ | refine c_region ?_ | refine c_nil ?_ | refine k_then ?_ | refine k_thenR ?_ | refine c_skip ?_ | refine c_ret ?_ | refine c_block ?_ | ((refine st_op rfl rfl h ?_); clear h a; (first | refine does_move rfl ?_ | refine does_assign rfl ?_ | refine does_neq rfl rfl ?_ | refine does_lenS (SliceT.out) rfl ?_); intro a h; (try simp only [Value.cells, List.toList_toArray, splice, List.set_cons_zero, List.set_cons_succ, List.drop_zero, List.drop_succ_cons, List.take_succ_cons, List.take_zero, Nat.zero_add, Nat.reduceAdd, Nat.reduceMul, Int.reduceAdd, Int.reduceToNat, Int.reduceTMod, Nat.zero_mul, Nat.one_mul, Int.toNat_natCast] at h)) | ((refine c_condD h rfl ?_ ?_) <;> intro hc <;> (try (fail))))
  · (refine k_ret1 rfl h rfl ⟨?_, hm.below⟩)
    exact boolF (fun e => hc (by rw [e]))
  · have hl : xs.length = ys.length := by omega
    refine c_loop (σ := Nat) (fun k a w => k ≤ xs.length ∧ (∀ i, i < k → xs[i]? = ys[i]?) ∧ Mem W0 [] (fun b => W0.heap[b]?) [] w ∧ Holds [(0, .slice p xs.length c), (1, .slice q ys.length d), (12, .int .i64 xs.length), (13, .int .i64 k)] _ a) (fun k => xs.length - k) 0
      ⟨Nat.zero_le _, fun i hi => absurd hi (Nat.not_lt_zero _), hm, h.keep ⟨rfl, rfl, rfl, rfl, trivial⟩⟩ ?_
    clear h hm hc
    rintro k a w ⟨hk, hpre, hm, h⟩
    by_cases hlt : k < xs.length
    · obtain ⟨q1, rfl, hat1⟩ := hx.at1 hlt
      obtain ⟨q2, rfl, hat2⟩ := hy.at1 (k := k) (by omega)
      have g1 : xs[k]? = some xs[k] := List.getElem?_eq_getElem hlt
      have g2 : ys[k]? = some ys[k] := List.getElem?_eq_getElem (by omega)
      repeat' (first | refine c_seq ?_ | refine c_region ?_ | refine c_nil ?_ | refine k_then ?_ | refine k_thenR ?_ | refine k_inN ?_ | refine k_inR ?_ | refine c_skip ?_ | refine c_ret ?_ | refine c_block ?_ | refine c_condT h rfl ?_ | ((refine st_op rfl rfl h ?_); clear h a; (first | refine does_move rfl ?_ | refine does_assign rfl ?_ | refine does_lssT rfl rfl (by omega) ?_ | refine does_add rfl rfl (by omega) ?_); intro a h; (try simp only [Value.cells, List.toList_toArray, splice, List.set_cons_zero, List.set_cons_succ, List.drop_zero, List.drop_succ_cons, List.take_succ_cons, List.take_zero, Nat.zero_add, Nat.reduceAdd, Nat.reduceMul, Int.reduceAdd, Int.reduceToNat, Int.reduceTMod, Nat.zero_mul, Nat.one_mul, Int.toNat_natCast] at h)) | (apply c_drawM (id := 6) 9 [.val _, .val _, .val _, .val _, .val _, .val _, .val _, .val _, .val _] mixed (by kernel_rfl) (h := h) (hm := hm); (case vcs => (repeat' (first | exact vcs_nil | refine vcs_cons ?_ ?_ | (intro w hm; (repeat (first | refine dep_val ?_ | refine dep_nil ?_)); first | exact vc_skip rfl | exact vc_alloc rfl | exact vc_box rfl rfl rfl | exact vc_buildSlice rfl rfl rfl rfl | exact vc_makeSlice (by omega) (by omega) rfl rfl rfl | exact vc_store rfl rfl rfl rfl rfl rfl rfl rfl rfl rfl | (apply vc_run rfl; (first | refine does_move rfl ?_ | refine does_loadB hm rfl (by assumption) rfl ?_ | refine does_neq rfl rfl ?_ | refine does_indexS1 (by omega) rfl rfl ?_); (exact ⟨ext_refl _, rfl⟩)))))); (case hup => kernel_rfl); (case hown => kernel_rfl); (case hnp => kernel_rfl); clear h hm a; intro  w hm; (try simp only [List.map_nil, List.nil_append] at hm); (repeat (first | refine dep_val ?_ | refine dep_nil ?_)); intro a h; (try simp only [Value.cells, List.toList_toArray, splice, List.set_cons_zero, List.set_cons_succ, List.drop_zero, List.drop_succ_cons, List.take_succ_cons, List.take_zero, Nat.zero_add, Nat.reduceAdd, Nat.reduceMul, Int.reduceAdd, Int.reduceToNat, Int.reduceTMod, Nat.zero_mul, Nat.one_mul, Int.toNat_natCast] at h)) | ((refine c_condD h rfl ?_ ?_) <;> intro hc <;> (try (fail))))
      · (refine k_ret1 rfl h rfl ⟨?_, hm.below⟩)
        exact boolF (fun e => hc (by subst e; rfl))
      · refine k_thenN ⟨k + 1, ⟨by omega, fun i hi => ?_, hm.dropAll, h.keep ⟨rfl, rfl, rfl, rfl, trivial⟩⟩, by omega⟩
        by_cases hik : i < k
        · exact hpre i hik
        · obtain rfl : i = k := by omega
          rw [g1, g2]
          first | rw [eI_inj (Classical.not_not.1 hc)] | rw [Classical.not_not.1 hc]
    · repeat' (first | refine c_seq ?_ | refine c_region ?_ | refine c_nil ?_ | refine k_then ?_ | refine k_thenE ?_ | refine k_inE ?_ | refine c_ret ?_ | refine c_exit ?_ | refine c_condF h rfl ?_ | ((refine st_op rfl rfl h ?_); clear h a; (first | refine does_assign rfl ?_ | refine does_lssF rfl rfl (by omega) ?_); intro a h; (try simp only [Value.cells, List.toList_toArray, splice, List.set_cons_zero, List.set_cons_succ, List.drop_zero, List.drop_succ_cons, List.take_succ_cons, List.take_zero, Nat.zero_add, Nat.reduceAdd, Nat.reduceMul, Int.reduceAdd, Int.reduceToNat, Int.reduceTMod, Nat.zero_mul, Nat.one_mul, Int.toNat_natCast] at h)))
      (refine k_ret1 rfl h rfl ⟨?_, hm.below⟩)
      exact boolT (eq_upto hl hlt hpre)
set_option maxHeartbeats 4000000 in
theorem slEqAsg_ok (p q : Option Addr) (xs ys : List TAssignment) (c d : Nat) (hxs : xs.length ≤ 1048576) (hys : ys.length ≤ 1048576) : FunP Try.prog 189 [.slice p xs.length c, .slice q ys.length d] (fun H => Sl H p eAssignment 2 xs ∧ Sl H q eAssignment 2 ys) (.bool (dB (xs = ys))) := by
  refine enterFunP Try.func189 rfl Try.ntmps189 rfl (fun W0 w a hp hm h => ?_)
  obtain ⟨hx, hy⟩ := hp
  repeat' (first | refine c_seq ?_ | refine c_region ?_ | refine c_nil ?_ | refine k_then ?_ | refine k_thenR ?_ | refine c_skip ?_ | refine c_ret ?_ | refine c_block ?_ | ((refine st_op rfl rfl h ?_); clear h a; (first | refine does_move rfl ?_ | refine does_assign rfl ?_ | refine does_neq rfl rfl ?_ | refine does_lenS (SliceT.out) rfl ?_); intro a h; (try simp only [Value.cells, List.toList_toArray, splice, List.set_cons_zero, List.set_cons_succ, List.drop_zero, List.drop_succ_cons, List.take_succ_cons, List.take_zero, Nat.zero_add, Nat.reduceAdd, Nat.reduceMul, Int.reduceAdd, Int.reduceToNat, Int.reduceTMod, Nat.zero_mul, Nat.one_mul, Int.toNat_natCast] at h)) | ((refine c_condD h rfl ?_ ?_) <;> intro hc <;> (try (fail))))
  · (refine k_ret1 rfl h rfl ⟨?_, hm.below⟩)
    exact boolF (fun e => hc (by rw [e]))
  · have hl : xs.length = ys.length := by omega
    refine c_loop (σ := Nat) (fun k a w => k ≤ xs.length ∧ (∀ i, i < k → xs[i]? = ys[i]?) ∧ Mem W0 [] (fun b => W0.heap[b]?) [] w ∧ Holds [(0, .slice p xs.length c), (1, .slice q ys.length d), (12, .int .i64 xs.length), (13, .int .i64 k)] _ a) (fun k => xs.length - k) 0
      ⟨Nat.zero_le _, fun i hi => absurd hi (Nat.not_lt_zero _), hm, h.keep ⟨rfl, rfl, rfl, rfl, trivial⟩⟩ ?_
    clear h hm hc
    rintro k a w ⟨hk, hpre, hm, h⟩
    by_cases hlt : k < xs.length
    · obtain ⟨q1, rfl, hat1⟩ := hx.at hlt
      obtain ⟨q2, rfl, hat2⟩ := hy.at (k := k) (by omega)
      have g1 : xs[k]? = some xs[k] := List.getElem?_eq_getElem hlt
      have g2 : ys[k]? = some ys[k] := List.getElem?_eq_getElem (by omega)
      repeat' (first | refine c_seq ?_ | refine c_region ?_ | refine c_nil ?_ | refine k_then ?_ | refine k_thenR ?_ | refine k_inN ?_ | refine k_inR ?_ | refine c_skip ?_ | refine c_ret ?_ | refine c_block ?_ | refine c_condT h rfl ?_ | ((refine st_op rfl rfl h ?_); clear h a; (first | refine does_move rfl ?_ | refine does_assign rfl ?_ | refine does_lssT rfl rfl (by omega) ?_ | refine does_add rfl rfl (by omega) ?_); intro a h; (try simp only [Value.cells, List.toList_toArray, splice, List.set_cons_zero, List.set_cons_succ, List.drop_zero, List.drop_succ_cons, List.take_succ_cons, List.take_zero, Nat.zero_add, Nat.reduceAdd, Nat.reduceMul, Int.reduceAdd, Int.reduceToNat, Int.reduceTMod, Nat.zero_mul, Nat.one_mul, Int.toNat_natCast] at h)) | (apply c_drawM (id := 6) 9 [.val _, .val _, .val _, .val _, .val _, .val _, .val _, .val _, .val _] mixed (by kernel_rfl) (h := h) (hm := hm); (case vcs => (repeat' (first | exact vcs_nil | refine vcs_cons ?_ ?_ | (intro w hm; (repeat (first | refine dep_val ?_ | refine dep_nil ?_)); first | exact vc_skip rfl | exact vc_alloc rfl | exact vc_box rfl rfl rfl | exact vc_buildSlice rfl rfl rfl rfl | exact vc_makeSlice (by omega) (by omega) rfl rfl rfl | exact vc_store rfl rfl rfl rfl rfl rfl rfl rfl rfl rfl | (apply vc_run rfl; (first | refine does_move rfl ?_ | refine does_loadBA hm rfl (by assumption) rfl ?_ | refine does_neqA rfl rfl rfl rfl ?_ | refine does_indexSn (by omega) rfl rfl ?_); (exact ⟨ext_refl _, rfl⟩)))))); (case hup => kernel_rfl); (case hown => kernel_rfl); (case hnp => kernel_rfl); clear h hm a; intro  w hm; (try simp only [List.map_nil, List.nil_append] at hm); (repeat (first | refine dep_val ?_ | refine dep_nil ?_)); intro a h; (try simp only [Value.cells, List.toList_toArray, splice, List.set_cons_zero, List.set_cons_succ, List.drop_zero, List.drop_succ_cons, List.take_succ_cons, List.take_zero, Nat.zero_add, Nat.reduceAdd, Nat.reduceMul, Int.reduceAdd, Int.reduceToNat, Int.reduceTMod, Nat.zero_mul, Nat.one_mul, Int.toNat_natCast] at h)) | ((refine c_condD h rfl ?_ ?_) <;> intro hc <;> (try (fail))))
      · (refine k_ret1 rfl h rfl ⟨?_, hm.below⟩)
        exact boolF (fun e => hc (by subst e; rfl))
      · refine k_thenN ⟨k + 1, ⟨by omega, fun i hi => ?_, hm.dropAll, h.keep ⟨rfl, rfl, rfl, rfl, trivial⟩⟩, by omega⟩
        by_cases hik : i < k
        · exact hpre i hik
        · obtain rfl : i = k := by omega
          rw [g1, g2]
          first | rw [eAssignment_inj (Classical.not_not.1 hc)] | rw [Classical.not_not.1 hc]
    · repeat' (first | refine c_seq ?_ | refine c_region ?_ | refine c_nil ?_ | refine k_then ?_ | refine k_thenE ?_ | refine k_inE ?_ | refine c_ret ?_ | refine c_exit ?_ | refine c_condF h rfl ?_ | ((refine st_op rfl rfl h ?_); clear h a; (first | refine does_assign rfl ?_ | refine does_lssF rfl rfl (by omega) ?_); intro a h; (try simp only [Value.cells, List.toList_toArray, splice, List.set_cons_zero, List.set_cons_succ, List.drop_zero, List.drop_succ_cons, List.take_succ_cons, List.take_zero, Nat.zero_add, Nat.reduceAdd, Nat.reduceMul, Int.reduceAdd, Int.reduceToNat, Int.reduceTMod, Nat.zero_mul, Nat.one_mul, Int.toNat_natCast] at h)))
      (refine k_ret1 rfl h rfl ⟨?_, hm.below⟩)
      exact boolT (eq_upto hl hlt hpre)
set_option maxHeartbeats 4000000 in
theorem slEqSrf_ok (p q : Option Addr) (xs ys : List TSurface) (c d : Nat) (hxs : xs.length ≤ 1048576) (hys : ys.length ≤ 1048576) : FunP Try.prog 102 [.slice p xs.length c, .slice q ys.length d] (fun H => Sl H p eSurface 26 xs ∧ Sl H q eSurface 26 ys) (.bool (dB (xs = ys))) := by
  refine enterFunP Try.func102 rfl Try.ntmps102 rfl (fun W0 w a hp hm h => ?_)
  obtain ⟨hx, hy⟩ := hp
  repeat' (first | refine c_seq ?_ | refine c_region ?_ | refine c_nil ?_ | refine k_then ?_ | refine k_thenR ?_ | refine c_skip ?_ | refine c_ret ?_ | refine c_block ?_ | ((refine st_op rfl rfl h ?_); clear h a; (first | refine does_move rfl ?_ | refine does_assign rfl ?_ | refine does_neq rfl rfl ?_ | refine does_lenS (SliceT.out) rfl ?_); intro a h; (try simp only [Value.cells, List.toList_toArray, splice, List.set_cons_zero, List.set_cons_succ, List.drop_zero, List.drop_succ_cons, List.take_succ_cons, List.take_zero, Nat.zero_add, Nat.reduceAdd, Nat.reduceMul, Int.reduceAdd, Int.reduceToNat, Int.reduceTMod, Nat.zero_mul, Nat.one_mul, Int.toNat_natCast] at h)) | ((refine c_condD h rfl ?_ ?_) <;> intro hc <;> (try (fail))))
  · (refine k_ret1 rfl h rfl ⟨?_, hm.below⟩)
    exact boolF (fun e => hc (by rw [e]))
  · have hl : xs.length = ys.length := by omega
    refine c_loop (σ := Nat) (fun k a w => k ≤ xs.length ∧ (∀ i, i < k → xs[i]? = ys[i]?) ∧ Mem W0 [] (fun b => W0.heap[b]?) [] w ∧ Holds [(0, .slice p xs.length c), (1, .slice q ys.length d), (12, .int .i64 xs.length), (13, .int .i64 k)] _ a) (fun k => xs.length - k) 0
      ⟨Nat.zero_le _, fun i hi => absurd hi (Nat.not_lt_zero _), hm, h.keep ⟨rfl, rfl, rfl, rfl, trivial⟩⟩ ?_
    clear h hm hc
    rintro k a w ⟨hk, hpre, hm, h⟩
    by_cases hlt : k < xs.length
    · obtain ⟨q1, rfl, hat1⟩ := hx.at hlt
      obtain ⟨q2, rfl, hat2⟩ := hy.at (k := k) (by omega)
      have g1 : xs[k]? = some xs[k] := List.getElem?_eq_getElem hlt
      have g2 : ys[k]? = some ys[k] := List.getElem?_eq_getElem (by omega)
      repeat' (first | refine c_seq ?_ | refine c_region ?_ | refine c_nil ?_ | refine k_then ?_ | refine k_thenR ?_ | refine k_inN ?_ | refine k_inR ?_ | refine c_skip ?_ | refine c_ret ?_ | refine c_block ?_ | refine c_condT h rfl ?_ | ((refine st_op rfl rfl h ?_); clear h a; (first | refine does_move rfl ?_ | refine does_assign rfl ?_ | refine does_lssT rfl rfl (by omega) ?_ | refine does_add rfl rfl (by omega) ?_); intro a h; (try simp only [Value.cells, List.toList_toArray, splice, List.set_cons_zero, List.set_cons_succ, List.drop_zero, List.drop_succ_cons, List.take_succ_cons, List.take_zero, Nat.zero_add, Nat.reduceAdd, Nat.reduceMul, Int.reduceAdd, Int.reduceToNat, Int.reduceTMod, Nat.zero_mul, Nat.one_mul, Int.toNat_natCast] at h)) | (apply c_drawM (id := 6) 9 [.val _, .val _, .val _, .val _, .val _, .val _, .val _, .val _, .val _] mixed (by kernel_rfl) (h := h) (hm := hm); (case vcs => (repeat' (first | exact vcs_nil | refine vcs_cons ?_ ?_ | (intro w hm; (repeat (first | refine dep_val ?_ | refine dep_nil ?_)); first | exact vc_skip rfl | exact vc_alloc rfl | exact vc_box rfl rfl rfl | exact vc_buildSlice rfl rfl rfl rfl | exact vc_makeSlice (by omega) (by omega) rfl rfl rfl | exact vc_store rfl rfl rfl rfl rfl rfl rfl rfl rfl rfl | (apply vc_run rfl; (first | refine does_move rfl ?_ | refine does_loadBA hm rfl (by assumption) rfl ?_ | refine does_neqA rfl rfl rfl rfl ?_ | refine does_indexSn (by omega) rfl rfl ?_); (exact ⟨ext_refl _, rfl⟩)))))); (case hup => kernel_rfl); (case hown => kernel_rfl); (case hnp => kernel_rfl); clear h hm a; intro  w hm; (try simp only [List.map_nil, List.nil_append] at hm); (repeat (first | refine dep_val ?_ | refine dep_nil ?_)); intro a h; (try simp only [Value.cells, List.toList_toArray, splice, List.set_cons_zero, List.set_cons_succ, List.drop_zero, List.drop_succ_cons, List.take_succ_cons, List.take_zero, Nat.zero_add, Nat.reduceAdd, Nat.reduceMul, Int.reduceAdd, Int.reduceToNat, Int.reduceTMod, Nat.zero_mul, Nat.one_mul, Int.toNat_natCast] at h)) | ((refine c_condD h rfl ?_ ?_) <;> intro hc <;> (try (fail))))
      · (refine k_ret1 rfl h rfl ⟨?_, hm.below⟩)
        exact boolF (fun e => hc (by subst e; rfl))
      · refine k_thenN ⟨k + 1, ⟨by omega, fun i hi => ?_, hm.dropAll, h.keep ⟨rfl, rfl, rfl, rfl, trivial⟩⟩, by omega⟩
        by_cases hik : i < k
        · exact hpre i hik
        · obtain rfl : i = k := by omega
          rw [g1, g2]
          first | rw [eSurface_inj (Classical.not_not.1 hc)] | rw [Classical.not_not.1 hc]
    · repeat' (first | refine c_seq ?_ | refine c_region ?_ | refine c_nil ?_ | refine k_then ?_ | refine k_thenE ?_ | refine k_inE ?_ | refine c_ret ?_ | refine c_exit ?_ | refine c_condF h rfl ?_ | ((refine st_op rfl rfl h ?_); clear h a; (first | refine does_assign rfl ?_ | refine does_lssF rfl rfl (by omega) ?_); intro a h; (try simp only [Value.cells, List.toList_toArray, splice, List.set_cons_zero, List.set_cons_succ, List.drop_zero, List.drop_succ_cons, List.take_succ_cons, List.take_zero, Nat.zero_add, Nat.reduceAdd, Nat.reduceMul, Int.reduceAdd, Int.reduceToNat, Int.reduceTMod, Nat.zero_mul, Nat.one_mul, Int.toNat_natCast] at h)))
      (refine k_ret1 rfl h rfl ⟨?_, hm.below⟩)
      exact boolT (eq_upto hl hlt hpre)
theorem PNode.eq_iff (x y : PNode) : x = y ↔ x.op = y.op ∧ x.name = y.name ∧ x.num = y.num ∧ x.args = y.args := by
  cases x
  cases y
  simp
theorem map_get_iff {α β : Type} (f : α → β) {xs ys : List α} {k : Nat} {x y : α} (hx : xs[k]? = some x) (hy : ys[k]? = some y) : (xs.map f)[k]? = (ys.map f)[k]? ↔ f x = f y := by
  rw [List.getElem?_map, List.getElem?_map, hx, hy]
  simp
theorem map_eq_get {α β : Type} (f : α → β) {xs ys : List α} {k : Nat} {x y : α} (h : xs.map f = ys.map f) (hx : xs[k]? = some x) (hy : ys[k]? = some y) : f x = f y := (map_get_iff f hx hy).1 (by rw [h])
theorem map_eq_upto {α β : Type} (f : α → β) {xs ys : List α} (hl : xs.length = ys.length) {k : Nat} (hk : ¬ k < xs.length) (h : ∀ i, i < k → (xs.map f)[i]? = (ys.map f)[i]?) : xs.map f = ys.map f :=
  eq_upto (k := k) (by simpa using hl) (by simpa using hk) h
set_option maxHeartbeats 4000000 in
theorem sameNode_ok (x y : TNode) (hx : x.a.args.length ≤ 1048576) (hy : y.a.args.length ≤ 1048576) : FunP Try.prog 188 [.agg (eN x).toArray, .agg (eN y).toArray] (fun H => Sl H x.ptr eI 1 x.a.args ∧ Sl H y.ptr eI 1 y.a.args) (.bool (dB (x.a = y.a))) := by
  refine enterFunP Try.func188 rfl Try.ntmps188 rfl (fun W0 w a hp hm h => ?_)
  obtain ⟨h1, h2⟩ := hp
  repeat' (first | refine c_seq ?_ | refine c_region ?_ | refine c_nil ?_ | refine k_then ?_ | refine c_ret ?_ | ((refine st_op rfl rfl h ?_); clear h a; (first | (refine does_box hm rfl rfl ?_; clear hm; intro b w hm) | (refine does_funP2 hm en186 rfl (by repeat' (first | with_reducible refine And.intro ?_ ?_ | exact Sl.up (by assumption) hm)) (slEqInt_ok _ _ _ _ _ _ (by omega) (by omega)) ?_; clear hm; intro w hm) | refine does_move rfl ?_ | refine does_assign rfl ?_ | refine does_pickT rfl rfl ?_ | refine does_pickF rfl rfl ?_ | refine does_fieldAddrL rfl ?_ | refine does_loadO 0 hm rfl rfl rfl ?_ | refine does_loadO 1 hm rfl rfl rfl ?_ | refine does_eql rfl rfl ?_ | refine does_eqlStr rfl rfl ?_); intro a h; (try simp only [Value.cells, List.toList_toArray, splice, List.set_cons_zero, List.set_cons_succ, List.drop_zero, List.drop_succ_cons, List.take_succ_cons, List.take_zero, Nat.zero_add, Nat.reduceAdd, Nat.reduceMul, Int.reduceAdd, Int.reduceToNat, Int.reduceTMod, Nat.zero_mul, Nat.one_mul, Int.toNat_natCast] at h)) | ((refine st_skip rfl rfl h ?_); clear h a; intro a h) | (refine st_guardD rfl rfl h ?_ ?_ <;> clear h <;> intro hc h))
  all_goals (refine k_ret1 rfl h rfl ⟨?_, hm.below⟩)
  all_goals first
    | exact boolF (fun e => by rw [PNode.eq_iff] at e; simp_all)
    | exact boolI ⟨fun e => by rw [PNode.eq_iff]; simp_all, fun e => by rw [e]⟩
set_option maxHeartbeats 4000000 in
theorem eqFuncNode_ok (p q : Option Addr) (xs ys : List TNode) (c d : Nat) (hxs : xs.length ≤ 1048576) (hys : ys.length ≤ 1048576) (hsx : ∀ x ∈ xs, smN x) (hsy : ∀ x ∈ ys, smN x) :
    FunP Try.prog 187 [.slice p xs.length c, .slice q ys.length d, .func (.func 188) #[] #[]] (fun H => NodesH H p xs ∧ NodesH H q ys) (.bool (dB (xs.map aN = ys.map aN))) := by
  refine enterFunP Try.func187 rfl Try.ntmps187 rfl (fun W0 w a hp hm h => ?_)
  obtain ⟨hx, hy⟩ := hp
  repeat' (first | refine c_seq ?_ | refine c_region ?_ | refine c_nil ?_ | refine k_then ?_ | refine k_thenR ?_ | refine c_skip ?_ | refine c_ret ?_ | refine c_block ?_ | ((refine st_op rfl rfl h ?_); clear h a; (first | refine does_move rfl ?_ | refine does_assign rfl ?_ | refine does_neq rfl rfl ?_ | refine does_lenS (SliceT.out) rfl ?_); intro a h; (try simp only [Value.cells, List.toList_toArray, splice, List.set_cons_zero, List.set_cons_succ, List.drop_zero, List.drop_succ_cons, List.take_succ_cons, List.take_zero, Nat.zero_add, Nat.reduceAdd, Nat.reduceMul, Int.reduceAdd, Int.reduceToNat, Int.reduceTMod, Nat.zero_mul, Nat.one_mul, Int.toNat_natCast] at h)) | ((refine c_condD h rfl ?_ ?_) <;> intro hc <;> (try (fail))))
  · (refine k_ret1 rfl h rfl ⟨?_, hm.below⟩)
    exact boolF (fun e => hc (by have := congrArg List.length e; simp only [List.length_map] at this; omega))
  · have hl : xs.length = ys.length := by omega
    refine c_loop (σ := Nat) (fun k a w => k ≤ xs.length ∧ (∀ i, i < k → (xs.map aN)[i]? = (ys.map aN)[i]?) ∧ Mem W0 [] (fun b => W0.heap[b]?) [] w ∧ Holds [(0, .slice p xs.length c), (1, .slice q ys.length d), (2, .func (.func 188) #[] #[]), (15, .slice p xs.length c), (16, .int .i64 xs.length), (17, .int .i64 k)] _ a) (fun k => xs.length - k) 0
      ⟨Nat.zero_le _, fun i hi => absurd hi (Nat.not_lt_zero _), hm, h.keep ⟨rfl, rfl, rfl, rfl, rfl, rfl, trivial⟩⟩ ?_
    clear h hm hc
    rintro k a w ⟨hk, hpre, hm, h⟩
    by_cases hlt : k < xs.length
    · have hlt2 : k < ys.length := by omega
      obtain ⟨q1, rfl, hat1⟩ := hx.row.at hlt
      obtain ⟨q2, rfl, hat2⟩ := hy.row.at hlt2
      have g1 : xs[k]? = some xs[k] := List.getElem?_eq_getElem hlt
      have g2 : ys[k]? = some ys[k] := List.getElem?_eq_getElem hlt2
      have hs1 := hsx _ (List.getElem_mem hlt)
      have hs2 := hsy _ (List.getElem_mem hlt2)
      have hpx := hx.args _ (List.getElem_mem hlt)
      have hpy := hy.args _ (List.getElem_mem hlt2)
      repeat' (first | refine c_seq ?_ | refine c_region ?_ | refine c_nil ?_ | refine k_then ?_ | refine k_thenR ?_ | refine k_inN ?_ | refine k_inR ?_ | refine c_skip ?_ | refine c_ret ?_ | refine c_block ?_ | refine c_condT h rfl ?_ | (refine st_op (d := 8) rfl rfl h ?_; refine does_alloc hm ?_; clear h a hm; intro b_8 w hm a h; (try simp only [Value.cells, List.toList_toArray, splice, List.set_cons_zero, List.set_cons_succ, List.drop_zero, List.drop_succ_cons, List.take_succ_cons, List.take_zero, Nat.zero_add, Nat.reduceAdd, Nat.reduceMul, Int.reduceAdd, Int.reduceToNat, Int.reduceTMod, Nat.zero_mul, Nat.one_mul, Int.toNat_natCast] at h)) | (refine st_op (d := 9) rfl rfl h ?_; refine does_alloc hm ?_; clear h a hm; intro b_9 w hm a h; (try simp only [Value.cells, List.toList_toArray, splice, List.set_cons_zero, List.set_cons_succ, List.drop_zero, List.drop_succ_cons, List.take_succ_cons, List.take_zero, Nat.zero_add, Nat.reduceAdd, Nat.reduceMul, Int.reduceAdd, Int.reduceToNat, Int.reduceTMod, Nat.zero_mul, Nat.one_mul, Int.toNat_natCast] at h)) | ((first | refine st_op rfl rfl h ?_ | refine st_opn rfl h ?_); clear h a; (first | ((refine does_funVP hm rfl rfl rfl ⟨hpx.up hm, hpy.up hm⟩ (sameNode_ok xs[k] ys[k] hs1 hs2) ?_; clear hm; intro w hm)) | (refine does_storeO 0 hm rfl rfl rfl rfl rfl rfl rfl ?_; clear hm; intro w hm; (try simp only [Value.cells, List.toList_toArray, List.set_cons_zero, List.set_cons_succ, splice, Nat.zero_add, Nat.reduceAdd, Nat.reduceMul, Int.reduceAdd, Int.reduceToNat, Nat.zero_mul, Nat.one_mul, Int.toNat_natCast] at hm)) | refine does_move rfl ?_ | refine does_assign rfl ?_ | refine does_loadOA 0 hm rfl rfl rfl ?_ | refine does_loadOA 1 hm rfl rfl rfl ?_ | refine does_loadBA hm rfl (by assumption) rfl ?_ | refine does_lssT rfl rfl (by omega) ?_ | refine does_notD rfl ?_ | refine does_add rfl rfl (by omega) ?_ | refine does_indexSn (by omega) rfl rfl ?_); intro a h; (try simp only [Value.cells, List.toList_toArray, splice, List.set_cons_zero, List.set_cons_succ, List.drop_zero, List.drop_succ_cons, List.take_succ_cons, List.take_zero, Nat.zero_add, Nat.reduceAdd, Nat.reduceMul, Int.reduceAdd, Int.reduceToNat, Int.reduceTMod, Nat.zero_mul, Nat.one_mul, Int.toNat_natCast] at h)) | ((refine c_condD h rfl ?_ ?_) <;> intro hc <;> (try (fail))))
      · (refine k_ret1 rfl h rfl ⟨?_, hm.below⟩)
        exact boolF (fun e => hc (map_eq_get aN e g1 g2))
      · refine k_thenN ⟨k + 1, ⟨by omega, fun i hi => ?_, hm.dropAll, h.keep ⟨rfl, rfl, rfl, rfl, rfl, rfl, trivial⟩⟩, by omega⟩
        by_cases hik : i < k
        · exact hpre i hik
        · obtain rfl : i = k := by omega
          exact (map_get_iff aN g1 g2).2 (Classical.not_not.1 hc)
    · repeat' (first | refine c_seq ?_ | refine c_region ?_ | refine c_nil ?_ | refine k_then ?_ | refine k_thenE ?_ | refine k_inE ?_ | refine c_ret ?_ | refine c_exit ?_ | refine c_condF h rfl ?_ | ((refine st_op rfl rfl h ?_); clear h a; (first | refine does_assign rfl ?_ | refine does_lssF rfl rfl (by omega) ?_); intro a h; (try simp only [Value.cells, List.toList_toArray, splice, List.set_cons_zero, List.set_cons_succ, List.drop_zero, List.drop_succ_cons, List.take_succ_cons, List.take_zero, Nat.zero_add, Nat.reduceAdd, Nat.reduceMul, Int.reduceAdd, Int.reduceToNat, Int.reduceTMod, Nat.zero_mul, Nat.one_mul, Int.toNat_natCast] at h)))
      (refine k_ret1 rfl h rfl ⟨?_, hm.below⟩)
      exact boolT (map_eq_upto aN hl hlt hpre)
set_option maxHeartbeats 4000000 in
theorem sameProgram_ok (x y : TProg) (hx : smP x) (hy : smP y) : FunP Try.prog 101 [.agg (eP x).toArray, .agg (eP y).toArray] (fun H => ProgH H x.p x.q x.xs x.ys ∧ ProgH H y.p y.q y.xs y.ys) (.bool (dB (aP x = aP y))) := by
  obtain ⟨⟨hx1, hx2⟩, hx3⟩ := hx
  obtain ⟨⟨hy1, hy2⟩, hy3⟩ := hy
  refine enterFunP Try.func101 rfl Try.ntmps101 rfl (fun W0 w a hp hm h => ?_)
  obtain ⟨h1, h2⟩ := hp
  have e1 := h1.nodes
  have e2 := h2.nodes
  have e3 := h1.asg
  have e4 := h2.asg
  repeat' (first | refine c_seq ?_ | refine c_region ?_ | refine c_nil ?_ | refine k_then ?_ | refine c_ret ?_ | ((refine st_op rfl rfl h ?_); clear h a; (first | ((refine does_funP hm en187 rfl (eqFuncNode_ok _ _ x.xs y.xs _ _ hx1 hy1 hx2 hy2) ⟨e1.up hm, e2.up hm⟩ ?_; clear hm; intro w hm)) | (refine does_box hm rfl rfl ?_; clear hm; intro b w hm) | (refine does_funP2 hm en189 rfl (by repeat' (first | with_reducible refine And.intro ?_ ?_ | exact Sl.up (by assumption) hm)) (slEqAsg_ok _ _ _ _ _ _ (by omega) (by omega)) ?_; clear hm; intro w hm) | refine does_move rfl ?_ | refine does_assign rfl ?_ | refine does_pickT rfl rfl ?_ | refine does_pickF rfl rfl ?_ | refine does_fieldAddrL rfl ?_ | refine does_loadO 0 hm rfl rfl rfl ?_ | refine does_loadO 1 hm rfl rfl rfl ?_); intro a h; (try simp only [Value.cells, List.toList_toArray, splice, List.set_cons_zero, List.set_cons_succ, List.drop_zero, List.drop_succ_cons, List.take_succ_cons, List.take_zero, Nat.zero_add, Nat.reduceAdd, Nat.reduceMul, Int.reduceAdd, Int.reduceToNat, Int.reduceTMod, Nat.zero_mul, Nat.one_mul, Int.toNat_natCast] at h)) | ((refine st_skip rfl rfl h ?_); clear h a; intro a h) | (refine st_guardD rfl rfl h ?_ ?_ <;> clear h <;> intro hc h))
  all_goals (refine k_ret1 rfl h rfl ⟨?_, hm.below⟩)
  all_goals first
    | exact boolF (fun e => hc (Prod.mk.inj e).1)
    | exact boolI ⟨fun e => Prod.ext (by assumption) e, fun e => (Prod.mk.inj e).2⟩
set_option maxHeartbeats 4000000 in
theorem eqFuncProgram_ok (p q : Option Addr) (xs ys : List TProg) (c d : Nat) (hxs : xs.length ≤ 1048576) (hys : ys.length ≤ 1048576) (hsx : ∀ x ∈ xs, smP x) (hsy : ∀ x ∈ ys, smP x) :
    FunP Try.prog 100 [.slice p xs.length c, .slice q ys.length d, .func (.func 101) #[] #[]] (fun H => ProgsH H p xs ∧ ProgsH H q ys) (.bool (dB (xs.map aP = ys.map aP))) := by
  refine enterFunP Try.func100 rfl Try.ntmps100 rfl (fun W0 w a hp hm h => ?_)
  obtain ⟨hx, hy⟩ := hp
  repeat' (first | refine c_seq ?_ | refine c_region ?_ | refine c_nil ?_ | refine k_then ?_ | refine k_thenR ?_ | refine c_skip ?_ | refine c_ret ?_ | refine c_block ?_ | ((refine st_op rfl rfl h ?_); clear h a; (first | refine does_move rfl ?_ | refine does_assign rfl ?_ | refine does_neq rfl rfl ?_ | refine does_lenS (SliceT.out) rfl ?_); intro a h; (try simp only [Value.cells, List.toList_toArray, splice, List.set_cons_zero, List.set_cons_succ, List.drop_zero, List.drop_succ_cons, List.take_succ_cons, List.take_zero, Nat.zero_add, Nat.reduceAdd, Nat.reduceMul, Int.reduceAdd, Int.reduceToNat, Int.reduceTMod, Nat.zero_mul, Nat.one_mul, Int.toNat_natCast] at h)) | ((refine c_condD h rfl ?_ ?_) <;> intro hc <;> (try (fail))))
  · (refine k_ret1 rfl h rfl ⟨?_, hm.below⟩)
    exact boolF (fun e => hc (by have := congrArg List.length e; simp only [List.length_map] at this; omega))
  · have hl : xs.length = ys.length := by omega
    refine c_loop (σ := Nat) (fun k a w => k ≤ xs.length ∧ (∀ i, i < k → (xs.map aP)[i]? = (ys.map aP)[i]?) ∧ Mem W0 [] (fun b => W0.heap[b]?) [] w ∧ Holds [(0, .slice p xs.length c), (1, .slice q ys.length d), (2, .func (.func 101) #[] #[]), (15, .slice p xs.length c), (16, .int .i64 xs.length), (17, .int .i64 k)] _ a) (fun k => xs.length - k) 0
      ⟨Nat.zero_le _, fun i hi => absurd hi (Nat.not_lt_zero _), hm, h.keep ⟨rfl, rfl, rfl, rfl, rfl, rfl, trivial⟩⟩ ?_
    clear h hm hc
    rintro k a w ⟨hk, hpre, hm, h⟩
    by_cases hlt : k < xs.length
    · have hlt2 : k < ys.length := by omega
      obtain ⟨q1, rfl, hat1⟩ := hx.row.at hlt
      obtain ⟨q2, rfl, hat2⟩ := hy.row.at hlt2
      have g1 : xs[k]? = some xs[k] := List.getElem?_eq_getElem hlt
      have g2 : ys[k]? = some ys[k] := List.getElem?_eq_getElem hlt2
      have hs1 := hsx _ (List.getElem_mem hlt)
      have hs2 := hsy _ (List.getElem_mem hlt2)
      have hpx := hx.parts _ (List.getElem_mem hlt)
      have hpy := hy.parts _ (List.getElem_mem hlt2)
      repeat' (first | refine c_seq ?_ | refine c_region ?_ | refine c_nil ?_ | refine k_then ?_ | refine k_thenR ?_ | refine k_inN ?_ | refine k_inR ?_ | refine c_skip ?_ | refine c_ret ?_ | refine c_block ?_ | refine c_condT h rfl ?_ | (refine st_op (d := 8) rfl rfl h ?_; refine does_alloc hm ?_; clear h a hm; intro b_8 w hm a h; (try simp only [Value.cells, List.toList_toArray, splice, List.set_cons_zero, List.set_cons_succ, List.drop_zero, List.drop_succ_cons, List.take_succ_cons, List.take_zero, Nat.zero_add, Nat.reduceAdd, Nat.reduceMul, Int.reduceAdd, Int.reduceToNat, Int.reduceTMod, Nat.zero_mul, Nat.one_mul, Int.toNat_natCast] at h)) | (refine st_op (d := 9) rfl rfl h ?_; refine does_alloc hm ?_; clear h a hm; intro b_9 w hm a h; (try simp only [Value.cells, List.toList_toArray, splice, List.set_cons_zero, List.set_cons_succ, List.drop_zero, List.drop_succ_cons, List.take_succ_cons, List.take_zero, Nat.zero_add, Nat.reduceAdd, Nat.reduceMul, Int.reduceAdd, Int.reduceToNat, Int.reduceTMod, Nat.zero_mul, Nat.one_mul, Int.toNat_natCast] at h)) | ((first | refine st_op rfl rfl h ?_ | refine st_opn rfl h ?_); clear h a; (first | ((refine does_funVP hm rfl rfl rfl ⟨hpx.up hm, hpy.up hm⟩ (sameProgram_ok xs[k] ys[k] hs1 hs2) ?_; clear hm; intro w hm)) | (refine does_storeO 0 hm rfl rfl rfl rfl rfl rfl rfl ?_; clear hm; intro w hm; (try simp only [Value.cells, List.toList_toArray, List.set_cons_zero, List.set_cons_succ, splice, Nat.zero_add, Nat.reduceAdd, Nat.reduceMul, Int.reduceAdd, Int.reduceToNat, Nat.zero_mul, Nat.one_mul, Int.toNat_natCast] at hm)) | refine does_move rfl ?_ | refine does_assign rfl ?_ | refine does_loadOA 0 hm rfl rfl rfl ?_ | refine does_loadOA 1 hm rfl rfl rfl ?_ | refine does_loadBA hm rfl (by assumption) rfl ?_ | refine does_lssT rfl rfl (by omega) ?_ | refine does_notD rfl ?_ | refine does_add rfl rfl (by omega) ?_ | refine does_indexSn (by omega) rfl rfl ?_); intro a h; (try simp only [Value.cells, List.toList_toArray, splice, List.set_cons_zero, List.set_cons_succ, List.drop_zero, List.drop_succ_cons, List.take_succ_cons, List.take_zero, Nat.zero_add, Nat.reduceAdd, Nat.reduceMul, Int.reduceAdd, Int.reduceToNat, Int.reduceTMod, Nat.zero_mul, Nat.one_mul, Int.toNat_natCast] at h)) | ((refine c_condD h rfl ?_ ?_) <;> intro hc <;> (try (fail))))
      · (refine k_ret1 rfl h rfl ⟨?_, hm.below⟩)
        exact boolF (fun e => hc (map_eq_get aP e g1 g2))
      · refine k_thenN ⟨k + 1, ⟨by omega, fun i hi => ?_, hm.dropAll, h.keep ⟨rfl, rfl, rfl, rfl, rfl, rfl, trivial⟩⟩, by omega⟩
        by_cases hik : i < k
        · exact hpre i hik
        · obtain rfl : i = k := by omega
          exact (map_get_iff aP g1 g2).2 (Classical.not_not.1 hc)
    · repeat' (first | refine c_seq ?_ | refine c_region ?_ | refine c_nil ?_ | refine k_then ?_ | refine k_thenE ?_ | refine k_inE ?_ | refine c_ret ?_ | refine c_exit ?_ | refine c_condF h rfl ?_ | ((refine st_op rfl rfl h ?_); clear h a; (first | refine does_assign rfl ?_ | refine does_lssF rfl rfl (by omega) ?_); intro a h; (try simp only [Value.cells, List.toList_toArray, splice, List.set_cons_zero, List.set_cons_succ, List.drop_zero, List.drop_succ_cons, List.take_succ_cons, List.take_zero, Nat.zero_add, Nat.reduceAdd, Nat.reduceMul, Int.reduceAdd, Int.reduceToNat, Int.reduceTMod, Nat.zero_mul, Nat.one_mul, Int.toNat_natCast] at h)))
      (refine k_ret1 rfl h rfl ⟨?_, hm.below⟩)
      exact boolT (map_eq_upto aP hl hlt hpre)
set_option maxHeartbeats 4000000 in
theorem sameTexture_ok (g g' : Int) (p q : Option Addr) (xs ys : List Int) (c d : Nat) (hxs : xs.length ≤ 1048576) (hys : ys.length ≤ 1048576) : FunP Try.prog 99 [.agg #[I g, .slice p xs.length c], .agg #[I g', .slice q ys.length d]] (fun H => Sl H p eI 1 xs ∧ Sl H q eI 1 ys) (.bool (dB (g = g' ∧ xs = ys))) := by
  refine enterFunP Try.func99 rfl Try.ntmps99 rfl (fun W0 w a hp hm h => ?_)
  obtain ⟨hx, hy⟩ := hp
  repeat' (first | refine c_seq ?_ | refine c_region ?_ | refine c_nil ?_ | refine k_then ?_ | refine c_ret ?_ | ((refine st_op rfl rfl h ?_); clear h a; (first | (refine does_box hm rfl rfl ?_; clear hm; intro b w hm) | (refine does_funP2 hm en186 rfl (by repeat' (first | with_reducible refine And.intro ?_ ?_ | exact Sl.up (by assumption) hm)) (slEqInt_ok _ _ _ _ _ _ (by omega) (by omega)) ?_; clear hm; intro w hm) | refine does_move rfl ?_ | refine does_assign rfl ?_ | refine does_pickT rfl rfl ?_ | refine does_pickF rfl rfl ?_ | refine does_fieldAddrL rfl ?_ | refine does_loadO 0 hm rfl rfl rfl ?_ | refine does_loadO 1 hm rfl rfl rfl ?_ | refine does_eql rfl rfl ?_); intro a h; (try simp only [Value.cells, List.toList_toArray, splice, List.set_cons_zero, List.set_cons_succ, List.drop_zero, List.drop_succ_cons, List.take_succ_cons, List.take_zero, Nat.zero_add, Nat.reduceAdd, Nat.reduceMul, Int.reduceAdd, Int.reduceToNat, Int.reduceTMod, Nat.zero_mul, Nat.one_mul, Int.toNat_natCast] at h)) | ((refine st_skip rfl rfl h ?_); clear h a; intro a h) | (refine st_guardD rfl rfl h ?_ ?_ <;> clear h <;> intro hc h))
  all_goals (refine k_ret1 rfl h rfl ⟨?_, hm.below⟩)
  all_goals first
    | exact boolF (fun e => hc e.1)
    | exact boolI ⟨fun e => ⟨by assumption, e⟩, fun e => e.2⟩
end Go.Proofs.Ytgphmhjnnppbnaa.St
