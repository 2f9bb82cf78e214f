/-
  Contracts for slices of integers.
-/
import Derived.Test.YtcdjneiaoikpnaaScal
import Derived.Test.YtcdjneiaoikpnaaStSlc
set_option linter.unusedSimpArgs false
set_option linter.unusedVariables false
namespace Go.Proofs.Ytcdjneiaoikpnaa.St
open Go.RowKit

theorem eq_of_upto {α : Type} {xs ys : List α} (hl : xs.length = ys.length) {k : Nat} (hk : ¬ k < xs.length) (h : ∀ i, i < k → xs[i]? = ys[i]?) : xs = ys := by
  apply List.ext_getElem?
  intro i
  by_cases hi : i < k
  · exact h i hi
  · rw [List.getElem?_eq_none (by omega), List.getElem?_eq_none (by omega)]

set_option maxHeartbeats 2000000 in
theorem eqIntS_ok (p q : Option Addr) (xs ys : List Int) (c d : Nat) (hxs : xs.length ≤ maxLen) : FunP Try.prog 36 [.slice p xs.length c, .slice q ys.length d] (fun H => Ints H p xs ∧ Ints H q ys) (.bool (dB (xs = ys))) := by
  refine enterFunP Try.func36 rfl Try.ntmps36 rfl (fun W0 w a hp hm h => ?_)
  obtain ⟨hx, hy⟩ := hp
  unfold maxLen at hxs
  repeat' (first | refine c_seq ?_ | refine c_region ?_ | refine c_nil ?_ | refine k_then ?_ | refine k_thenR ?_ | refine c_skip ?_ | refine c_ret ?_ | refine c_block ?_ | ((refine st_op rfl rfl h ?_); clear h a; (first | (show Does _ (.move _) _ _ _ _; refine does_move rfl ?_) | (show Does _ (.assign _) _ _ _ _; refine does_assign rfl ?_) | (show Does _ (.binOp _ _ _ _ _) _ _ _ _; (refine does_neq rfl rfl ?_)) | (show Does _ (.call _) _ _ _ _; refine does_lenS (SliceT.out) rfl ?_)); intro a h; (try simp only [Value.cells, List.toList_toArray, splice, List.set_cons_zero, List.set_cons_succ, List.drop_zero, List.drop_succ_cons, List.take_succ_cons, List.take_zero, Nat.zero_add, Nat.reduceAdd, Nat.reduceMul, Int.reduceAdd, Int.reduceToNat, Int.reduceTMod, Nat.zero_mul, Nat.one_mul, Int.toNat_natCast] at h)) | ((refine c_condD h rfl ?_ ?_) <;> intro hc <;> (try (fail))))
  · (refine k_ret1 rfl h rfl ⟨?_, hm.below⟩)
    exact boolF (fun e => hc (by rw [e]))
  · have hl : xs.length = ys.length := by omega
    refine c_loop (σ := Nat) (fun k a w => k ≤ xs.length ∧ (∀ i, i < k → xs[i]? = ys[i]?) ∧ Mem W0 [] (fun b => W0.heap[b]?) [] w ∧ Holds [(0, .slice p xs.length c), (1, .slice q ys.length d), (5, .int .i64 k)] 26 a) (fun k => xs.length - k) 0
      ⟨Nat.zero_le _, fun i hi => absurd hi (Nat.not_lt_zero _), hm, h.keep ⟨rfl, rfl, rfl, trivial⟩⟩ ?_
    clear h hm hc
    rintro k a w ⟨hk, hpre, hm, h⟩
    by_cases hlt : k < xs.length
    · obtain ⟨q1, rfl, hat1⟩ := hx.at hlt
      obtain ⟨q2, rfl, hat2⟩ := hy.at (k := k) (by omega)
      repeat' (first | refine c_seq ?_ | refine c_region ?_ | refine c_nil ?_ | refine k_then ?_ | refine k_thenR ?_ | refine k_inN ?_ | refine k_inR ?_ | refine c_skip ?_ | refine c_ret ?_ | refine c_block ?_ | refine c_condT h rfl ?_ | ((refine st_op rfl rfl h ?_); clear h a; (first | (show Does _ (.move _) _ _ _ _; refine does_move rfl ?_) | (show Does _ (.assign _) _ _ _ _; refine does_assign rfl ?_) | (show Does _ (.binOp _ _ _ _ _) _ _ _ _; (first | refine does_lssT rfl rfl (by omega) ?_ | refine does_add rfl rfl (by omega) ?_)) | (show Does _ (.call _) _ _ _ _; refine does_lenS (SliceT.out) rfl ?_)); intro a h; (try simp only [Value.cells, List.toList_toArray, splice, List.set_cons_zero, List.set_cons_succ, List.drop_zero, List.drop_succ_cons, List.take_succ_cons, List.take_zero, Nat.zero_add, Nat.reduceAdd, Nat.reduceMul, Int.reduceAdd, Int.reduceToNat, Int.reduceTMod, Nat.zero_mul, Nat.one_mul, Int.toNat_natCast] at h)) | (apply c_drawM (id := 6) 9 [.val _, .val _, .val _, .val _, .val _, .val _, .val _, .val _, .val _] mixed (by kernel_rfl) (h := h) (hm := hm); (case vcs => (repeat' (first | exact vcs_nil | refine vcs_cons ?_ ?_ | (intro w hm; (repeat (first | refine dep_val ?_ | refine dep_nil ?_)); first | exact vc_skip rfl | exact vc_alloc rfl | exact vc_box rfl rfl rfl | exact vc_buildSlice rfl rfl rfl rfl | exact vc_makeSlice (by omega) (by omega) rfl rfl rfl | exact vc_store rfl rfl rfl rfl rfl rfl rfl rfl rfl rfl | (apply vc_run rfl; (first | (show Does _ (.move _) _ _ _ _; refine does_move rfl ?_) | (show Does _ (.load _ _) _ _ _ _; (refine does_loadB hm rfl (by assumption) rfl ?_)) | (show Does _ (.binOp _ _ _ _ _) _ _ _ _; (refine does_neq rfl rfl ?_)) | (show Does _ (.indexAddr _ _ _) _ _ _ _; (refine does_indexS1 (by omega) rfl rfl ?_))); (exact ⟨ext_refl _, rfl⟩)))))); (case hup => kernel_rfl); (case hown => kernel_rfl); (case hnp => kernel_rfl); clear h hm a; intro  w hm; (try simp only [List.map_nil, List.nil_append] at hm); (repeat (first | refine dep_val ?_ | refine dep_nil ?_)); intro a h; (try simp only [Value.cells, List.toList_toArray, splice, List.set_cons_zero, List.set_cons_succ, List.drop_zero, List.drop_succ_cons, List.take_succ_cons, List.take_zero, Nat.zero_add, Nat.reduceAdd, Nat.reduceMul, Int.reduceAdd, Int.reduceToNat, Int.reduceTMod, Nat.zero_mul, Nat.one_mul, Int.toNat_natCast] at h)) | ((refine c_condD h rfl ?_ ?_) <;> intro hc <;> (try (fail))))
      · (refine k_ret1 rfl h rfl ⟨?_, hm.below⟩)
        exact boolF (fun e => hc (by subst e; rfl))
      · refine k_thenN ⟨k + 1, ⟨by omega, fun i hi => ?_, hm, h.keep ⟨rfl, rfl, rfl, trivial⟩⟩, by omega⟩
        by_cases hik : i < k
        · exact hpre i hik
        · obtain rfl : i = k := by omega
          rw [List.getElem?_eq_getElem hlt, List.getElem?_eq_getElem (by omega : i < ys.length)]
          simpa using hc
    · repeat' (first | refine c_seq ?_ | refine c_region ?_ | refine c_nil ?_ | refine k_then ?_ | refine k_thenE ?_ | refine k_inE ?_ | refine c_ret ?_ | refine c_exit ?_ | refine c_condF h rfl ?_ | ((refine st_op rfl rfl h ?_); clear h a; (first | (show Does _ (.move _) _ _ _ _; refine does_move rfl ?_) | (show Does _ (.assign _) _ _ _ _; refine does_assign rfl ?_) | (show Does _ (.binOp _ _ _ _ _) _ _ _ _; (refine does_lssF rfl rfl (by omega) ?_)) | (show Does _ (.call _) _ _ _ _; refine does_lenS (SliceT.out) rfl ?_)); intro a h; (try simp only [Value.cells, List.toList_toArray, splice, List.set_cons_zero, List.set_cons_succ, List.drop_zero, List.drop_succ_cons, List.take_succ_cons, List.take_zero, Nat.zero_add, Nat.reduceAdd, Nat.reduceMul, Int.reduceAdd, Int.reduceToNat, Int.reduceTMod, Nat.zero_mul, Nat.one_mul, Int.toNat_natCast] at h)))
      (refine k_ret1 rfl h rfl ⟨?_, hm.below⟩)
      exact boolT (eq_of_upto hl hlt hpre)

/-- a new slice of integers -/
def IntsNew (xs : List Int) (v : Value) (N : Heap) : Prop := ∃ p c, v = .slice p xs.length c ∧ xs.length ≤ c ∧ Ints N p xs

theorem ints_of_flat {N : Heap} {b : Nat} {xs : List Int} {cs : List Value} (hcs : cs = xs.map I) (h : 0 < xs.length → At N ⟨b, 0, none⟩ cs) : Ints N (some ⟨b, 0, none⟩) xs := fun i n hi => by
  have hlt := (List.getElem?_eq_some_iff.1 hi).1
  refine ⟨_, rfl, ?_⟩
  have hat := (h (by omega)).add i
  obtain ⟨h1, arr, T, fz, h2, h3⟩ := hat
  refine ⟨h1, arr, T, fz, h2, fun j v hv => h3 j v ?_⟩
  cases j with
  | zero =>
    simp only [List.getElem?_cons_zero, Option.some.injEq] at hv
    subst hv hcs
    simp [List.getElem?_drop, hi]
  | succ j => simp at hv

theorem flat_ints : ∀ xs : List Int, (xs.map fun n => [I n]).flatten = xs.map I
  | [] => rfl
  | x :: xs => by simp [flat_ints xs]


set_option maxHeartbeats 2000000 in
theorem toIntS_ok (p : Option Addr) (xs : List Int) (c : Nat) (hxs : xs.length ≤ 35184372088832) : FunR Try.prog 34 [.slice p xs.length c] (fun H => Ints H p xs) (IntsNew xs) := by
  refine enterFunR Try.func34 rfl Try.ntmps34 rfl (fun W0 w a hx hm h => ?_)
  repeat' (first | refine c_seq ?_ | refine c_region ?_ | refine c_nil ?_ | refine k_then ?_ | refine c_block ?_ | ((refine st_op rfl rfl h ?_); clear h a; (first | (show Does _ (.makeSlice _ _ _) _ _ _ _; ((refine does_make hm rfl rfl (by omega) (by omega) ?_; clear hm; intro b w hm))) | (show Does _ (.move _) _ _ _ _; refine does_move rfl ?_) | (show Does _ (.assign _) _ _ _ _; refine does_assign rfl ?_) | (show Does _ (.call _) _ _ _ _; refine does_lenS (SliceT.out) rfl ?_)); intro a h; (try simp only [Value.cells, List.toList_toArray, splice, List.set_cons_zero, List.set_cons_succ, List.drop_zero, List.drop_succ_cons, List.take_succ_cons, List.take_zero, Nat.zero_add, Nat.reduceAdd, Nat.reduceMul, Int.reduceAdd, Int.reduceToNat, Int.reduceTMod, Nat.zero_mul, Nat.one_mul, Int.toNat_natCast] at h)))
  rw [fillTo_nil] at hm
  refine c_loop (σ := Nat) (fun k a w => k ≤ xs.length ∧ Mem W0 [] (fun b => W0.heap[b]?) [.blk b (.cells (fillTo xs.length [I 0] ((xs.take k).map fun n => [I n])).toArray 3)] w ∧ Holds [(0, .slice p xs.length c), (3, .slice (some ⟨b, 0, none⟩) xs.length xs.length), (4, .int .i64 k)] 22 a) (fun k => xs.length - k) 0
    ⟨Nat.zero_le _, by simpa using hm, h.keep ⟨rfl, rfl, rfl, trivial⟩⟩ ?_
  clear h hm
  rintro k a w ⟨hk, hm, h⟩
  by_cases hlt : k < xs.length
  · obtain ⟨q1, rfl, hat1⟩ := hx.at hlt
    have hcl := take_map_len (fun n => [I n]) hk
    have hal := oneLen (fun n => [I n]) 1 (fun _ => rfl) (xs.take k)
    repeat' (first | refine c_seq ?_ | refine c_region ?_ | refine c_nil ?_ | refine k_then ?_ | refine k_inN ?_ | refine c_skip ?_ | refine c_block ?_ | refine c_condT h rfl ?_ | ((first | refine st_op rfl rfl h ?_ | refine st_opn rfl h ?_); clear h a; (first | (show Does _ (.store _ _ _) _ _ _ _; ((refine does_storeF 0 hm rfl rfl rfl (by assumption) (by assumption) rfl rfl rfl rfl (by omega) (by omega) ?_; clear hm; intro w hm; (try simp only [Value.cells, List.toList_toArray, List.set_cons_zero, List.set_cons_succ, splice, Nat.zero_add, Nat.reduceAdd, Nat.reduceMul, Int.reduceAdd, Int.reduceToNat, Nat.zero_mul, Nat.one_mul, Int.toNat_natCast] at hm)))) | (show Does _ (.move _) _ _ _ _; refine does_move rfl ?_) | (show Does _ (.assign _) _ _ _ _; refine does_assign rfl ?_) | (show Does _ (.load _ _) _ _ _ _; (refine does_loadB hm rfl (by assumption) rfl ?_)) | (show Does _ (.binOp _ _ _ _ _) _ _ _ _; (first | refine does_lssT rfl rfl (by omega) ?_ | refine does_add rfl rfl (by omega) ?_)) | (show Does _ (.call _) _ _ _ _; refine does_lenS (SliceT.out) rfl ?_) | (show Does _ (.indexAddr _ _ _) _ _ _ _; (first | refine does_indexSL1 (by omega) rfl rfl ?_ | refine does_indexS1 (by omega) rfl rfl ?_))); intro a h; (try simp only [Value.cells, List.toList_toArray, splice, List.set_cons_zero, List.set_cons_succ, List.drop_zero, List.drop_succ_cons, List.take_succ_cons, List.take_zero, Nat.zero_add, Nat.reduceAdd, Nat.reduceMul, Int.reduceAdd, Int.reduceToNat, Int.reduceTMod, Nat.zero_mul, Nat.one_mul, Int.toNat_natCast] at h)))
    rw [take_map_snoc (fun n => [I n]) hlt] at hm
    exact k_thenN ⟨k + 1, ⟨by omega, hm, h.keep ⟨rfl, rfl, rfl, trivial⟩⟩, by omega⟩
  · obtain rfl : k = xs.length := by omega
    rw [fillTo_full (by simp), List.take_length] at hm
    repeat' (first | refine c_seq ?_ | refine c_region ?_ | refine c_nil ?_ | refine k_then ?_ | refine k_thenE ?_ | refine k_inE ?_ | refine c_ret ?_ | refine c_exit ?_ | refine c_condF h rfl ?_ | ((refine st_op rfl rfl h ?_); clear h a; (first | (show Does _ (.move _) _ _ _ _; refine does_move rfl ?_) | (show Does _ (.assign _) _ _ _ _; refine does_assign rfl ?_) | (show Does _ (.binOp _ _ _ _ _) _ _ _ _; (refine does_lssF rfl rfl (by omega) ?_)) | (show Does _ (.call _) _ _ _ _; refine does_lenS (SliceT.out) rfl ?_)); intro a h; (try simp only [Value.cells, List.toList_toArray, splice, List.set_cons_zero, List.set_cons_succ, List.drop_zero, List.drop_succ_cons, List.take_succ_cons, List.take_zero, Nat.zero_add, Nat.reduceAdd, Nat.reduceMul, Int.reduceAdd, Int.reduceToNat, Int.reduceTMod, Nat.zero_mul, Nat.one_mul, Int.toNat_natCast] at h)))
    refine k_ret1 rfl h rfl ⟨hm.below, _, _, rfl, Nat.le_refl _, ints_of_flat (cs := (xs.map fun n => [I n]).flatten) ?_ fun _ => at_new (i := 0) hm rfl fun j v hv => by simpa using hv⟩
    exact flat_ints xs

theorem idx_in {n i j : Int} (hn : 1 ≤ n) (hi : 0 ≤ i ∧ i ≤ n - 1) (hj : 0 ≤ j ∧ j ≤ n - 1) : 0 ≤ j * n + i ∧ j * n + i < n * n := by
  have h1 : j * n ≤ (n - 1) * n := Int.mul_le_mul_of_nonneg_right hj.2 (by omega)
  have h2 : 0 ≤ j * n := Int.mul_nonneg hj.1 (by omega)
  have h3 : (n - 1) * n = n * n - n := by rw [Int.sub_mul, Int.one_mul]
  omega

end Go.Proofs.Ytcdjneiaoikpnaa.St
