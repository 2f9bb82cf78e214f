/-
  Rows of numbers as texts: the reference's; textures as texts.
-/
import Derived.Test.YtgmonjghbjaadaaGreatDoorJ8
import Derived.Test.YtgmonjghbjaadaaGreatDoorJ3

section
set_option linter.unusedSimpArgs false
set_option linter.unusedVariables false
namespace Go.Proofs.YtgmonjghbjaadaaGreatDoor.St
open Go.RowKit
theorem jUpTo_all (l : List Int) : jUpTo l l.length = Lib.join (l.map Lib.itoa) [44] := by rw [jUpTo, List.take_length]
theorem jUpTo_bd {l : List Int} (hok : okTx l) (k : Nat) (hk : k ≤ l.length) : (jUpTo l k).length ≤ 12 * k := by
  have := join_bd (l := l.take k) fun n hn => hok n (List.mem_of_mem_take hn)
  rw [List.length_take, Nat.min_eq_left hk] at this
  exact this
set_option maxHeartbeats 8000000 in
theorem sJoin_ok (l : List Int) (p : Option Addr) (c : Nat) (hl : l.length ≤ 1048576) (hok : okTx l) : FunP Tryz.prog 19 [.slice p l.length c, .string ⟨#[44]⟩] (fun H => Sl H p eT 1 (l.map iTx)) (.string (bs (Lib.join (l.map Lib.itoa) [44]))) := by
  refine enterFunP Tryz.func19 rfl Tryz.ntmps19 rfl (fun W0 w a hp hm h => ?_)
  repeat' (first | refine c_seq ?_ | refine c_region ?_ | refine c_nil ?_ | refine k_then ?_ | refine c_block ?_ | ((refine st_op rfl rfl h ?_); clear h a; (first | (show Does _ (.move _) _ _ _ _; refine does_move rfl ?_) | (show Does _ (.assign _) _ _ _ _; refine does_assign rfl ?_) | (show Does _ (.call _) _ _ _ _; refine does_lenS (SliceT.out) rfl ?_)); intro a h; (try simp only [Value.cells, List.toList_toArray, splice, List.set_cons_zero, List.set_cons_succ, List.drop_zero, List.drop_succ_cons, List.take_succ_cons, List.take_zero, Nat.zero_add, Nat.reduceAdd, Nat.reduceMul, Int.reduceAdd, Int.reduceToNat, Int.reduceTMod, Nat.zero_mul, Nat.one_mul, Int.toNat_natCast] at h)))
  refine c_loop (σ := Nat) (fun k a w => k ≤ l.length ∧ Mem W0 [] (fun b => W0.heap[b]?) [] w ∧ Holds [(1, .string ⟨#[44]⟩), (5, .string (bs (jUpTo l k))), (8, .slice p l.length c), (9, .int .i64 l.length), (10, .int .i64 k)] _ a) (fun k => l.length - k) 0
    ⟨Nat.zero_le _, hm, h.keep ⟨rfl, rfl, rfl, rfl, rfl, trivial⟩⟩ ?_
  clear h hm
  rintro k a w ⟨hk, hm, h⟩
  have hjb := jUpTo_bd hok k hk
  by_cases hlt : k < l.length
  · have hlt' : k < (l.map iTx).length := by rw [List.length_map]; exact hlt
    obtain ⟨q1, rfl, hat1⟩ := hp.at hlt'
    rw [Nat.mul_one, List.getElem_map] at hat1
    have hn := hok l[k] (List.getElem_mem hlt)
    have hsz := iTx_size hn
    have hz1 : (iTx l[k]).size = _ := bs_size (Lib.itoa l[k])
    have hz2 : (bs (jUpTo l k)).size = _ := bs_size (jUpTo l k)
    have hz3 : (⟨#[44]⟩ : ByteArray).size = 1 := rfl
    have hz4 := ByteArray.size_append (a := bs (jUpTo l k)) (b := ⟨#[44]⟩)
    have hstep : jUpTo l (k + 1) = (if 0 < k then jUpTo l k ++ [44] else jUpTo l k) ++ Lib.itoa l[k] := by
      cases k with
      | zero => rw [if_neg (by omega), jUpTo_one (by omega)]; rfl
      | succ k => rw [if_pos (by omega), jUpTo_succ hlt]
    repeat' (first | refine c_seq ?_ | refine c_region ?_ | refine c_nil ?_ | refine k_then ?_ | refine k_inN ?_ | refine c_skip ?_ | refine c_block ?_ | refine c_condT h rfl ?_ | ((refine st_op rfl rfl h ?_); clear h a; (first | (show Does _ (.binOp _ _ _ _ _) _ _ _ _; (first | ((refine does_addStr rfl rfl (by omega) ?_)) | refine does_lssT rfl rfl (by omega) ?_ | refine does_gtr rfl rfl ?_ | refine does_add rfl rfl (by omega) ?_)) | (show Does _ (.move _) _ _ _ _; refine does_move rfl ?_) | (show Does _ (.assign _) _ _ _ _; refine does_assign rfl ?_) | (show Does _ (.load _ _) _ _ _ _; (refine does_loadB hm rfl (by assumption) rfl ?_)) | (show Does _ (.indexAddr _ _ _) _ _ _ _; (refine does_indexS1 (by omega) rfl rfl ?_))); intro a h; (try simp only [Value.cells, List.toList_toArray, splice, List.set_cons_zero, List.set_cons_succ, List.drop_zero, List.drop_succ_cons, List.take_succ_cons, List.take_zero, Nat.zero_add, Nat.reduceAdd, Nat.reduceMul, Int.reduceAdd, Int.reduceToNat, Int.reduceTMod, Nat.zero_mul, Nat.one_mul, Int.toNat_natCast] at h)) | ((refine c_condD h rfl ?_ ?_) <;> intro hc <;> (try (fail))))
    · rw [if_pos (by omega)] at hstep
      have e : bs (jUpTo l k) ++ ⟨#[44]⟩ ++ iTx l[k] = bs (jUpTo l (k + 1)) := by
        rw [hstep, ← bs_append, ← bs_append]
      rw [e] at h
      exact k_thenN ⟨k + 1, ⟨hlt, hm, h.keep ⟨rfl, rfl, rfl, rfl, rfl, trivial⟩⟩, by omega⟩
    · rw [if_neg (by omega)] at hstep
      have e : bs (jUpTo l k) ++ iTx l[k] = bs (jUpTo l (k + 1)) := by rw [hstep, ← bs_append]
      rw [e] at h
      exact k_thenN ⟨k + 1, ⟨hlt, hm, h.keep ⟨rfl, rfl, rfl, rfl, rfl, trivial⟩⟩, by omega⟩
  · obtain rfl : k = l.length := by omega
    repeat' (first | refine c_seq ?_ | refine c_region ?_ | refine c_nil ?_ | refine k_then ?_ | refine k_thenE ?_ | refine k_inE ?_ | refine c_ret ?_ | refine c_exit ?_ | refine c_condF h rfl ?_ | ((refine st_op rfl rfl h ?_); clear h a; (first | (show Does _ (.move _) _ _ _ _; refine does_move rfl ?_) | (show Does _ (.assign _) _ _ _ _; refine does_assign rfl ?_) | (show Does _ (.binOp _ _ _ _ _) _ _ _ _; (refine does_lssF rfl rfl (by omega) ?_))); intro a h; (try simp only [Value.cells, List.toList_toArray, splice, List.set_cons_zero, List.set_cons_succ, List.drop_zero, List.drop_succ_cons, List.take_succ_cons, List.take_zero, Nat.zero_add, Nat.reduceAdd, Nat.reduceMul, Int.reduceAdd, Int.reduceToNat, Int.reduceTMod, Nat.zero_mul, Nat.one_mul, Int.toNat_natCast] at h)))
    (refine k_ret1 rfl h rfl ⟨?_, hm.below⟩)
    rw [jUpTo_all]
set_option maxHeartbeats 8000000 in
theorem sFormatInts_ok (l : List Int) (p : Option Addr) (c : Nat) (hl : l.length ≤ 1048576) (hok : okTx l) : FunP Tryz.prog 43 [.slice p l.length c] (fun H => Sl H p eI 1 l) (.string (bs (lTx l))) := by
  refine enterFunP Tryz.func43 rfl Tryz.ntmps43 rfl (fun W0 w a hp hm h => ?_)
  repeat' (first | refine c_seq ?_ | refine c_region ?_ | refine c_nil ?_ | refine k_then ?_ | refine c_block ?_ | ((refine st_op rfl rfl h ?_); clear h a; (first | (show Does _ (.buildSlice _ _ _) _ _ _ _; (((refine does_buildSlice hm rfl rfl rfl ?_; clear hm; intro bz w hm; replace hm := hm.toRow 0 (n := 0) (cap := 0) 1 rfl rfl (Nat.zero_le _); simp only [List.set_cons_zero, rep, List.replicate_zero, List.flatten_nil] at hm)))) | (show Does _ (.move _) _ _ _ _; refine does_move rfl ?_) | (show Does _ (.assign _) _ _ _ _; refine does_assign rfl ?_) | (show Does _ (.call _) _ _ _ _; refine does_lenS (SliceT.out) rfl ?_)); intro a h; (try simp only [Value.cells, List.toList_toArray, splice, List.set_cons_zero, List.set_cons_succ, List.drop_zero, List.drop_succ_cons, List.take_succ_cons, List.take_zero, Nat.zero_add, Nat.reduceAdd, Nat.reduceMul, Int.reduceAdd, Int.reduceToNat, Int.reduceTMod, Nat.zero_mul, Nat.one_mul, Int.toNat_natCast] at h)))
  refine c_loop (σ := Nat × Value) (fun s a w => s.1 ≤ l.length ∧ Mem W0 [] (fun b => W0.heap[b]?) [.row s.2 9 1 (((l.take s.1).map iTx).map eT).flatten] w ∧ Holds [(3, s.2), (7, .slice p l.length c), (8, .int .i64 l.length), (9, .int .i64 s.1)] _ a) (fun s => l.length - s.1) (0, .slice (some ⟨bz, 0, none⟩) 0 0)
    ⟨Nat.zero_le _, hm, h.keep ⟨rfl, rfl, rfl, rfl, trivial⟩⟩ ?_
  clear h hm
  rintro ⟨k, v⟩ a w ⟨hk, hm, h⟩
  simp only at hk hm h
  have hfl := flat_len (enc := eT) (sz := 1) (fun _ => rfl) ((l.take k).map iTx)
  have hkl : ((l.take k).map iTx).length = k := by rw [List.length_map, List.length_take]; omega
  rw [hkl] at hfl
  obtain ⟨pv, cv, rfl, hcv1, hcv2⟩ := row_slice (i := 0) hm rfl (fun _ => rfl) (by omega)
  rw [hkl] at hm h hcv1
  by_cases hlt : k < l.length
  · obtain ⟨q1, rfl, hat1⟩ := hp.at hlt
    rw [Nat.mul_one] at hat1
    have hn := hok l[k] (List.getElem_mem hlt)
    have hne := iTx_ne hn
    repeat' (first | refine c_seq ?_ | refine c_region ?_ | refine c_nil ?_ | refine k_then ?_ | refine k_thenR ?_ | refine k_inN ?_ | refine k_inR ?_ | refine c_skip ?_ | refine c_ret ?_ | refine c_block ?_ | refine c_condT h rfl ?_ | ((refine st_op rfl rfl h ?_); clear h a; (first | (show Does _ (.call _) _ _ _ _; (first | ((refine does_funM hm en15 rfl (sFormatInt_ok l[k] hn) ?_; clear hm; intro w hm)) | ((refine does_appX 1 (n := k) (news := eT (iTx l[k])) hm rfl rfl rfl (by omega) hfl rfl (.inr ⟨_, rfl, at_own (i := 0) hm rfl (fun j v hv => (by rw [Nat.zero_add]; exact hv))⟩) (oneCells_mem rfl) (by omega) (by simp only [maxLen]; omega) ?_; clear hm; intro p8 c8 w hc8 hc9 hm; simp only [List.set_cons_zero, List.set_cons_succ] at hm)))) | (show Does _ (.buildSlice _ _ _) _ _ _ _; (refine does_buildSlice hm rfl rfl rfl ?_; clear hm; intro b w hm; (try simp only [rep, List.replicate_succ, List.replicate_zero, List.flatten_cons, List.flatten_nil, List.cons_append, List.nil_append, Nat.zero_mul, Nat.one_mul, Nat.reduceMul, Value.cells, List.toList_toArray, List.set_cons_zero, List.set_cons_succ, splice, Nat.zero_add, Nat.reduceAdd, Nat.reduceMul, Int.reduceAdd, Int.reduceToNat, Nat.zero_mul, Nat.one_mul, Int.toNat_natCast] at hm))) | (show Does _ (.move _) _ _ _ _; refine does_move rfl ?_) | (show Does _ (.assign _) _ _ _ _; refine does_assign rfl ?_) | (show Does _ (.load _ _) _ _ _ _; (refine does_loadB hm rfl (by assumption) rfl ?_)) | (show Does _ (.binOp _ _ _ _ _) _ _ _ _; (first | refine does_lssT rfl rfl (by omega) ?_ | refine does_eqlStr rfl rfl ?_ | refine does_add rfl rfl (by omega) ?_)) | (show Does _ (.indexAddr _ _ _) _ _ _ _; (refine does_indexS1 (by omega) rfl rfl ?_))); intro a h; (try simp only [Value.cells, List.toList_toArray, splice, List.set_cons_zero, List.set_cons_succ, List.drop_zero, List.drop_succ_cons, List.take_succ_cons, List.take_zero, Nat.zero_add, Nat.reduceAdd, Nat.reduceMul, Int.reduceAdd, Int.reduceToNat, Int.reduceTMod, Nat.zero_mul, Nat.one_mul, Int.toNat_natCast] at h)) | ((refine c_condD h rfl ?_ ?_) <;> intro hc <;> (try (fail))))
    all_goals first | exact absurd hc hne | skip
    rw [take_texts hlt] at hm
    exact k_thenN ⟨(k + 1, .slice p8 (k + 1) c8), ⟨by show k + 1 ≤ l.length; omega, hm.drop, h.keep ⟨rfl, rfl, rfl, rfl, trivial⟩⟩, by show l.length - (k + 1) < l.length - k; omega⟩
  · obtain rfl : k = l.length := by omega
    rw [List.take_length] at hm
    repeat' (first | refine c_seq ?_ | refine c_region ?_ | refine c_nil ?_ | refine k_then ?_ | refine k_thenR ?_ | refine k_thenE ?_ | refine k_inE ?_ | refine c_skip ?_ | refine c_ret ?_ | refine c_exit ?_ | refine c_condF h rfl ?_ | ((refine st_op rfl rfl h ?_); clear h a; (first | (show Does _ (.call _) _ _ _ _; (first | ((refine does_funP hm en19 rfl (sJoin_ok l _ _ hl hok) (row_sl 0 hm (by rw [List.map_map]; rfl) (fun _ => rfl) (by omega)) ?_; clear hm; intro w hm)) | refine does_lenS (SliceT.out) rfl ?_)) | (show Does _ (.move _) _ _ _ _; refine does_move rfl ?_) | (show Does _ (.assign _) _ _ _ _; refine does_assign rfl ?_) | (show Does _ (.binOp _ _ _ _ _) _ _ _ _; (first | refine does_lssF rfl rfl (by omega) ?_ | refine does_eql rfl rfl ?_))); intro a h; (try simp only [Value.cells, List.toList_toArray, splice, List.set_cons_zero, List.set_cons_succ, List.drop_zero, List.drop_succ_cons, List.take_succ_cons, List.take_zero, Nat.zero_add, Nat.reduceAdd, Nat.reduceMul, Int.reduceAdd, Int.reduceToNat, Int.reduceTMod, Nat.zero_mul, Nat.one_mul, Int.toNat_natCast] at h)) | ((refine c_condD h rfl ?_ ?_) <;> intro hc <;> (try (fail))))
    all_goals (refine k_ret1 rfl h rfl ⟨?_, hm.below⟩)
    · rw [lTx, if_pos (List.eq_nil_of_length_eq_zero (by omega))]
    · rw [lTx, if_neg (fun e => by rw [e] at hc; simp at hc)]
end Go.Proofs.YtgmonjghbjaadaaGreatDoor.St
end

section
/-
  Texts joined, in general: the reference's.
-/
set_option linter.unusedSimpArgs false
set_option linter.unusedVariables false
namespace Go.Proofs.YtgmonjghbjaadaaGreatDoor.St
open Go.RowKit
abbrev tB (s : ByteArray) : List UInt8 := s.data.toList
def jU (xs : List ByteArray) (sep : ByteArray) (k : Nat) : List UInt8 := Lib.join ((xs.take k).map tB) (tB sep)
theorem join_snoc : ∀ (xs : List (List UInt8)) (y sep : List UInt8), xs ≠ [] → Lib.join (xs ++ [y]) sep = Lib.join xs sep ++ sep ++ y
  | [], y, sep, h => absurd rfl h
  | x :: xs, y, sep, _ => by
    rw [List.cons_append, Lib.join_cons, Lib.join_cons]
    simp [Lib.joinTail, List.map_append, List.append_assoc]
theorem jU_succ {xs : List ByteArray} {sep : ByteArray} {k : Nat} (h : k < xs.length) : jU xs sep (k + 1) = (if 0 < k then jU xs sep k ++ tB sep else jU xs sep k) ++ tB xs[k] := by
  unfold jU
  rw [List.take_add_one, List.getElem?_eq_getElem h, Option.toList_some, List.map_append, List.map_cons, List.map_nil]
  cases k with
  | zero => simp [Lib.join_one, Lib.join_nil]
  | succ k =>
    rw [if_pos (by omega), join_snoc _ _ _ fun e => by
      have := congrArg List.length e
      simp only [List.length_map, List.length_take, List.length_nil] at this
      omega]
theorem jU_bd {xs : List ByteArray} {sep : ByteArray} {M : Nat} (hM : ∀ x ∈ xs, x.size ≤ M) : ∀ k, k ≤ xs.length → (jU xs sep k).length ≤ k * (M + sep.size)
  | 0, _ => by simp [jU, Lib.join_nil]
  | k + 1, hk => by
    have ih := jU_bd (sep := sep) hM k (by omega)
    have hx := hM xs[k] (List.getElem_mem (by omega))
    have h1 : (tB xs[k]).length = xs[k].size := Array.length_toList ..
    have h2 : (tB sep).length = sep.size := Array.length_toList ..
    rw [jU_succ (by omega), Nat.add_mul, Nat.one_mul, List.length_append]
    split
    · rw [List.length_append]
      omega
    · omega
set_option maxHeartbeats 8000000 in
theorem sJoinG_ok (xs : List ByteArray) (sep : ByteArray) (p : Option Addr) (c M : Nat) (hl : xs.length ≤ 1048576) (hM : ∀ x ∈ xs, x.size ≤ M) (hb : xs.length * (M + sep.size) ≤ 4611686018427387904) : FunP Tryz.prog 19 [.slice p xs.length c, .string sep] (fun H => Sl H p eT 1 xs) (.string (bs (Lib.join (xs.map tB) (tB sep)))) := by
  refine enterFunP Tryz.func19 rfl Tryz.ntmps19 rfl (fun W0 w a hp hm h => ?_)
  repeat' (first | refine c_seq ?_ | refine c_region ?_ | refine c_nil ?_ | refine k_then ?_ | refine c_block ?_ | ((refine st_op rfl rfl h ?_); clear h a; (first | (show Does _ (.move _) _ _ _ _; refine does_move rfl ?_) | (show Does _ (.assign _) _ _ _ _; refine does_assign rfl ?_) | (show Does _ (.call _) _ _ _ _; refine does_lenS (SliceT.out) rfl ?_)); intro a h; (try simp only [Value.cells, List.toList_toArray, splice, List.set_cons_zero, List.set_cons_succ, List.drop_zero, List.drop_succ_cons, List.take_succ_cons, List.take_zero, Nat.zero_add, Nat.reduceAdd, Nat.reduceMul, Int.reduceAdd, Int.reduceToNat, Int.reduceTMod, Nat.zero_mul, Nat.one_mul, Int.toNat_natCast] at h)))
  refine c_loop (σ := Nat) (fun k a w => k ≤ xs.length ∧ Mem W0 [] (fun b => W0.heap[b]?) [] w ∧ Holds [(1, .string sep), (5, .string (bs (jU xs sep k))), (8, .slice p xs.length c), (9, .int .i64 xs.length), (10, .int .i64 k)] _ a) (fun k => xs.length - k) 0
    ⟨Nat.zero_le _, hm, h.keep ⟨rfl, rfl, rfl, rfl, rfl, trivial⟩⟩ ?_
  clear h hm
  rintro k a w ⟨hk, hm, h⟩
  by_cases hlt : k < xs.length
  · obtain ⟨q1, rfl, hat1⟩ := hp.at hlt
    rw [Nat.mul_one] at hat1
    have h0 := jU_bd (sep := sep) hM k hk
    have h1 := jU_bd (sep := sep) hM (k + 1) hlt
    have hle : (k + 1) * (M + sep.size) ≤ xs.length * (M + sep.size) := Nat.mul_le_mul_right _ hlt
    have hstep := jU_succ (sep := sep) hlt
    have hl1 := congrArg List.length hstep
    have hz1 : (tB xs[k]).length = xs[k].size := Array.length_toList ..
    have hz2 : (tB sep).length = sep.size := Array.length_toList ..
    have hz3 : (bs (jU xs sep k)).size = _ := bs_size (jU xs sep k)
    have hz4 := ByteArray.size_append (a := bs (jU xs sep k)) (b := sep)
    rw [List.length_append] at hl1
    by_cases hk0 : 0 < k
    · rw [if_pos hk0] at hstep hl1
      rw [List.length_append] at hl1
      repeat' (first | refine c_seq ?_ | refine c_region ?_ | refine c_nil ?_ | refine k_then ?_ | refine k_inN ?_ | refine c_skip ?_ | refine c_block ?_ | refine c_condT h rfl ?_ | ((refine st_op rfl rfl h ?_); clear h a; (first | (show Does _ (.binOp _ _ _ _ _) _ _ _ _; (first | ((refine does_addStr rfl rfl (by omega) ?_)) | refine does_lssT rfl rfl (by omega) ?_ | refine does_gtrT rfl rfl (by omega) ?_ | refine does_add rfl rfl (by omega) ?_)) | (show Does _ (.move _) _ _ _ _; refine does_move rfl ?_) | (show Does _ (.assign _) _ _ _ _; refine does_assign rfl ?_) | (show Does _ (.load _ _) _ _ _ _; (refine does_loadB hm rfl (by assumption) rfl ?_)) | (show Does _ (.indexAddr _ _ _) _ _ _ _; (refine does_indexS1 (by omega) rfl rfl ?_))); intro a h; (try simp only [Value.cells, List.toList_toArray, splice, List.set_cons_zero, List.set_cons_succ, List.drop_zero, List.drop_succ_cons, List.take_succ_cons, List.take_zero, Nat.zero_add, Nat.reduceAdd, Nat.reduceMul, Int.reduceAdd, Int.reduceToNat, Int.reduceTMod, Nat.zero_mul, Nat.one_mul, Int.toNat_natCast] at h)))
      have e : bs (jU xs sep k) ++ sep ++ xs[k] = bs (jU xs sep (k + 1)) := by rw [hstep, ← bs_append, ← bs_append]
      rw [e] at h
      exact k_thenN ⟨k + 1, ⟨hlt, hm, h.keep ⟨rfl, rfl, rfl, rfl, rfl, trivial⟩⟩, by omega⟩
    · rw [if_neg hk0] at hstep hl1
      repeat' (first | refine c_seq ?_ | refine c_region ?_ | refine c_nil ?_ | refine k_then ?_ | refine k_inN ?_ | refine c_skip ?_ | refine c_block ?_ | refine c_condT h rfl ?_ | refine c_condF h rfl ?_ | ((refine st_op rfl rfl h ?_); clear h a; (first | (show Does _ (.binOp _ _ _ _ _) _ _ _ _; (first | ((refine does_addStr rfl rfl (by omega) ?_)) | refine does_lssT rfl rfl (by omega) ?_ | refine does_gtrF rfl rfl (by omega) ?_ | refine does_add rfl rfl (by omega) ?_)) | (show Does _ (.move _) _ _ _ _; refine does_move rfl ?_) | (show Does _ (.assign _) _ _ _ _; refine does_assign rfl ?_) | (show Does _ (.load _ _) _ _ _ _; (refine does_loadB hm rfl (by assumption) rfl ?_)) | (show Does _ (.indexAddr _ _ _) _ _ _ _; (refine does_indexS1 (by omega) rfl rfl ?_))); intro a h; (try simp only [Value.cells, List.toList_toArray, splice, List.set_cons_zero, List.set_cons_succ, List.drop_zero, List.drop_succ_cons, List.take_succ_cons, List.take_zero, Nat.zero_add, Nat.reduceAdd, Nat.reduceMul, Int.reduceAdd, Int.reduceToNat, Int.reduceTMod, Nat.zero_mul, Nat.one_mul, Int.toNat_natCast] at h)))
      have e : bs (jU xs sep k) ++ xs[k] = bs (jU xs sep (k + 1)) := by rw [hstep, ← bs_append]
      rw [e] at h
      exact k_thenN ⟨k + 1, ⟨hlt, hm, h.keep ⟨rfl, rfl, rfl, rfl, rfl, trivial⟩⟩, by omega⟩
  · obtain rfl : k = xs.length := by omega
    repeat' (first | refine c_seq ?_ | refine c_region ?_ | refine c_nil ?_ | refine k_then ?_ | refine k_thenE ?_ | refine k_inE ?_ | refine c_ret ?_ | refine c_exit ?_ | refine c_condF h rfl ?_ | ((refine st_op rfl rfl h ?_); clear h a; (first | (show Does _ (.move _) _ _ _ _; refine does_move rfl ?_) | (show Does _ (.assign _) _ _ _ _; refine does_assign rfl ?_) | (show Does _ (.binOp _ _ _ _ _) _ _ _ _; (refine does_lssF rfl rfl (by omega) ?_))); intro a h; (try simp only [Value.cells, List.toList_toArray, splice, List.set_cons_zero, List.set_cons_succ, List.drop_zero, List.drop_succ_cons, List.take_succ_cons, List.take_zero, Nat.zero_add, Nat.reduceAdd, Nat.reduceMul, Int.reduceAdd, Int.reduceToNat, Int.reduceTMod, Nat.zero_mul, Nat.one_mul, Int.toNat_natCast] at h)))
    (refine k_ret1 rfl h rfl ⟨?_, hm.below⟩)
    rw [jU, List.take_length]
end Go.Proofs.YtgmonjghbjaadaaGreatDoor.St
end

section
/-
  Frozen memory that is new: what a call hands back with slices within slices.
-/
set_option linter.unusedSimpArgs false
set_option linter.unusedVariables false
namespace Go.Proofs.YtgmonjghbjaadaaGreatDoor.St
open Go.RowKit
def newPart (W0 : World) (B : Heap) : Heap := fun b => if b < W0.heap.size then none else B b
section
variable {P : Program} {E : Env} {w W0 : World} {X : List Nat} {B B' : Heap} {L : List Own} {Φ : Value → World → Prop} {ty t : TypeId} {x y : Operand}
theorem newPart_mono (hB : Heap.le B B') : Heap.le (newPart W0 B) (newPart W0 B') := fun b o h => by
  unfold newPart at h ⊢
  split at h
  · cases h
  · rw [if_neg (by assumption)]; exact hB b o h
theorem newPart_new (hm : Mem W0 X B L w) : Heap.le (newPart W0 B) (newHeap W0 w) := fun b o h => by
  unfold newPart at h
  unfold newHeap
  split at h
  · cases h
  · rw [if_neg (by assumption)]; exact hm.base b o h
theorem does_funRN {f : FuncId} {args : List Operand} {ats : Array TypeId} {vs : List Value} {pre : Heap → Prop} {R : Value → Heap → Prop} (hm : Mem W0 X B L w) (hen : Enters P f) (hx : evs E args = some vs) (hc : FunR P f vs pre R)
    (hp : pre (fun b => w.heap[b]?)) (k : ∀ v w' N B', Heap.le B B' → Heap.le N (newPart W0 B') → R v N → Mem W0 X B' L w' → Φ v w') : Does P (.call { callee := .value (.func f), args := args.toArray, argTypes := ats }) ty E w Φ :=
  does_call hen hx ((hc.out w hp).mono fun _ w' ⟨v, he, hw, hR⟩ => ⟨v, he, k v w' (newHeap w w') _ (le_joinL B _) (fun b o h => by
    have h2 := (hm.join hw).2 b o h
    have hge : w.heap.size ≤ b := by
      unfold newHeap at h
      split at h
      · cases h
      · omega
    have := hm.size
    unfold newPart
    rw [if_neg (by omega)]
    exact h2) hR (hm.join hw).1⟩)
theorem At.newPart {q : Addr} {cs : List Value} (h : At B q cs) (hb : W0.heap.size ≤ q.block) : At (newPart W0 B) q cs := by
  obtain ⟨h1, arr, T, fz, h2, h3⟩ := h
  refine ⟨h1, arr, T, fz, ?_, h3⟩
  show (if q.block < W0.heap.size then none else B q.block) = _
  rw [if_neg (by omega)]
  exact h2
theorem add_block (q : Addr) (n : Nat) : (q.add n).block = q.block := by
  unfold Addr.add
  split <;> rfl
theorem Sl.newPart {α : Type} {p : Option Addr} {enc : α → List Value} {sz : Nat} {xs : List α} (h : Sl B p enc sz xs) (hb : ∀ a, p = some a → W0.heap.size ≤ a.block) : Sl (newPart W0 B) p enc sz xs := fun i x hi => by
  obtain ⟨a, ha, hat⟩ := h i x hi
  exact ⟨a, ha, hat.newPart (by rw [add_block]; exact hb a ha)⟩
/-- a new row of structs that is only read from now on -/
theorem Mem.frozenN {α : Type} {enc : α → List Value} {sz : Nat} {xs : List α} {v : Value} {T : TypeId} (hm : Mem W0 [] B (.row v T sz (xs.map enc).flatten :: L) w) (hf : ∀ x, (enc x).length = sz) (hsz : 0 < sz) :
    ∃ B' p cap, Heap.le B B' ∧ Mem W0 [] B' L w ∧ v = .slice p xs.length cap ∧ xs.length ≤ cap ∧ cap ≤ maxLen ∧ Sl (newPart W0 B') p enc sz xs := by
  have hfr := hm.fresh _ (List.mem_cons_self ..)
  obtain ⟨B', p, cap, h1, h2, rfl, h4, h5, h6⟩ := hm.frozen hf hsz
  refine ⟨B', p, cap, h1, h2, rfl, h4, h5, h6.newPart fun a ha => ?_⟩
  subst ha
  rcases hfr a.block rfl with h | h
  · exact h
  · simp at h
end
end Go.Proofs.YtgmonjghbjaadaaGreatDoor.St
end
