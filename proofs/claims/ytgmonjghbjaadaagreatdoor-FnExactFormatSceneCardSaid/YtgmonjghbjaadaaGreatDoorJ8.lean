/-
  Rows of numbers as texts: both sides.
-/
import Derived.Test.YtgmonjghbjaadaaGreatDoorJ6
import Derived.Test.YtgmonjghbjaadaaGreatDoorJ7

section
set_option linter.unusedSimpArgs false
set_option linter.unusedVariables false
namespace Go.Proofs.YtgmonjghbjaadaaGreatDoor.St
open Go.RowKit
abbrev eT (s : ByteArray) : List Value := [.string s]
/-- the library's table of powers of ten stands where it belongs -/
def TabH (H : Heap) : Prop := ∃ T fz, H (layI_ren.g 17) = some (.cells (Lib.pow10Tab.map fun z => Value.int .u64 z).toArray T fz)
theorem TabH.mono {B B' : Heap} (h : TabH B) (hB : Heap.le B B') : TabH B' := by
  obtain ⟨T, fz, h⟩ := h
  exact ⟨T, fz, hB _ _ h⟩
theorem grown_ext (w : World) (k : Nat) (os : Array Obj) : Ext w (Sort.grow (w.drewN k) os) where
  os := rfl
  tape := rfl
  output := rfl
  size := by simp [Sort.grow, World.drewN]
  block b hb := by
    show (w.heap ++ os)[b]? = w.heap[b]?
    rw [Array.getElem?_append_left hb]
theorem itoa_ok (n : Int) (hn : -1000000000 ≤ n ∧ n ≤ 1000000000) : FunP Tryz.prog 58 [I n] TabH (.string (iTx n)) := ⟨fun w hp => by
  refine (Any.strconv_Itoa layI n (by omega) (by omega) w ?_).mono fun e w' ⟨he, k, os, hw⟩ => ⟨he, ?_⟩
  · obtain ⟨T, fz, h⟩ := hp
    unfold Lib.TabIs World.var?
    rw [layI.m17]
    simp only [Option.bind_some]
    have h' : w.heap[layI_ren.g 17]? = _ := h
    rw [h']
  · subst hw
    exact grown_ext w k os⟩
set_option maxHeartbeats 4000000 in
theorem iFormatInt_ok (n : Int) (hn : -1000000000 ≤ n ∧ n ≤ 1000000000) : FunP Tryz.prog 27 [I n] TabH (.string (iTx n)) := by
  refine enterFunP Tryz.func27 rfl Tryz.ntmps27 rfl (fun W0 w a hp hm h => ?_)
  repeat' (first | refine c_seq ?_ | refine c_region ?_ | refine c_nil ?_ | refine k_then ?_ | refine c_skip ?_ | refine c_ret ?_ | refine c_condF h rfl ?_ | ((refine st_op rfl rfl h ?_); clear h a; (first | (show Does _ (.call _) _ _ _ _; ((refine does_funP hm en58 rfl (itoa_ok n hn) (hp.mono hm.base) ?_; clear hm; intro w hm))) | (show Does _ (.move _) _ _ _ _; refine does_move rfl ?_) | (show Does _ (.assign _) _ _ _ _; refine does_assign rfl ?_) | (show Does _ (.pick _ _ _) _ _ _ _; (refine does_pickF rfl rfl ?_)) | (show Does _ (.binOp _ _ _ _ _) _ _ _ _; (first | refine does_lssF rfl rfl (by omega) ?_ | refine does_gtrF rfl rfl (by omega) ?_))); intro a h; (try simp only [Value.cells, List.toList_toArray, splice, List.set_cons_zero, List.set_cons_succ, List.drop_zero, List.drop_succ_cons, List.take_succ_cons, List.take_zero, Nat.zero_add, Nat.reduceAdd, Nat.reduceMul, Int.reduceAdd, Int.reduceToNat, Int.reduceTMod, Nat.zero_mul, Nat.one_mul, Int.toNat_natCast] at h)))
  all_goals first | (exfalso; omega) | skip
  all_goals (refine k_ret1 rfl h rfl ⟨?_, hm.below⟩)
  all_goals first | rfl | (exfalso; omega)
theorem join_ok (xs : List ByteArray) (sep : ByteArray) (p : Option Addr) (c : Nat) (h0 : 0 < xs.length) (hN : xs.length ≤ 1048576) (hc : xs.length ≤ c) (hl : (Lib.join (xs.map (·.data.toList)) sep.data.toList).length ≤ 140737488355328) : FunP Tryz.prog 101 [.slice p xs.length c, .string sep] (fun H => Sl H p eT 1 xs) (.string (bs (Lib.join (xs.map (·.data.toList)) sep.data.toList))) := ⟨fun w hp => by
  obtain ⟨a, rfl, hat⟩ := hp.at h0
  have hb0 : a.block < w.heap.size := by
    obtain ⟨_, arr, T, fz, h2, _⟩ := hat
    have h2' : w.heap[(a.add (0 * 1)).block]? = _ := h2
    rw [show a.add (0 * 1) = a by simp [Addr.add]] at h2'
    exact (Array.getElem?_eq_some_iff.1 h2').1
  have hsp0 : a.spot = none := by
    have := hat.1
    rwa [show a.add (0 * 1) = a by simp [Addr.add]] at this
  obtain ⟨bk, o, sp⟩ := a
  have hsp : sp = none := hsp0
  subst hsp
  have hcell : ∀ (j : Nat) x, xs[j]? = some x → w.cell? ⟨bk, o + j, none⟩ = some (.string x) := fun j x hj => by
    obtain ⟨a', ha', hat'⟩ := hp j x hj
    cases ha'
    have hadd : (⟨bk, o, none⟩ : Addr).add (j * 1) = ⟨bk, o + j, none⟩ := by by_cases hj0 : j = 0 <;> simp [Addr.add, hj0]
    rw [hadd] at hat'
    obtain ⟨_, arr, T, fz, h2, h3⟩ := hat'
    have h2' : w.heap[bk]? = some (.cells arr T fz) := h2
    have h4' : arr[o + j]? = some (.string x) := h3 0 (.string x) rfl
    simp [World.cell?, h2', h4']
  have hbk : bk < w.heap.size := hb0
  exact Any.strings_Join layJ layB bk o c xs sep w hcell hbk (by omega) hc hl⟩
set_option maxHeartbeats 4000000 in
theorem iJoin_ok (xs : List ByteArray) (sep : ByteArray) (p : Option Addr) (c : Nat) (h0 : 0 < xs.length) (hN : xs.length ≤ 1048576) (hc : xs.length ≤ c) (hl : (Lib.join (xs.map (·.data.toList)) sep.data.toList).length ≤ 140737488355328) : FunP Tryz.prog 30 [.slice p xs.length c, .string sep] (fun H => Sl H p eT 1 xs) (.string (bs (Lib.join (xs.map (·.data.toList)) sep.data.toList))) := by
  have hA : FunP Tryz.prog 64 [.string sep, .slice p xs.length c] (fun H => Sl H p eT 1 xs) (.string (bs (Lib.join (xs.map (·.data.toList)) sep.data.toList))) := by
    refine enterFunP Tryz.func64 rfl Tryz.ntmps64 rfl (fun W0 w a hp hm h => ?_)
    repeat' (first | refine c_seq ?_ | refine c_region ?_ | refine c_nil ?_ | refine k_then ?_ | refine c_ret ?_ | ((refine st_op rfl rfl h ?_); clear h a; (first | (show Does _ (.call _) _ _ _ _; ((refine does_funP hm en101 rfl (join_ok xs sep p c h0 hN hc hl) (hp.up hm) ?_; clear hm; intro w hm))) | (show Does _ (.move _) _ _ _ _; refine does_move rfl ?_) | (show Does _ (.assign _) _ _ _ _; refine does_assign rfl ?_)); intro a h; (try simp only [Value.cells, List.toList_toArray, splice, List.set_cons_zero, List.set_cons_succ, List.drop_zero, List.drop_succ_cons, List.take_succ_cons, List.take_zero, Nat.zero_add, Nat.reduceAdd, Nat.reduceMul, Int.reduceAdd, Int.reduceToNat, Int.reduceTMod, Nat.zero_mul, Nat.one_mul, Int.toNat_natCast] at h)))
    (refine k_ret1 rfl h rfl ⟨?_, hm.below⟩)
    rfl
  refine enterFunP Tryz.func30 rfl Tryz.ntmps30 rfl (fun W0 w a hp hm h => ?_)
  repeat' (first | refine c_seq ?_ | refine c_region ?_ | refine c_nil ?_ | refine k_then ?_ | refine c_ret ?_ | ((refine st_op rfl rfl h ?_); clear h a; (first | (show Does _ (.call _) _ _ _ _; ((refine does_funP hm en64 rfl hA (hp.up hm) ?_; clear hm; intro w hm))) | (show Does _ (.move _) _ _ _ _; refine does_move rfl ?_) | (show Does _ (.assign _) _ _ _ _; refine does_assign rfl ?_)); intro a h; (try simp only [Value.cells, List.toList_toArray, splice, List.set_cons_zero, List.set_cons_succ, List.drop_zero, List.drop_succ_cons, List.take_succ_cons, List.take_zero, Nat.zero_add, Nat.reduceAdd, Nat.reduceMul, Int.reduceAdd, Int.reduceToNat, Int.reduceTMod, Nat.zero_mul, Nat.one_mul, Int.toNat_natCast] at h)))
  (refine k_ret1 rfl h rfl ⟨?_, hm.below⟩)
  rfl
theorem texts_data (l : List Int) : (l.map iTx).map (·.data.toList) = l.map Lib.itoa := by simp [Function.comp_def]
theorem iTx_ne {n : Int} (h : -1000000000 ≤ n ∧ n ≤ 1000000000) : ¬ iTx n = ⟨#[]⟩ := fun e => by
  have h1 := (iTx_size h).1
  have h2 := congrArg ByteArray.size e
  rw [bs_size] at h2
  have h3 : (⟨#[]⟩ : ByteArray).size = 0 := rfl
  omega
theorem take_texts {l : List Int} {k : Nat} (hk : k < l.length) : (((l.take k).map iTx).map eT).flatten ++ [.string (iTx l[k])] = (((l.take (k + 1)).map iTx).map eT).flatten := by
  rw [List.take_succ_eq_append_getElem hk, List.map_append, List.map_append, List.flatten_append]
  rfl
set_option maxHeartbeats 8000000 in
theorem iFormatInts_ok (l : List Int) (p : Option Addr) (c : Nat) (hl : l.length ≤ 1048576) (hok : okTx l) : FunP Tryz.prog 57 [.slice p l.length c] (fun H => Sl H p eI 1 l ∧ TabH H) (.string (bs (lTx l))) := by
  refine enterFunP Tryz.func57 rfl Tryz.ntmps57 rfl (fun W0 w a hp hm h => ?_)
  obtain ⟨hx, hT⟩ := hp
  repeat' (first | refine c_seq ?_ | refine c_region ?_ | refine c_nil ?_ | refine k_then ?_ | refine k_thenR ?_ | refine c_skip ?_ | refine c_ret ?_ | refine c_block ?_ | ((refine st_op rfl rfl h ?_); clear h a; (first | (show Does _ (.buildSlice _ _ _) _ _ _ _; (((refine does_buildSlice hm rfl rfl rfl ?_; clear hm; intro bz w hm; replace hm := hm.toRow 0 (n := 0) (cap := 0) 1 rfl rfl (Nat.zero_le _); simp only [List.set_cons_zero, rep, List.replicate_zero, List.flatten_nil] at hm)))) | (show Does _ (.move _) _ _ _ _; refine does_move rfl ?_) | (show Does _ (.assign _) _ _ _ _; refine does_assign rfl ?_) | (show Does _ (.binOp _ _ _ _ _) _ _ _ _; (refine does_eql rfl rfl ?_)) | (show Does _ (.call _) _ _ _ _; refine does_lenS (SliceT.out) rfl ?_)); intro a h; (try simp only [Value.cells, List.toList_toArray, splice, List.set_cons_zero, List.set_cons_succ, List.drop_zero, List.drop_succ_cons, List.take_succ_cons, List.take_zero, Nat.zero_add, Nat.reduceAdd, Nat.reduceMul, Int.reduceAdd, Int.reduceToNat, Int.reduceTMod, Nat.zero_mul, Nat.one_mul, Int.toNat_natCast] at h)) | ((refine c_condD h rfl ?_ ?_) <;> intro hc <;> (try (fail))))
  all_goals first | ((refine k_ret1 rfl h rfl ⟨?_, hm.below⟩); rw [lTx, if_pos (List.eq_nil_of_length_eq_zero (by omega))]) | skip
  have h0 : 0 < l.length := by omega
  refine c_loop (σ := Nat × Value) (fun s a w => s.1 ≤ l.length ∧ Mem W0 [] (fun b => W0.heap[b]?) [.row s.2 9 1 (((l.take s.1).map iTx).map eT).flatten] w ∧ Holds [(3, s.2), (11, .slice p l.length c), (12, .int .i64 l.length), (13, .int .i64 s.1)] _ a) (fun s => l.length - s.1) (0, .slice (some ⟨bz, 0, none⟩) 0 0)
    ⟨Nat.zero_le _, hm, h.keep ⟨rfl, rfl, rfl, rfl, trivial⟩⟩ ?_
  clear h hm hc
  rintro ⟨k, v⟩ a w ⟨hk, hm, h⟩
  simp only at hk hm h
  have hfl := flat_len (enc := eT) (sz := 1) (fun _ => rfl) ((l.take k).map iTx)
  have hkl : ((l.take k).map iTx).length = k := by rw [List.length_map, List.length_take]; omega
  rw [hkl] at hfl
  obtain ⟨pv, cv, rfl, hcv1, hcv2⟩ := row_slice (i := 0) hm rfl (fun _ => rfl) (by omega)
  rw [hkl] at hm h hcv1
  by_cases hlt : k < l.length
  · obtain ⟨q1, rfl, hat1⟩ := hx.at hlt
    rw [Nat.mul_one] at hat1
    have hn := hok l[k] (List.getElem_mem hlt)
    have hne := iTx_ne hn
    repeat' (first | refine c_seq ?_ | refine c_region ?_ | refine c_nil ?_ | refine k_then ?_ | refine k_thenR ?_ | refine k_inN ?_ | refine k_inR ?_ | refine c_skip ?_ | refine c_ret ?_ | refine c_block ?_ | refine c_condT h rfl ?_ | ((refine st_op rfl rfl h ?_); clear h a; (first | (show Does _ (.call _) _ _ _ _; (first | ((refine does_funP hm en27 rfl (iFormatInt_ok l[k] hn) (hT.mono hm.base) ?_; clear hm; intro w hm)) | ((refine does_appX 1 (n := k) (news := eT (iTx l[k])) hm rfl rfl rfl (by omega) hfl rfl (.inr ⟨_, rfl, at_own (i := 0) hm rfl (fun j v hv => (by rw [Nat.zero_add]; exact hv))⟩) (oneCells_mem rfl) (by omega) (by simp only [maxLen]; omega) ?_; clear hm; intro p8 c8 w hc8 hc9 hm; simp only [List.set_cons_zero, List.set_cons_succ] at hm)))) | (show Does _ (.buildSlice _ _ _) _ _ _ _; (refine does_buildSlice hm rfl rfl rfl ?_; clear hm; intro b w hm; (try simp only [rep, List.replicate_succ, List.replicate_zero, List.flatten_cons, List.flatten_nil, List.cons_append, List.nil_append, Nat.zero_mul, Nat.one_mul, Nat.reduceMul, Value.cells, List.toList_toArray, List.set_cons_zero, List.set_cons_succ, splice, Nat.zero_add, Nat.reduceAdd, Nat.reduceMul, Int.reduceAdd, Int.reduceToNat, Nat.zero_mul, Nat.one_mul, Int.toNat_natCast] at hm))) | (show Does _ (.move _) _ _ _ _; refine does_move rfl ?_) | (show Does _ (.assign _) _ _ _ _; refine does_assign rfl ?_) | (show Does _ (.load _ _) _ _ _ _; (refine does_loadB hm rfl (by assumption) rfl ?_)) | (show Does _ (.binOp _ _ _ _ _) _ _ _ _; (first | refine does_lssT rfl rfl (by omega) ?_ | refine does_eqlStr rfl rfl ?_ | refine does_add rfl rfl (by omega) ?_)) | (show Does _ (.indexAddr _ _ _) _ _ _ _; (refine does_indexS1 (by omega) rfl rfl ?_))); intro a h; (try simp only [Value.cells, List.toList_toArray, splice, List.set_cons_zero, List.set_cons_succ, List.drop_zero, List.drop_succ_cons, List.take_succ_cons, List.take_zero, Nat.zero_add, Nat.reduceAdd, Nat.reduceMul, Int.reduceAdd, Int.reduceToNat, Int.reduceTMod, Nat.zero_mul, Nat.one_mul, Int.toNat_natCast] at h)) | ((refine c_condD h rfl ?_ ?_) <;> intro hc <;> (try (fail))))
    all_goals first | exact absurd hc hne | skip
    rw [take_texts hlt] at hm
    exact k_thenN ⟨(k + 1, .slice p8 (k + 1) c8), ⟨by show k + 1 ≤ l.length; omega, hm.drop, h.keep ⟨rfl, rfl, rfl, rfl, trivial⟩⟩, by show l.length - (k + 1) < l.length - k; omega⟩
  · obtain rfl : k = l.length := by omega
    have hb := join_bd hok
    have hj := iJoin_ok (l.map iTx) ⟨#[44]⟩ pv cv (by rw [List.length_map]; exact h0) (by rw [List.length_map]; exact hl) (by rw [List.length_map]; exact hcv1) (by rw [texts_data]; exact Nat.le_trans hb (by omega))
    rw [texts_data, List.length_map] at hj
    rw [List.take_length] at hm
    repeat' (first | refine c_seq ?_ | refine c_region ?_ | refine c_nil ?_ | refine k_then ?_ | refine k_thenE ?_ | refine k_inE ?_ | refine c_ret ?_ | refine c_exit ?_ | refine c_condF h rfl ?_ | ((refine st_op rfl rfl h ?_); clear h a; (first | (show Does _ (.call _) _ _ _ _; (((refine does_funP hm en30 rfl hj (row_sl 0 hm rfl (fun _ => rfl) (by omega)) ?_; clear hm; intro w hm)))) | (show Does _ (.move _) _ _ _ _; refine does_move rfl ?_) | (show Does _ (.assign _) _ _ _ _; refine does_assign rfl ?_) | (show Does _ (.binOp _ _ _ _ _) _ _ _ _; (refine does_lssF rfl rfl (by omega) ?_))); intro a h; (try simp only [Value.cells, List.toList_toArray, splice, List.set_cons_zero, List.set_cons_succ, List.drop_zero, List.drop_succ_cons, List.take_succ_cons, List.take_zero, Nat.zero_add, Nat.reduceAdd, Nat.reduceMul, Int.reduceAdd, Int.reduceToNat, Int.reduceTMod, Nat.zero_mul, Nat.one_mul, Int.toNat_natCast] at h)))
    (refine k_ret1 rfl h rfl ⟨?_, hm.below⟩)
    rw [lTx, if_neg (fun e => by rw [e] at h0; simp at h0)]
end Go.Proofs.YtgmonjghbjaadaaGreatDoor.St
end

section
/-
  Numbers of any size as texts.
-/
set_option linter.unusedSimpArgs false
set_option linter.unusedVariables false
namespace Go.Proofs.YtgmonjghbjaadaaGreatDoor.St
open Go.RowKit
open Classical in
noncomputable def nTx (n : Int) : ByteArray := if -1000000000 ≤ n ∧ n ≤ 1000000000 then iTx n else ⟨#[]⟩
end Go.Proofs.YtgmonjghbjaadaaGreatDoor.St
end
