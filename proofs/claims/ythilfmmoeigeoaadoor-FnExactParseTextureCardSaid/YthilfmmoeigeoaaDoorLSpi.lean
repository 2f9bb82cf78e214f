/-
  A text cut at a byte: the program's.
-/
import Derived.Test.YthilfmmoeigeoaaDoorLSpl
import Derived.Shelf.Lays
import Derived.Shelf.Small.Strs
set_option linter.unusedSimpArgs false
set_option linter.unusedVariables false
namespace Go.Proofs.YthilfmmoeigeoaaDoor.St
open Go.RowKit
def layX_ren : Go.Shelf.Ren := ⟨fun | 137 => 75 | 217 => 78 | 266 => 92 | n => n, fun | 9 => 9 | 5 => 5 | 3 => 3 | n => n, fun | n => n⟩
theorem layX : Lays.n137 Tryd.prog layX_ren := {
  mixed := by kernel_rfl,
  f137 := Tryd.func75.trans (congrArg some (by kernel_rfl)),
  f217 := Tryd.func78.trans (congrArg some (by kernel_rfl)),
  f266 := Tryd.func92.trans (congrArg some (by kernel_rfl)),
  t3 := Tryd.underlying3,
  a3 := Tryd.isAgg3,
  z3 := Tryd.sizeOf3,
  v3 := Tryd.zeroValue3,
  t5 := Tryd.underlying5,
  a5 := Tryd.isAgg5,
  z5 := Tryd.sizeOf5,
  v5 := Tryd.zeroValue5,
  t9 := Tryd.underlying9,
  a9 := Tryd.isAgg9,
  z9 := Tryd.sizeOf9,
  v9 := Tryd.zeroValue9 }
theorem idx_ok (s : ByteArray) {y : Int} {x : UInt8} (h : y = (x.toNat : Int)) : Fun Tryd.prog 75 [.string s, .int .u8 y] (.int .i64 (Lib.indexByte s.data.toList x)) := ⟨fun w => by
  subst h
  have := Any.strings_IndexByte layX s (x.toNat : Int) w
  refine this.mono fun e w' ⟨he, hw⟩ => ?_
  subst he hw
  have e1 : ((x.toNat : Int).toNat.toUInt8) = x := by simp
  rw [e1]
  exact ⟨rfl, ext_refl _⟩⟩
set_option maxHeartbeats 8000000 in
theorem iSplit_ok (s : ByteArray) (c : UInt8) (hs : s.size ≤ 1048576) : FunN Tryd.prog 64 [.string s, .string ⟨#[c]⟩] (fun _ => True) 9 1 (((spl c [] (tL s)).map bs).map eT).flatten := by
  refine enterFunN Tryd.func64 rfl Tryd.ntmps64 rfl (fun W0 w a hp hm h => ?_)
  repeat' (first | refine c_seq ?_ | refine c_region ?_ | refine c_nil ?_ | refine k_then ?_ | refine k_thenL ?_ | refine k_thenR ?_ | refine k_thenE ?_ | refine k_inN ?_ | refine k_inR ?_ | refine k_inE ?_ | refine k_inO rfl ?_ | refine c_skip ?_ | refine c_ret ?_ | refine c_exit ?_ | refine c_block ?_ | refine r_succ ?_ | refine c_condT h rfl ?_ | refine c_condF h rfl ?_ | ((first | refine st_op rfl rfl h ?_ | refine st_opn rfl h ?_); clear h a; (first | (show Does _ (.buildSlice _ _ _) _ _ _ _; (first | ((refine does_buildSlice hm rfl rfl rfl ?_; clear hm; intro bz w hm; replace hm := hm.toRow 0 (n := 0) (cap := 0) 1 rfl rfl (Nat.zero_le _); simp only [List.set_cons_zero, rep, List.replicate_zero, List.flatten_nil] at hm)) | (refine does_buildSlice hm rfl rfl rfl ?_; clear hm; intro b w hm; (try simp only [rep, List.replicate_succ, List.replicate_zero, List.flatten_cons, List.flatten_nil, List.cons_append, List.nil_append, Nat.zero_mul, Nat.one_mul, Nat.reduceMul, Value.cells, List.toList_toArray, List.set_cons_zero, List.set_cons_succ, splice, Nat.zero_add, Nat.reduceAdd, Nat.reduceMul, Int.reduceAdd, Int.reduceToNat, Nat.zero_mul, Nat.one_mul, Int.toNat_natCast] at hm)))) | (show Does _ (.move _) _ _ _ _; refine does_move rfl ?_) | (show Does _ (.assign _) _ _ _ _; refine does_assign rfl ?_) | (show Does _ (.binOp _ _ _ _ _) _ _ _ _; (first | refine does_lssT rfl rfl (by omega) ?_ | refine does_lssF rfl rfl (by omega) ?_ | refine does_lss rfl rfl ?_ | refine does_geqT rfl rfl (by omega) ?_ | refine does_geqF rfl rfl (by omega) ?_ | refine does_geq rfl rfl ?_ | refine does_add rfl rfl (by omega) ?_)) | (show Does _ (.call _) _ _ _ _; refine does_lenStr (StrT.out) rfl ?_) | (show Does _ (.index _ _ _) _ _ _ _; (first | refine does_indexVA (by omega) rfl rfl ?_ | refine does_indexV1 (by omega) rfl rfl rfl ?_)) | (show Does _ (.slice _ _ _ _ _) _ _ _ _; (first | refine does_sliceA rfl ?_ | refine does_sliceHi (by omega) rfl rfl ?_))); intro a h; (try simp only [Value.cells, List.toList_toArray, splice, List.set_cons_zero, List.set_cons_succ, List.drop_zero, List.drop_succ_cons, List.take_succ_cons, List.take_zero, Nat.zero_add, Nat.reduceAdd, Nat.reduceMul, Int.reduceAdd, Int.reduceToNat, Int.reduceTMod, Nat.zero_mul, Nat.one_mul, Int.toNat_natCast] at h)) | ((first | refine st_skip rfl rfl h ?_ | refine st_skipn rfl h ?_); clear h a; intro a h) | ((first | refine c_condD h rfl ?_ ?_ | refine c_cond h rfl ?_ ?_) <;> intro hc <;> (try (first | exact absurd trivial hc | exact absurd rfl hc))) | (refine st_guardD rfl rfl h ?_ ?_ <;> clear h <;> intro hc h))
  refine c_loop (σ := Nat × Nat × List (List UInt8) × Value) (fun q a w => ((q.1 ≤ s.size ∧ q.2.1 ≤ q.1) ∧ q.2.2.1.length ≤ q.1) ∧ q.2.2.1 ++ spl c (((tL s).take q.1).drop q.2.1) ((tL s).drop q.1) = spl c [] (tL s) ∧
    Mem W0 [] (fun b => W0.heap[b]?) [.row q.2.2.2 9 1 ((q.2.2.1.map bs).map eT).flatten] w ∧ Holds [(0, .string s), (1, .string ⟨#[c]⟩), (5, q.2.2.2), (6, .int .i64 q.2.1), (7, .int .i64 q.1)] _ a) (fun q => s.size - q.1) (0, 0, [], .slice (some ⟨bz, 0, none⟩) 0 0)
    ⟨⟨⟨Nat.zero_le _, Nat.le_refl _⟩, Nat.zero_le _⟩, by simp, hm, h.keep ⟨rfl, rfl, rfl, rfl, rfl, trivial⟩⟩ ?_
  clear h hm
  rintro ⟨i, f, out, v⟩ a w ⟨⟨⟨hi, hf⟩, ho⟩, hsp, hm, h⟩
  simp only at hi hf ho hsp hm h
  have hfl := flat_len (enc := eT) (sz := 1) (fun _ => rfl) (out.map bs)
  have hol : (out.map bs).length = out.length := List.length_map ..
  rw [hol] at hfl
  obtain ⟨pv, cv, rfl, hcv1, hcv2⟩ := row_slice (i := 0) hm rfl (fun _ => rfl) (by omega)
  rw [hol] at hm h hcv1
  by_cases hlt : i < s.size
  · obtain ⟨x, hx1, hx2⟩ := bt_list hlt
    have hcb : bt ⟨#[c]⟩ 0 = (c.toNat : Int) := rfl
    have hcs : (((⟨#[c]⟩ : ByteArray).size : Nat) : Int) = 1 := rfl
    rw [drop_get hx1] at hsp
    by_cases hxc : x = c
    · subst hxc
      rw [spl_hit] at hsp
      have hix : Lib.indexByte [x] x = 0 := by simp [Lib.indexByte]
      have hcl : Fun Tryd.prog 75 [.string ⟨#[x]⟩, .int .u8 (bt s i)] (.int .i64 0) := by
        have := idx_ok ⟨#[x]⟩ hx2
        rw [show (⟨#[x]⟩ : ByteArray).data.toList = [x] from rfl, hix] at this
        exact this
      repeat' (first | refine c_seq ?_ | refine c_region ?_ | refine c_nil ?_ | refine k_then ?_ | refine k_thenL ?_ | refine k_thenR ?_ | refine k_thenE ?_ | refine k_inN ?_ | refine k_inR ?_ | refine k_inE ?_ | refine k_inO rfl ?_ | refine c_skip ?_ | refine c_ret ?_ | refine c_exit ?_ | refine c_block ?_ | refine r_succ ?_ | refine c_condT h rfl ?_ | refine c_condF h rfl ?_ | ((first | refine st_op rfl rfl h ?_ | refine st_opn rfl h ?_); clear h a; (first | ((refine does_strLoHi (i := f) (m := i) Tryd.underlying9 rfl rfl rfl ⟨hf, hi⟩ ?_)) | (show Does _ (.index _ _ _) _ _ _ _; (first | ((refine does_strIdxN (i := i) hlt rfl rfl ?_)) | refine does_indexVA (by omega) rfl rfl ?_ | refine does_indexV1 (by omega) rfl rfl rfl ?_)) | (show Does _ (.call _) _ _ _ _; (first | ((refine does_funM hm en75 rfl hcl ?_; clear hm; intro w hm)) | ((refine does_appX 1 (n := out.length) (news := eT (s.extract f i)) hm rfl rfl rfl (by omega) hfl rfl (.inr ⟨_, rfl, at_own (i := 0) hm rfl (fun j v hv => (by rw [Nat.zero_add]; exact hv))⟩) (oneCells_mem rfl) (by omega) (by simp only [maxLen]; omega) ?_; clear hm; intro p8 c8 w hc8 hc9 hm; simp only [List.set_cons_zero, List.set_cons_succ] at hm)) | refine does_lenStr (StrT.out) rfl ?_)) | (show Does _ (.buildSlice _ _ _) _ _ _ _; (refine does_buildSlice hm rfl rfl rfl ?_; clear hm; intro b w hm; (try simp only [rep, List.replicate_succ, List.replicate_zero, List.flatten_cons, List.flatten_nil, List.cons_append, List.nil_append, Nat.zero_mul, Nat.one_mul, Nat.reduceMul, Value.cells, List.toList_toArray, List.set_cons_zero, List.set_cons_succ, splice, Nat.zero_add, Nat.reduceAdd, Nat.reduceMul, Int.reduceAdd, Int.reduceToNat, Nat.zero_mul, Nat.one_mul, Int.toNat_natCast] at hm))) | (show Does _ (.move _) _ _ _ _; refine does_move rfl ?_) | (show Does _ (.assign _) _ _ _ _; refine does_assign rfl ?_) | (show Does _ (.binOp _ _ _ _ _) _ _ _ _; (first | refine does_lssT rfl rfl (by omega) ?_ | refine does_lssF rfl rfl (by omega) ?_ | refine does_lss rfl rfl ?_ | refine does_geqT rfl rfl (by omega) ?_ | refine does_geqF rfl rfl (by omega) ?_ | refine does_geq rfl rfl ?_ | refine does_add rfl rfl (by omega) ?_)) | (show Does _ (.slice _ _ _ _ _) _ _ _ _; (first | refine does_sliceA rfl ?_ | refine does_sliceHi (by omega) rfl rfl ?_))); intro a h; (try simp only [Value.cells, List.toList_toArray, splice, List.set_cons_zero, List.set_cons_succ, List.drop_zero, List.drop_succ_cons, List.take_succ_cons, List.take_zero, Nat.zero_add, Nat.reduceAdd, Nat.reduceMul, Int.reduceAdd, Int.reduceToNat, Int.reduceTMod, Nat.zero_mul, Nat.one_mul, Int.toNat_natCast] at h)) | ((first | refine st_skip rfl rfl h ?_ | refine st_skipn rfl h ?_); clear h a; intro a h) | ((first | refine c_condD h rfl ?_ ?_ | refine c_cond h rfl ?_ ?_) <;> intro hc <;> (try (first | exact absurd trivial hc | exact absurd rfl hc))) | (refine st_guardD rfl rfl h ?_ ?_ <;> clear h <;> intro hc h))
      rw [ext_bs, spl_row] at hm
      exact k_thenN ⟨(i + 1, i + 1, out ++ [((tL s).take i).drop f], .slice p8 (out.length + 1) c8), ⟨⟨⟨hlt, Nat.le_refl _⟩, by simp only [List.length_append, List.length_singleton]; omega⟩, by simp only [cut_none, List.append_assoc, List.singleton_append]; exact hsp, hm.drop, h.keep ⟨rfl, rfl, rfl, rfl, rfl, trivial⟩⟩, by show s.size - (i + 1) < s.size - i; omega⟩
    · have hix : Lib.indexByte [c] x = -1 := by
        simp only [Lib.indexByte]
        rw [if_neg (by simpa using fun e : c = x => hxc e.symm)]
        rfl
      have hcl : Fun Tryd.prog 75 [.string ⟨#[c]⟩, .int .u8 (bt s i)] (.int .i64 (-1)) := by
        have := idx_ok ⟨#[c]⟩ hx2
        rw [show (⟨#[c]⟩ : ByteArray).data.toList = [c] from rfl, hix] at this
        exact this
      have hcn : ¬ bt s i = bt ⟨#[c]⟩ 0 := fun e => hxc (UInt8.toNat_inj.1 (by rw [hx2, hcb] at e; omega))
      rw [spl_miss hxc, ← cut_next hx1 hf] at hsp
      repeat' (first | refine c_seq ?_ | refine c_region ?_ | refine c_nil ?_ | refine k_then ?_ | refine k_thenL ?_ | refine k_thenR ?_ | refine k_thenE ?_ | refine k_inN ?_ | refine k_inR ?_ | refine k_inE ?_ | refine k_inO rfl ?_ | refine c_skip ?_ | refine c_ret ?_ | refine c_exit ?_ | refine c_block ?_ | refine r_succ ?_ | refine c_condT h rfl ?_ | refine c_condF h rfl ?_ | ((first | refine st_op rfl rfl h ?_ | refine st_opn rfl h ?_); clear h a; (first | (show Does _ (.index _ _ _) _ _ _ _; (first | ((refine does_strIdxN (i := i) hlt rfl rfl ?_)) | refine does_indexVA (by omega) rfl rfl ?_ | refine does_indexV1 (by omega) rfl rfl rfl ?_)) | (show Does _ (.call _) _ _ _ _; (first | ((refine does_funM hm en75 rfl hcl ?_; clear hm; intro w hm)) | refine does_lenStr (StrT.out) rfl ?_)) | (show Does _ (.buildSlice _ _ _) _ _ _ _; (refine does_buildSlice hm rfl rfl rfl ?_; clear hm; intro b w hm; (try simp only [rep, List.replicate_succ, List.replicate_zero, List.flatten_cons, List.flatten_nil, List.cons_append, List.nil_append, Nat.zero_mul, Nat.one_mul, Nat.reduceMul, Value.cells, List.toList_toArray, List.set_cons_zero, List.set_cons_succ, splice, Nat.zero_add, Nat.reduceAdd, Nat.reduceMul, Int.reduceAdd, Int.reduceToNat, Nat.zero_mul, Nat.one_mul, Int.toNat_natCast] at hm))) | (show Does _ (.move _) _ _ _ _; refine does_move rfl ?_) | (show Does _ (.assign _) _ _ _ _; refine does_assign rfl ?_) | (show Does _ (.binOp _ _ _ _ _) _ _ _ _; (first | refine does_lssT rfl rfl (by omega) ?_ | refine does_lssF rfl rfl (by omega) ?_ | refine does_lss rfl rfl ?_ | refine does_geqT rfl rfl (by omega) ?_ | refine does_geqF rfl rfl (by omega) ?_ | refine does_geq rfl rfl ?_ | refine does_add rfl rfl (by omega) ?_)) | (show Does _ (.slice _ _ _ _ _) _ _ _ _; (first | refine does_sliceA rfl ?_ | refine does_sliceHi (by omega) rfl rfl ?_))); intro a h; (try simp only [Value.cells, List.toList_toArray, splice, List.set_cons_zero, List.set_cons_succ, List.drop_zero, List.drop_succ_cons, List.take_succ_cons, List.take_zero, Nat.zero_add, Nat.reduceAdd, Nat.reduceMul, Int.reduceAdd, Int.reduceToNat, Int.reduceTMod, Nat.zero_mul, Nat.one_mul, Int.toNat_natCast] at h)) | ((first | refine st_skip rfl rfl h ?_ | refine st_skipn rfl h ?_); clear h a; intro a h) | ((first | refine c_condD h rfl ?_ ?_ | refine c_cond h rfl ?_ ?_) <;> intro hc <;> (try (first | exact absurd trivial hc | exact absurd rfl hc))) | (refine st_guardD rfl rfl h ?_ ?_ <;> clear h <;> intro hc h))
      exact k_thenN ⟨(i + 1, f, out, .slice pv out.length cv), ⟨⟨⟨hlt, by show f ≤ i + 1; omega⟩, by show out.length ≤ i + 1; omega⟩, hsp, hm, h.keep ⟨rfl, rfl, rfl, rfl, rfl, trivial⟩⟩, by show s.size - (i + 1) < s.size - i; omega⟩
  · obtain rfl : i = s.size := by omega
    have hdn : (tL s).drop s.size = [] := List.drop_eq_nil_of_le (by rw [tL_len]; exact Nat.le_refl _)
    rw [hdn] at hsp
    simp only [spl] at hsp
    repeat' (first | refine c_seq ?_ | refine c_region ?_ | refine c_nil ?_ | refine k_then ?_ | refine k_thenL ?_ | refine k_thenR ?_ | refine k_thenE ?_ | refine k_inN ?_ | refine k_inR ?_ | refine k_inE ?_ | refine k_inO rfl ?_ | refine c_skip ?_ | refine c_ret ?_ | refine c_exit ?_ | refine c_block ?_ | refine r_succ ?_ | refine c_condT h rfl ?_ | refine c_condF h rfl ?_ | ((first | refine st_op rfl rfl h ?_ | refine st_opn rfl h ?_); clear h a; (first | ((refine does_strLo (i := f) Tryd.underlying9 rfl rfl hf ?_)) | (show Does _ (.call _) _ _ _ _; (first | ((refine does_appX 1 (n := out.length) (news := eT (s.extract f s.size)) hm rfl rfl rfl (by omega) hfl rfl (.inr ⟨_, rfl, at_own (i := 0) hm rfl (fun j v hv => (by rw [Nat.zero_add]; exact hv))⟩) (oneCells_mem rfl) (by omega) (by simp only [maxLen]; omega) ?_; clear hm; intro p8 c8 w hc8 hc9 hm; simp only [List.set_cons_zero, List.set_cons_succ] at hm)) | refine does_lenStr (StrT.out) rfl ?_)) | (show Does _ (.buildSlice _ _ _) _ _ _ _; (refine does_buildSlice hm rfl rfl rfl ?_; clear hm; intro b w hm; (try simp only [rep, List.replicate_succ, List.replicate_zero, List.flatten_cons, List.flatten_nil, List.cons_append, List.nil_append, Nat.zero_mul, Nat.one_mul, Nat.reduceMul, Value.cells, List.toList_toArray, List.set_cons_zero, List.set_cons_succ, splice, Nat.zero_add, Nat.reduceAdd, Nat.reduceMul, Int.reduceAdd, Int.reduceToNat, Nat.zero_mul, Nat.one_mul, Int.toNat_natCast] at hm))) | (show Does _ (.move _) _ _ _ _; refine does_move rfl ?_) | (show Does _ (.assign _) _ _ _ _; refine does_assign rfl ?_) | (show Does _ (.binOp _ _ _ _ _) _ _ _ _; (first | refine does_lssT rfl rfl (by omega) ?_ | refine does_lssF rfl rfl (by omega) ?_ | refine does_lss rfl rfl ?_ | refine does_geqT rfl rfl (by omega) ?_ | refine does_geqF rfl rfl (by omega) ?_ | refine does_geq rfl rfl ?_ | refine does_add rfl rfl (by omega) ?_)) | (show Does _ (.index _ _ _) _ _ _ _; (first | refine does_indexVA (by omega) rfl rfl ?_ | refine does_indexV1 (by omega) rfl rfl rfl ?_)) | (show Does _ (.slice _ _ _ _ _) _ _ _ _; (first | refine does_sliceA rfl ?_ | refine does_sliceHi (by omega) rfl rfl ?_))); intro a h; (try simp only [Value.cells, List.toList_toArray, splice, List.set_cons_zero, List.set_cons_succ, List.drop_zero, List.drop_succ_cons, List.take_succ_cons, List.take_zero, Nat.zero_add, Nat.reduceAdd, Nat.reduceMul, Int.reduceAdd, Int.reduceToNat, Int.reduceTMod, Nat.zero_mul, Nat.one_mul, Int.toNat_natCast] at h)) | ((first | refine st_skip rfl rfl h ?_ | refine st_skipn rfl h ?_); clear h a; intro a h) | ((first | refine c_condD h rfl ?_ ?_ | refine c_cond h rfl ?_ ?_) <;> intro hc <;> (try (first | exact absurd trivial hc | exact absurd rfl hc))) | (refine st_guardD rfl rfl h ?_ ?_ <;> clear h <;> intro hc h))
    rw [ext_bs, spl_row, hsp] at hm
    exact k_ret1 rfl h rfl ⟨hm.below, row_new (i := 1) hm rfl⟩
end Go.Proofs.YthilfmmoeigeoaaDoor.St
