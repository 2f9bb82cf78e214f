/-
  Textures as texts: both sides.
-/
import Derived.Test.YtgmonjghbjaadaaGreatDoorJ10
import Derived.Test.YtgmonjghbjaadaaGreatDoorLTes
import Derived.Test.YtgmonjghbjaadaaGreatDoorJ12
set_option linter.unusedSimpArgs false
set_option linter.unusedVariables false
namespace Go.Proofs.YtgmonjghbjaadaaGreatDoor.St
open Go.RowKit
theorem okTx_of {g : Int} {xs : List Int} (h : vTex g xs) : okTx xs := fun n hn => by
  obtain ⟨i, hi, rfl⟩ := List.mem_iff_getElem.1 hn
  have := h.2 i hi
  rw [List.getD_eq_getElem?_getD, List.getElem?_eq_getElem hi, Option.getD_some] at this
  omega
theorem vTex_g {g : Int} {xs : List Int} (h : vTex g xs) : 0 ≤ g ∧ g ≤ 4 := by
  have := h.1
  omega
open Classical in
noncomputable def fTx (g : Int) (xs : List Int) : ByteArray := if vTex g xs then iTx g ++ ⟨#[58]⟩ ++ bs (lTx xs) else ⟨#[]⟩
theorem lTx_bd {l : List Int} (h : okTx l) : (lTx l).length ≤ 12 * l.length + 1 := by
  unfold lTx
  split
  · simp
  · have := join_bd h
    omega
set_option maxHeartbeats 8000000 in
theorem implFormatTexture_ok (g : Int) (xs : List Int) (p : Option Addr) (c : Nat) (hxs : xs.length ≤ 1048576) : FunP Tryz.prog 26 [.agg #[I g, .slice p xs.length c]] (fun H => Sl H p eI 1 xs ∧ TabH H) (.string (fTx g xs)) := by
  refine enterFunP Tryz.func26 rfl Tryz.ntmps26 rfl (fun W0 w a hp hm h => ?_)
  obtain ⟨hx, hT⟩ := hp
  repeat' (first | refine c_seq ?_ | refine c_region ?_ | refine c_nil ?_ | refine k_then ?_ | refine k_thenR ?_ | refine c_skip ?_ | refine c_ret ?_ | (refine st_op (d := 1) rfl rfl h ?_; refine does_box hm rfl rfl ?_; clear h a hm; intro b_1 w hm a h; (try simp only [Value.cells, List.toList_toArray, splice, List.set_cons_zero, List.set_cons_succ, List.drop_zero, List.drop_succ_cons, List.take_succ_cons, List.take_zero, Nat.zero_add, Nat.reduceAdd, Nat.reduceMul, Int.reduceAdd, Int.reduceToNat, Int.reduceTMod, Nat.zero_mul, Nat.one_mul, Int.toNat_natCast] at h)) | ((refine st_op rfl rfl h ?_); clear h a; (first | (show Does _ (.call _) _ _ _ _; (refine does_funP2 hm en52 rfl (by repeat' (exact Sl.up (by assumption) hm)) (isValidTexture_ok _ _ _ _ (by omega)) ?_; clear hm; intro w hm)) | (show Does _ (.assign _) _ _ _ _; refine does_assign rfl ?_) | (show Does _ (.load _ _) _ _ _ _; (refine does_loadOA 0 hm rfl rfl rfl ?_)) | (show Does _ (.unOp _ _ _) _ _ _ _; (refine does_notD rfl ?_))); intro a h; (try simp only [Value.cells, List.toList_toArray, splice, List.set_cons_zero, List.set_cons_succ, List.drop_zero, List.drop_succ_cons, List.take_succ_cons, List.take_zero, Nat.zero_add, Nat.reduceAdd, Nat.reduceMul, Int.reduceAdd, Int.reduceToNat, Int.reduceTMod, Nat.zero_mul, Nat.one_mul, Int.toNat_natCast] at h)) | ((refine c_condD h rfl ?_ ?_) <;> intro hc <;> (try (fail))))
  · (refine k_ret1 rfl h rfl ⟨?_, hm.below⟩)
    rw [fTx, if_neg hc]
  · have hv := Classical.not_not.1 hc
    have hok := okTx_of hv
    have hg := vTex_g hv
    have hs1 := iTx_size (n := g) (by omega)
    have hs2 := lTx_bd hok
    have hz1 : (iTx g).size = _ := bs_size (Lib.itoa g)
    have hz2 : (bs (lTx xs)).size = _ := bs_size (lTx xs)
    have hz3 : (⟨#[58]⟩ : ByteArray).size = 1 := rfl
    have hz4 := ByteArray.size_append (a := iTx g) (b := ⟨#[58]⟩)
    refine hw_region ([.blk b_1 (.cells [I g, .slice p xs.length c].toArray 34)]) mixed hm ?_; clear hm; intro w hm
    refine hw_take 0 rfl (by kernel_rfl) (by kernel_rfl) (by kernel_rfl) rfl rfl rfl h (hm.sub (by repeat' (exact List.Sublist.refl _))) (fun w hm => by (refine does_fieldAddrL rfl ?_) <;> exact ⟨rfl, rfl⟩) ?_; clear h a; intro a h; (try simp only [Value.cells, List.toList_toArray, splice, List.set_cons_zero, List.set_cons_succ, List.drop_zero, List.drop_succ_cons, List.take_succ_cons, List.take_zero, Nat.zero_add, Nat.reduceAdd, Nat.reduceMul, Int.reduceAdd, Int.reduceToNat, Int.reduceTMod, Nat.zero_mul, Nat.one_mul, Int.toNat_natCast] at h)
    refine hw_take 1 rfl (by kernel_rfl) (by kernel_rfl) (by kernel_rfl) rfl rfl rfl h (hm.sub (by repeat' (exact List.Sublist.refl _))) (fun w hm => by (refine does_loadO 0 hm rfl rfl rfl ?_) <;> exact ⟨rfl, rfl⟩) ?_; clear h a; intro a h; (try simp only [Value.cells, List.toList_toArray, splice, List.set_cons_zero, List.set_cons_succ, List.drop_zero, List.drop_succ_cons, List.take_succ_cons, List.take_zero, Nat.zero_add, Nat.reduceAdd, Nat.reduceMul, Int.reduceAdd, Int.reduceToNat, Int.reduceTMod, Nat.zero_mul, Nat.one_mul, Int.toNat_natCast] at h)
    refine hw_take 4 rfl (by kernel_rfl) (by kernel_rfl) (by kernel_rfl) rfl rfl rfl h (hm.sub (by repeat' (exact List.Sublist.refl _))) (fun w hm => by (refine does_fieldAddrL rfl ?_) <;> exact ⟨rfl, rfl⟩) ?_; clear h a; intro a h; (try simp only [Value.cells, List.toList_toArray, splice, List.set_cons_zero, List.set_cons_succ, List.drop_zero, List.drop_succ_cons, List.take_succ_cons, List.take_zero, Nat.zero_add, Nat.reduceAdd, Nat.reduceMul, Int.reduceAdd, Int.reduceToNat, Int.reduceTMod, Nat.zero_mul, Nat.one_mul, Int.toNat_natCast] at h)
    refine hw_take 5 rfl (by kernel_rfl) (by kernel_rfl) (by kernel_rfl) rfl rfl rfl h (hm.sub (by repeat' (exact List.Sublist.refl _))) (fun w hm => by (refine does_loadO 0 hm rfl rfl rfl ?_) <;> exact ⟨rfl, rfl⟩) ?_; clear h a; intro a h; (try simp only [Value.cells, List.toList_toArray, splice, List.set_cons_zero, List.set_cons_succ, List.drop_zero, List.drop_succ_cons, List.take_succ_cons, List.take_zero, Nat.zero_add, Nat.reduceAdd, Nat.reduceMul, Int.reduceAdd, Int.reduceToNat, Int.reduceTMod, Nat.zero_mul, Nat.one_mul, Int.toNat_natCast] at h)
    refine hw1 2 (by decide +kernel) ?_
    (refine ho_op rfl rfl rfl h ?_); clear h a; ((refine does_funP hm en27 rfl (iFormatInt_ok g (by omega)) (hT.mono hm.base) ?_; clear hm; intro w hm)); intro a h; (try simp only [Value.cells, List.toList_toArray, splice, List.set_cons_zero, List.set_cons_succ, List.drop_zero, List.drop_succ_cons, List.take_succ_cons, List.take_zero, Nat.zero_add, Nat.reduceAdd, Nat.reduceMul, Int.reduceAdd, Int.reduceToNat, Int.reduceTMod, Nat.zero_mul, Nat.one_mul, Int.toNat_natCast] at h); refine ⟨hm.sub (by repeat' (exact List.Sublist.refl _)), ?_⟩
    refine hw_take 3 rfl (by kernel_rfl) (by kernel_rfl) (by kernel_rfl) rfl rfl rfl h (hm.sub (by repeat' (exact List.Sublist.refl _))) (fun w hm => by ((refine does_addStr rfl rfl (by omega) ?_)) <;> exact ⟨rfl, rfl⟩) ?_; clear h a; intro a h; (try simp only [Value.cells, List.toList_toArray, splice, List.set_cons_zero, List.set_cons_succ, List.drop_zero, List.drop_succ_cons, List.take_succ_cons, List.take_zero, Nat.zero_add, Nat.reduceAdd, Nat.reduceMul, Int.reduceAdd, Int.reduceToNat, Int.reduceTMod, Nat.zero_mul, Nat.one_mul, Int.toNat_natCast] at h)
    refine hw1 6 (by decide +kernel) ?_
    (refine ho_op rfl rfl rfl h ?_); clear h a; ((refine does_funP hm en57 rfl (iFormatInts_ok xs _ _ hxs hok) ⟨hx.up hm, hT.mono hm.base⟩ ?_; clear hm; intro w hm)); intro a h; (try simp only [Value.cells, List.toList_toArray, splice, List.set_cons_zero, List.set_cons_succ, List.drop_zero, List.drop_succ_cons, List.take_succ_cons, List.take_zero, Nat.zero_add, Nat.reduceAdd, Nat.reduceMul, Int.reduceAdd, Int.reduceToNat, Int.reduceTMod, Nat.zero_mul, Nat.one_mul, Int.toNat_natCast] at h); refine ⟨hm.sub (by repeat' (exact List.Sublist.refl _)), ?_⟩
    refine hw_take 7 rfl (by kernel_rfl) (by kernel_rfl) (by kernel_rfl) rfl rfl rfl h (hm.sub (by repeat' (exact List.Sublist.refl _))) (fun w hm => by ((refine does_addStr rfl rfl (by omega) ?_)) <;> exact ⟨rfl, rfl⟩) ?_; clear h a; intro a h; (try simp only [Value.cells, List.toList_toArray, splice, List.set_cons_zero, List.set_cons_succ, List.drop_zero, List.drop_succ_cons, List.take_succ_cons, List.take_zero, Nat.zero_add, Nat.reduceAdd, Nat.reduceMul, Int.reduceAdd, Int.reduceToNat, Int.reduceTMod, Nat.zero_mul, Nat.one_mul, Int.toNat_natCast] at h)
    refine hw_take 8 rfl (by kernel_rfl) (by kernel_rfl) (by kernel_rfl) rfl rfl rfl h (hm.sub (by repeat' (exact List.Sublist.refl _))) (fun w hm => by refine does_assign rfl ?_ <;> exact ⟨rfl, rfl⟩) ?_; clear h a; intro a h; (try simp only [Value.cells, List.toList_toArray, splice, List.set_cons_zero, List.set_cons_succ, List.drop_zero, List.drop_succ_cons, List.take_succ_cons, List.take_zero, Nat.zero_add, Nat.reduceAdd, Nat.reduceMul, Int.reduceAdd, Int.reduceToNat, Int.reduceTMod, Nat.zero_mul, Nat.one_mul, Int.toNat_natCast] at h)
    refine hw0 (by decide +kernel) ?_
    skip
    repeat' (first | refine k_then ?_ | refine c_ret ?_)
    (refine k_ret1 rfl h rfl ⟨?_, hm.below⟩)
    rw [fTx, if_pos hv]
set_option maxHeartbeats 8000000 in
theorem specFormatTexture_ok (g : Int) (xs : List Int) (p : Option Addr) (c : Nat) (hxs : xs.length ≤ 1048576) : FunP Tryz.prog 14 [.agg #[I g, .slice p xs.length c]] (fun H => Sl H p eI 1 xs ∧ TabH H) (.string (fTx g xs)) := by
  refine enterFunP Tryz.func14 rfl Tryz.ntmps14 rfl (fun W0 w a hp hm h => ?_)
  obtain ⟨hx, hT⟩ := hp
  repeat' (first | refine c_seq ?_ | refine c_region ?_ | refine c_nil ?_ | refine k_then ?_ | refine k_thenR ?_ | refine c_skip ?_ | refine c_ret ?_ | (refine st_op (d := 1) rfl rfl h ?_; refine does_box hm rfl rfl ?_; clear h a hm; intro b_1 w hm a h; (try simp only [Value.cells, List.toList_toArray, splice, List.set_cons_zero, List.set_cons_succ, List.drop_zero, List.drop_succ_cons, List.take_succ_cons, List.take_zero, Nat.zero_add, Nat.reduceAdd, Nat.reduceMul, Int.reduceAdd, Int.reduceToNat, Int.reduceTMod, Nat.zero_mul, Nat.one_mul, Int.toNat_natCast] at h)) | ((refine st_op rfl rfl h ?_); clear h a; (first | (show Does _ (.call _) _ _ _ _; (refine does_funP2 hm en41 rfl (by repeat' (exact Sl.up (by assumption) hm)) (sIsValidTexture_ok _ _ _ _ (by omega)) ?_; clear hm; intro w hm)) | (show Does _ (.assign _) _ _ _ _; refine does_assign rfl ?_) | (show Does _ (.load _ _) _ _ _ _; (refine does_loadOA 0 hm rfl rfl rfl ?_)) | (show Does _ (.unOp _ _ _) _ _ _ _; (refine does_notD rfl ?_))); intro a h; (try simp only [Value.cells, List.toList_toArray, splice, List.set_cons_zero, List.set_cons_succ, List.drop_zero, List.drop_succ_cons, List.take_succ_cons, List.take_zero, Nat.zero_add, Nat.reduceAdd, Nat.reduceMul, Int.reduceAdd, Int.reduceToNat, Int.reduceTMod, Nat.zero_mul, Nat.one_mul, Int.toNat_natCast] at h)) | ((refine c_condD h rfl ?_ ?_) <;> intro hc <;> (try (fail))))
  · (refine k_ret1 rfl h rfl ⟨?_, hm.below⟩)
    rw [fTx, if_neg hc]
  · have hv := Classical.not_not.1 hc
    have hok := okTx_of hv
    have hg := vTex_g hv
    have hs1 := iTx_size (n := g) (by omega)
    have hs2 := lTx_bd hok
    have hz1 : (iTx g).size = _ := bs_size (Lib.itoa g)
    have hz2 : (bs (lTx xs)).size = _ := bs_size (lTx xs)
    have hz3 : (⟨#[58]⟩ : ByteArray).size = 1 := rfl
    have hz4 := ByteArray.size_append (a := iTx g) (b := ⟨#[58]⟩)
    refine hw_region ([.blk b_1 (.cells [I g, .slice p xs.length c].toArray 34)]) mixed hm ?_; clear hm; intro w hm
    refine hw_take 0 rfl (by kernel_rfl) (by kernel_rfl) (by kernel_rfl) rfl rfl rfl h (hm.sub (by repeat' (exact List.Sublist.refl _))) (fun w hm => by (refine does_fieldAddrL rfl ?_) <;> exact ⟨rfl, rfl⟩) ?_; clear h a; intro a h; (try simp only [Value.cells, List.toList_toArray, splice, List.set_cons_zero, List.set_cons_succ, List.drop_zero, List.drop_succ_cons, List.take_succ_cons, List.take_zero, Nat.zero_add, Nat.reduceAdd, Nat.reduceMul, Int.reduceAdd, Int.reduceToNat, Int.reduceTMod, Nat.zero_mul, Nat.one_mul, Int.toNat_natCast] at h)
    refine hw_take 1 rfl (by kernel_rfl) (by kernel_rfl) (by kernel_rfl) rfl rfl rfl h (hm.sub (by repeat' (exact List.Sublist.refl _))) (fun w hm => by (refine does_loadO 0 hm rfl rfl rfl ?_) <;> exact ⟨rfl, rfl⟩) ?_; clear h a; intro a h; (try simp only [Value.cells, List.toList_toArray, splice, List.set_cons_zero, List.set_cons_succ, List.drop_zero, List.drop_succ_cons, List.take_succ_cons, List.take_zero, Nat.zero_add, Nat.reduceAdd, Nat.reduceMul, Int.reduceAdd, Int.reduceToNat, Int.reduceTMod, Nat.zero_mul, Nat.one_mul, Int.toNat_natCast] at h)
    refine hw_take 4 rfl (by kernel_rfl) (by kernel_rfl) (by kernel_rfl) rfl rfl rfl h (hm.sub (by repeat' (exact List.Sublist.refl _))) (fun w hm => by (refine does_fieldAddrL rfl ?_) <;> exact ⟨rfl, rfl⟩) ?_; clear h a; intro a h; (try simp only [Value.cells, List.toList_toArray, splice, List.set_cons_zero, List.set_cons_succ, List.drop_zero, List.drop_succ_cons, List.take_succ_cons, List.take_zero, Nat.zero_add, Nat.reduceAdd, Nat.reduceMul, Int.reduceAdd, Int.reduceToNat, Int.reduceTMod, Nat.zero_mul, Nat.one_mul, Int.toNat_natCast] at h)
    refine hw_take 5 rfl (by kernel_rfl) (by kernel_rfl) (by kernel_rfl) rfl rfl rfl h (hm.sub (by repeat' (exact List.Sublist.refl _))) (fun w hm => by (refine does_loadO 0 hm rfl rfl rfl ?_) <;> exact ⟨rfl, rfl⟩) ?_; clear h a; intro a h; (try simp only [Value.cells, List.toList_toArray, splice, List.set_cons_zero, List.set_cons_succ, List.drop_zero, List.drop_succ_cons, List.take_succ_cons, List.take_zero, Nat.zero_add, Nat.reduceAdd, Nat.reduceMul, Int.reduceAdd, Int.reduceToNat, Int.reduceTMod, Nat.zero_mul, Nat.one_mul, Int.toNat_natCast] at h)
    refine hw1 2 (by decide +kernel) ?_
    (refine ho_op rfl rfl rfl h ?_); clear h a; ((refine does_funM hm en15 rfl (sFormatInt_ok g (by omega)) ?_; clear hm; intro w hm)); intro a h; (try simp only [Value.cells, List.toList_toArray, splice, List.set_cons_zero, List.set_cons_succ, List.drop_zero, List.drop_succ_cons, List.take_succ_cons, List.take_zero, Nat.zero_add, Nat.reduceAdd, Nat.reduceMul, Int.reduceAdd, Int.reduceToNat, Int.reduceTMod, Nat.zero_mul, Nat.one_mul, Int.toNat_natCast] at h); refine ⟨hm.sub (by repeat' (exact List.Sublist.refl _)), ?_⟩
    refine hw_take 3 rfl (by kernel_rfl) (by kernel_rfl) (by kernel_rfl) rfl rfl rfl h (hm.sub (by repeat' (exact List.Sublist.refl _))) (fun w hm => by ((refine does_addStr rfl rfl (by omega) ?_)) <;> exact ⟨rfl, rfl⟩) ?_; clear h a; intro a h; (try simp only [Value.cells, List.toList_toArray, splice, List.set_cons_zero, List.set_cons_succ, List.drop_zero, List.drop_succ_cons, List.take_succ_cons, List.take_zero, Nat.zero_add, Nat.reduceAdd, Nat.reduceMul, Int.reduceAdd, Int.reduceToNat, Int.reduceTMod, Nat.zero_mul, Nat.one_mul, Int.toNat_natCast] at h)
    refine hw1 6 (by decide +kernel) ?_
    (refine ho_op rfl rfl rfl h ?_); clear h a; ((refine does_funP hm en43 rfl (sFormatInts_ok xs _ _ hxs hok) (hx.up hm) ?_; clear hm; intro w hm)); intro a h; (try simp only [Value.cells, List.toList_toArray, splice, List.set_cons_zero, List.set_cons_succ, List.drop_zero, List.drop_succ_cons, List.take_succ_cons, List.take_zero, Nat.zero_add, Nat.reduceAdd, Nat.reduceMul, Int.reduceAdd, Int.reduceToNat, Int.reduceTMod, Nat.zero_mul, Nat.one_mul, Int.toNat_natCast] at h); refine ⟨hm.sub (by repeat' (exact List.Sublist.refl _)), ?_⟩
    refine hw_take 7 rfl (by kernel_rfl) (by kernel_rfl) (by kernel_rfl) rfl rfl rfl h (hm.sub (by repeat' (exact List.Sublist.refl _))) (fun w hm => by ((refine does_addStr rfl rfl (by omega) ?_)) <;> exact ⟨rfl, rfl⟩) ?_; clear h a; intro a h; (try simp only [Value.cells, List.toList_toArray, splice, List.set_cons_zero, List.set_cons_succ, List.drop_zero, List.drop_succ_cons, List.take_succ_cons, List.take_zero, Nat.zero_add, Nat.reduceAdd, Nat.reduceMul, Int.reduceAdd, Int.reduceToNat, Int.reduceTMod, Nat.zero_mul, Nat.one_mul, Int.toNat_natCast] at h)
    refine hw_take 8 rfl (by kernel_rfl) (by kernel_rfl) (by kernel_rfl) rfl rfl rfl h (hm.sub (by repeat' (exact List.Sublist.refl _))) (fun w hm => by refine does_assign rfl ?_ <;> exact ⟨rfl, rfl⟩) ?_; clear h a; intro a h; (try simp only [Value.cells, List.toList_toArray, splice, List.set_cons_zero, List.set_cons_succ, List.drop_zero, List.drop_succ_cons, List.take_succ_cons, List.take_zero, Nat.zero_add, Nat.reduceAdd, Nat.reduceMul, Int.reduceAdd, Int.reduceToNat, Int.reduceTMod, Nat.zero_mul, Nat.one_mul, Int.toNat_natCast] at h)
    refine hw0 (by decide +kernel) ?_
    skip
    repeat' (first | refine k_then ?_ | refine c_ret ?_)
    (refine k_ret1 rfl h rfl ⟨?_, hm.below⟩)
    rw [fTx, if_pos hv]
end Go.Proofs.YtgmonjghbjaadaaGreatDoor.St
