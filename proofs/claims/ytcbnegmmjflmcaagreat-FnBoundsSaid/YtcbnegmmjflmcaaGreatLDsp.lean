/-
  A patch, diced.
-/
import Derived.Test.YtcbnegmmjflmcaaGreatLDcl
import Derived.Test.YtcbnegmmjflmcaaGreatJ7
import Derived.Test.YtcbnegmmjflmcaaGreatLCur
import Derived.Test.YtcbnegmmjflmcaaGreatJ4
set_option linter.unusedSimpArgs false
set_option linter.unusedVariables false
namespace Go.Proofs.YtcbnegmmjflmcaaGreat.St.G
open Go.RowKit
set_option maxHeartbeats 4000000 in
theorem isSub1_ok : Fun Tryz.prog 40 [.agg #[I 0, I 0, I 1]] (.bool true) := by
  have hb : bits .and .i64 1 (1 - 1) = 0 := by decide +kernel
  refine enterFun Tryz.func40 rfl Tryz.ntmps40 rfl (fun W0 w a hm h => ?_)
  repeat' (first | refine c_seq ?_ | refine c_region ?_ | refine c_nil ?_ | refine k_then ?_ | refine c_ret ?_ | (refine st_op (d := 1) rfl rfl h ?_; refine does_box hm rfl rfl ?_; clear h a hm; intro b_1 w hm a h) | ((refine st_op rfl rfl h ?_); clear h a; (first | (show Does _ (.call _) _ _ _ _; ((refine does_funM hm en30 rfl ((within_ok _ _ _).yes (by omega)) ?_; clear hm; intro w hm))) | (show Does _ (.binOp _ _ _ _ _) _ _ _ _; (first | (refine does_and rfl rfl ?_) | refine does_eqlT rfl rfl (by omega) ?_ | refine does_sub rfl rfl (by omega) ?_)) | (show Does _ (.move _) _ _ _ _; refine does_move rfl ?_) | (show Does _ (.assign _) _ _ _ _; refine does_assign rfl ?_) | (show Does _ (.pick _ _ _) _ _ _ _; (refine does_pickT rfl rfl ?_)) | (show Does _ (.fieldAddr _ _ _) _ _ _ _; (refine does_fieldAddrL rfl ?_)) | (show Does _ (.load _ _) _ _ _ _; (refine does_loadO 0 hm rfl rfl rfl ?_))); intro a h; (first | simp only [Value.cells, splice, nqq, Nat.reduceAdd, Nat.reduceMul, Int.reduceAdd, Int.reduceToNat, Int.reduceTMod] at h | skip)))
  exact k_ret1 rfl h rfl ⟨rfl, hm.below⟩
end Go.Proofs.YtcbnegmmjflmcaaGreat.St.G
namespace Go.Proofs.YtcbnegmmjflmcaaGreat.St.Rnd
open Go.RowKit
theorem diceCell_int (D : DPar) (hD : DOk D) (u v : Int) (hu : 0 ≤ u ∧ u < D.nn) (hv : 0 ≤ v ∧ v < D.nn) :
    FunG Tryz.prog 42 [.agg D.camC.toArray, .agg D.patC.toArray, I u, I v, I D.nn, I D.sx, I D.sy] (fun _ => True) (micR D 2) := by
  obtain ⟨i, rfl⟩ := Int.eq_ofNat_of_zero_le hu.1
  obtain ⟨j, rfl⟩ := Int.eq_ofNat_of_zero_le hv.1
  exact diceCell_ok D hD i j hu.2 hv.2
set_option maxHeartbeats 16000000 in
theorem diceSub_ok (D : DPar) (hD : DOk D) (n : Nat) (hnn : D.nn = n) :
    FunG Tryz.prog 21 [.agg D.camC.toArray, .agg D.patC.toArray, .agg #[I 0, I 0, I 1], I D.nn, I D.sx, I D.sy] (fun _ => True) (micR D 128) := by
  have hn := hD.nn
  have hrm : Int.tmod D.nn 1 = 0 := Int.tmod_one _
  have hqu : Int.tdiv D.nn 1 = n := by rw [Int.tdiv_one, hnn]
  refine enterFunG Tryz.func21 rfl Tryz.ntmps21 rfl (fun W0 w a _ hm h => ?_)
  repeat' (first | refine c_seq ?_ | refine c_region ?_ | refine c_nil ?_ | refine k_then ?_ | refine c_skip ?_ | refine c_condF h rfl ?_ | (refine st_op (d := 6) rfl rfl h ?_; refine does_box hm rfl rfl ?_; clear h a hm; intro b_6 w hm a h) | (refine st_op (d := 7) rfl rfl h ?_; refine does_box hm rfl rfl ?_; clear h a hm; intro b_7 w hm a h) | (refine st_op (d := 8) rfl rfl h ?_; refine does_box hm rfl rfl ?_; clear h a hm; intro b_8 w hm a h) | (refine st_op (d := 9) rfl rfl h ?_; refine does_box hm rfl rfl ?_; clear h a hm; intro b_9 w hm a h) | (refine st_op (d := 10) rfl rfl h ?_; refine does_box hm rfl rfl ?_; clear h a hm; intro b_10 w hm a h) | (refine st_op (d := 11) rfl rfl h ?_; refine does_box hm rfl rfl ?_; clear h a hm; intro b_11 w hm a h) | (refine st_op (d := 13) rfl rfl h ?_; refine does_alloc hm ?_; clear h a hm; intro b_13 w hm a h) | (refine st_op (d := 14) rfl rfl h ?_; refine does_alloc hm ?_; clear h a hm; intro b_14 w hm a h) | ((first | refine st_op rfl rfl h ?_ | refine st_opn rfl h ?_); clear h a; (first | (show Does _ (.call _) _ _ _ _; (first | ((refine does_funM hm en30 rfl ((within_ok _ _ _).yes (by omega)) ?_; clear hm; intro w hm)) | ((refine does_funM hm en40 rfl G.isSub1_ok ?_; clear hm; intro w hm)))) | (show Does _ (.buildSlice _ _ _) _ _ _ _; (((refine does_buildSlice (n := 0) hm rfl rfl rfl ?_; clear hm; intro bz w hm; replace hm := hm.toRow 0 (n := 0) (cap := 0) 12 rfl rfl (Nat.zero_le _); simp only [List.set_cons_zero, rep, List.replicate_zero, List.flatten_nil] at hm)))) | (show Does _ (.store _ _ _) _ _ _ _; (first | (refine does_storeO 0 hm rfl rfl rfl rfl rfl rfl rfl ?_; clear hm; intro w hm; (simp only [Value.cells, splice, nqq, Nat.reduceAdd, Nat.reduceMul, Int.reduceAdd, Int.reduceToNat] at hm)) | (refine does_storeO 1 hm rfl rfl rfl rfl rfl rfl rfl ?_; clear hm; intro w hm; (simp only [Value.cells, splice, nqq, Nat.reduceAdd, Nat.reduceMul, Int.reduceAdd, Int.reduceToNat] at hm)))) | (show Does _ (.move _) _ _ _ _; refine does_move rfl ?_) | (show Does _ (.assign _) _ _ _ _; refine does_assign rfl ?_) | (show Does _ (.pick _ _ _) _ _ _ _; (refine does_pickF rfl rfl ?_)) | (show Does _ (.fieldAddr _ _ _) _ _ _ _; (refine does_fieldAddrL rfl ?_)) | (show Does _ (.load _ _) _ _ _ _; (first | refine does_loadO 1 hm rfl rfl rfl ?_ | refine does_loadO 2 hm rfl rfl rfl ?_ | refine does_loadO 3 hm rfl rfl rfl ?_ | refine does_loadOA 3 hm rfl rfl rfl ?_)) | (show Does _ (.binOp _ _ _ _ _) _ _ _ _; (first | refine does_neqF rfl rfl (by omega) ?_ | refine does_rem rfl rfl (by omega) ?_ | refine does_quo rfl rfl (by omega) ?_)) | (show Does _ (.unOp _ _ _) _ _ _ _; (refine does_not rfl ?_))); intro a h; (first | simp only [Value.cells, splice, nqq, Nat.reduceAdd, Nat.reduceMul, Int.reduceAdd, Int.reduceToNat, Int.reduceTMod] at h | skip)))
  simp only [hqu] at h hm
  refine st_op rfl rfl h ?_; clear h a; refine does_funG hm en41 rfl (cells_ok n) trivial ?_; clear hm; rintro v1 L1 w ⟨bn, rfl, rfl⟩ hm a h
  simp only [List.cons_append, List.nil_append] at hm
  replace hm := hm.pull3
  repeat' (first | refine c_nil ?_ | refine k_then ?_ | refine c_block ?_)
  replace h := h.keep (E' := [(6, .pointer (some ⟨b_6, 0, none⟩)), (7, .pointer (some ⟨b_7, 0, none⟩)), (8, .pointer (some ⟨b_8, 0, none⟩)), (9, .pointer (some ⟨b_9, 0, none⟩)), (10, .pointer (some ⟨b_10, 0, none⟩)), (11, .pointer (some ⟨b_11, 0, none⟩)), (13, .pointer (some ⟨b_13, 0, none⟩)), (14, .pointer (some ⟨b_14, 0, none⟩)), (38, .func (.func 59) #[] #[.pointer (some ⟨bn, 0, none⟩)])]) ⟨rfl, rfl, rfl, rfl, rfl, rfl, rfl, rfl, rfl, trivial⟩
  have hn8 : n ≤ 8 := by omega
  have hn64 : n * n ≤ 64 := Nat.mul_le_mul hn8 hn8
  refine c_rangeFunc h hm rfl en59 (cells1_iter n bn (by omega)) (fun _ => rfl) rfl (fun k => [(16, I ((k / n : Nat) : Int)), (15, I ((k % n : Nat) : Int)), (6, .pointer (some ⟨b_6, 0, none⟩)), (7, .pointer (some ⟨b_7, 0, none⟩)), (8, .pointer (some ⟨b_8, 0, none⟩)), (9, .pointer (some ⟨b_9, 0, none⟩)), (10, .pointer (some ⟨b_10, 0, none⟩)), (11, .pointer (some ⟨b_11, 0, none⟩)), (13, .pointer (some ⟨b_13, 0, none⟩)), (14, .pointer (some ⟨b_14, 0, none⟩))]) (fun k Lk => ∃ (pp : Option Addr) (c : Nat) (ms : List TMic), (ms.length ≤ 2 * k ∧ (ms.length ≤ c ∧ c ≤ maxLen) ∧ ∀ m ∈ ms, goodM D m) ∧ Lk = (.row (.slice pp ms.length c) 55 12 (ms.map eMic).flatten :: .blk bn (.cells [I n].toArray 3) :: .blk b_14 (.cells [.slice pp ms.length c].toArray 48) :: [.blk b_13 (.cells [I n].toArray 3), .blk b_11 (.cells [I D.sy].toArray 3), .blk b_10 (.cells [I D.sx].toArray 3), .blk b_9 (.cells [I D.nn].toArray 3), .blk b_8 (.cells [I 0, I 0, I 1].toArray 72), .blk b_7 (.cells D.patC.toArray 40), .blk b_6 (.cells D.camC.toArray 24)])) ⟨_, _, [], ⟨by simp, ⟨Nat.zero_le _, by simp only [maxLen]; omega⟩, by simp⟩, rfl⟩ ?_ ?_ ?_ ?_
  · rintro k Lk Y w ⟨pp, c, ms, _, rfl⟩ hm
    exact mem_idx (i := 1) hm rfl
  · intro lp k w a hk h
    repeat' (first | refine c_seq ?_ | refine c_region ?_ | refine c_nil ?_ | refine k_then ?_ | ((refine st_op rfl rfl h ?_); clear h a; ((show Does _ (.assign _) _ _ _ _; refine does_assign rfl ?_)); intro a h))
    exact ⟨rfl, rfl, rfl, h.keep ⟨rfl, rfl, rfl, rfl, rfl, rfl, rfl, rfl, rfl, rfl, trivial⟩⟩
  · clear h hm a w
    rintro lp Dd o k Lk w a hk ⟨pp, c, ms, ⟨hml, ⟨hc1, hc2⟩, hms⟩, rfl⟩ hm h
    simp only [List.cons_append, List.nil_append] at hm
    have hlt : k % n < n ∧ k / n < n := by
      have h0 : 0 < n := by omega
      exact ⟨Nat.mod_lt _ h0, Nat.div_lt_of_lt_mul hk⟩
    obtain ⟨i, hi⟩ : ∃ i, i = k % n := ⟨_, rfl⟩
    obtain ⟨j, hj⟩ : ∃ j, j = k / n := ⟨_, rfl⟩
    rw [← hi, ← hj] at h hlt
    clear hi hj
    have hfl := flat_len (enc := eMic) (sz := 12) (fun _ => rfl) ms
    have hk64 : k < 64 := by omega
    repeat' (refine c_block ?_)
    refine hw_region ([.blk b_13 (.cells [I n].toArray 3), .blk b_11 (.cells [I D.sy].toArray 3), .blk b_10 (.cells [I D.sx].toArray 3), .blk b_9 (.cells [I D.nn].toArray 3), .blk b_8 (.cells [I 0, I 0, I 1].toArray 72), .blk b_7 (.cells D.patC.toArray 40), .blk b_6 (.cells D.camC.toArray 24)]) mixed hm ?_ (by kernel_rfl); clear hm; intro w hm
    refine hw_take 1 rfl (by kernel_rfl) (by kernel_rfl) (by kernel_rfl) rfl rfl rfl h (hm.sub (by repeat' (first | refine slc ?_ | exact sln | refine sld ?_))) (fun w hm => by (refine does_loadOA 6 hm rfl rfl rfl ?_) <;> exact ⟨rfl, rfl⟩) ?_; clear h a; intro a h; (simp only [Value.cells, splice, nqq, Nat.reduceAdd, Nat.reduceMul, Int.reduceAdd, Int.reduceToNat, Int.reduceTMod] at h)
    refine hw_take 2 rfl (by kernel_rfl) (by kernel_rfl) (by kernel_rfl) rfl rfl rfl h (hm.sub (by repeat' (first | refine slc ?_ | exact sln | refine sld ?_))) (fun w hm => by (refine does_loadOA 5 hm rfl rfl rfl ?_) <;> exact ⟨rfl, rfl⟩) ?_; clear h a; intro a h; (simp only [Value.cells, splice, nqq, Nat.reduceAdd, Nat.reduceMul, Int.reduceAdd, Int.reduceToNat, Int.reduceTMod] at h)
    refine hw_take 3 rfl (by kernel_rfl) (by kernel_rfl) (by kernel_rfl) rfl rfl rfl h (hm.sub (by repeat' (first | refine slc ?_ | exact sln | refine sld ?_))) (fun w hm => by (refine does_fieldAddrL rfl ?_) <;> exact ⟨rfl, rfl⟩) ?_; clear h a; intro a h; (simp only [Value.cells, splice, nqq, Nat.reduceAdd, Nat.reduceMul, Int.reduceAdd, Int.reduceToNat, Int.reduceTMod] at h)
    refine hw_take 4 rfl (by kernel_rfl) (by kernel_rfl) (by kernel_rfl) rfl rfl rfl h (hm.sub (by repeat' (first | refine slc ?_ | exact sln | refine sld ?_))) (fun w hm => by (refine does_loadO 4 hm rfl rfl rfl ?_) <;> exact ⟨rfl, rfl⟩) ?_; clear h a; intro a h
    refine hw_take 5 rfl (by kernel_rfl) (by kernel_rfl) (by kernel_rfl) rfl rfl rfl h (hm.sub (by repeat' (first | refine slc ?_ | exact sln | refine sld ?_))) (fun w hm => by (refine does_loadO 0 hm rfl rfl rfl ?_) <;> exact ⟨rfl, rfl⟩) ?_; clear h a; intro a h
    refine hw_take 6 rfl (by kernel_rfl) (by kernel_rfl) (by kernel_rfl) rfl rfl rfl h (hm.sub (by repeat' (first | refine slc ?_ | exact sln | refine sld ?_))) (fun w hm => by (refine does_mul rfl rfl (mul_in (by omega) (by omega)) ?_) <;> exact ⟨rfl, rfl⟩) ?_; clear h a; intro a h
    refine hw_take 7 rfl (by kernel_rfl) (by kernel_rfl) (by kernel_rfl) rfl rfl rfl h (hm.sub (by repeat' (first | refine slc ?_ | exact sln | refine sld ?_))) (fun w hm => by (refine does_move rfl ?_) <;> exact ⟨rfl, rfl⟩) ?_; clear h a; intro a h
    refine hw_take 8 rfl (by kernel_rfl) (by kernel_rfl) (by kernel_rfl) rfl rfl rfl h (hm.sub (by repeat' (first | refine slc ?_ | exact sln | refine sld ?_))) (fun w hm => by (refine does_add rfl rfl (by omega) ?_) <;> exact ⟨rfl, rfl⟩) ?_; clear h a; intro a h
    refine hw_take 9 rfl (by kernel_rfl) (by kernel_rfl) (by kernel_rfl) rfl rfl rfl h (hm.sub (by repeat' (first | refine slc ?_ | exact sln | refine sld ?_))) (fun w hm => by (refine does_fieldAddrL rfl ?_) <;> exact ⟨rfl, rfl⟩) ?_; clear h a; intro a h; (simp only [Value.cells, splice, nqq, Nat.reduceAdd, Nat.reduceMul, Int.reduceAdd, Int.reduceToNat, Int.reduceTMod] at h)
    refine hw_take 10 rfl (by kernel_rfl) (by kernel_rfl) (by kernel_rfl) rfl rfl rfl h (hm.sub (by repeat' (first | refine slc ?_ | exact sln | refine sld ?_))) (fun w hm => by (refine does_loadO 4 hm rfl rfl rfl ?_) <;> exact ⟨rfl, rfl⟩) ?_; clear h a; intro a h
    refine hw_take 11 rfl (by kernel_rfl) (by kernel_rfl) (by kernel_rfl) rfl rfl rfl h (hm.sub (by repeat' (first | refine slc ?_ | exact sln | refine sld ?_))) (fun w hm => by (refine does_loadO 0 hm rfl rfl rfl ?_) <;> exact ⟨rfl, rfl⟩) ?_; clear h a; intro a h
    refine hw_take 12 rfl (by kernel_rfl) (by kernel_rfl) (by kernel_rfl) rfl rfl rfl h (hm.sub (by repeat' (first | refine slc ?_ | exact sln | refine sld ?_))) (fun w hm => by (refine does_mul rfl rfl (mul_in (by omega) (by omega)) ?_) <;> exact ⟨rfl, rfl⟩) ?_; clear h a; intro a h
    refine hw_take 13 rfl (by kernel_rfl) (by kernel_rfl) (by kernel_rfl) rfl rfl rfl h (hm.sub (by repeat' (first | refine slc ?_ | exact sln | refine sld ?_))) (fun w hm => by (refine does_move rfl ?_) <;> exact ⟨rfl, rfl⟩) ?_; clear h a; intro a h
    refine hw_take 14 rfl (by kernel_rfl) (by kernel_rfl) (by kernel_rfl) rfl rfl rfl h (hm.sub (by repeat' (first | refine slc ?_ | exact sln | refine sld ?_))) (fun w hm => by (refine does_add rfl rfl (by omega) ?_) <;> exact ⟨rfl, rfl⟩) ?_; clear h a; intro a h
    refine hw_take 15 rfl (by kernel_rfl) (by kernel_rfl) (by kernel_rfl) rfl rfl rfl h (hm.sub (by repeat' (first | refine slc ?_ | exact sln | refine sld ?_))) (fun w hm => by (refine does_loadO 3 hm rfl rfl rfl ?_) <;> exact ⟨rfl, rfl⟩) ?_; clear h a; intro a h
    refine hw_take 16 rfl (by kernel_rfl) (by kernel_rfl) (by kernel_rfl) rfl rfl rfl h (hm.sub (by repeat' (first | refine slc ?_ | exact sln | refine sld ?_))) (fun w hm => by (refine does_loadO 2 hm rfl rfl rfl ?_) <;> exact ⟨rfl, rfl⟩) ?_; clear h a; intro a h
    refine hw_take 17 rfl (by kernel_rfl) (by kernel_rfl) (by kernel_rfl) rfl rfl rfl h (hm.sub (by repeat' (first | refine slc ?_ | exact sln | refine sld ?_))) (fun w hm => by (refine does_loadO 1 hm rfl rfl rfl ?_) <;> exact ⟨rfl, rfl⟩) ?_; clear h a; intro a h
    refine hw2 0 18 (by decide +kernel) ?_ ?_
    · (refine ho_op rfl rfl rfl h ?_); clear h a; (refine does_loadO 2 hm rfl rfl rfl ?_); intro a h; refine ⟨hm.sub (by repeat' (first | refine slc ?_ | exact sln | refine sld ?_)), ?_⟩
      refine hw1 18 (by decide +kernel) ?_
      (refine ho_op rfl rfl rfl h ?_); clear h a; (((refine does_funG hm en42 rfl (diceCell_int D hD _ _ (by omega) (by omega)) trivial ?_; clear hm; rintro v1 L1 w ⟨pq, cq, mq, rfl, rfl, hmq, hgq⟩ hm; simp only [List.cons_append, List.nil_append] at hm))); intro a h; refine ⟨hm.sub (by repeat' (first | refine slc ?_ | exact sln | refine sld ?_)), ?_⟩
      refine hw1 19 (by decide +kernel) ?_
      (refine ho_op rfl rfl rfl h ?_); clear h a; ((have hq := Sl.allI (enc := eMic) (sz := 12) (fun _ => rfl) (by omega) (row_sl 0 hm rfl (fun _ => rfl) (by omega)); refine does_appX 1 (n := ms.length) (news := (mq.map eMic).flatten) hm rfl rfl rfl (by omega) hfl (flat_len (enc := eMic) (sz := 12) (fun _ => rfl) mq) hq (ones_flatI (fun _ => rfl) mq) (by omega) (by simp only [maxLen]; omega) ?_; clear hm hq; intro pp2 c2 w hc8 hc9 hm; simp only [List.set_cons_zero, List.set_cons_succ] at hm)); intro a h; refine ⟨hm.sub (by repeat' (first | refine slc ?_ | exact sln | refine sld ?_)), ?_⟩
      refine hw1 20 (by decide +kernel) ?_
      (refine ho_opn rfl rfl h ?_); clear h a; ((refine does_storeO 3 hm rfl rfl rfl rfl rfl rfl rfl ?_; clear hm; intro w hm; (simp only [Value.cells, splice, nqq, Nat.reduceAdd, Nat.reduceMul, Int.reduceAdd, Int.reduceToNat] at hm))); intro a h; refine ⟨hm.sub (by repeat' (first | refine slc ?_ | exact sln | refine sld ?_)), ?_⟩
      refine hw0 (by decide +kernel) ?_
      exact ⟨⟨rfl, rfl, _, ⟨pp2, c2, ms ++ mq, ⟨by (rw [List.length_append]; omega), ⟨by (rw [List.length_append]; omega), hc9⟩, fun x hx => by (rcases List.mem_append.1 hx with hx | hx; exact hms x hx; exact hgq x hx)⟩, rfl⟩, by (rw [List.length_append, List.map_append, List.flatten_append]; exact hm.drop)⟩⟩
    · (refine ho_op rfl rfl rfl h ?_); clear h a; (((refine does_funG hm en42 rfl (diceCell_int D hD _ _ (by omega) (by omega)) trivial ?_; clear hm; rintro v1 L1 w ⟨pq, cq, mq, rfl, rfl, hmq, hgq⟩ hm; simp only [List.cons_append, List.nil_append] at hm))); intro a h; refine ⟨hm.sub (by repeat' (first | refine slc ?_ | exact sln | refine sld ?_)), ?_⟩
      refine hw1 0 (by decide +kernel) ?_
      (refine ho_op rfl rfl rfl h ?_); clear h a; (refine does_loadO 3 hm rfl rfl rfl ?_); intro a h; refine ⟨hm.sub (by repeat' (first | refine slc ?_ | exact sln | refine sld ?_)), ?_⟩
      refine hw1 19 (by decide +kernel) ?_
      (refine ho_op rfl rfl rfl h ?_); clear h a; ((have hq := Sl.allI (enc := eMic) (sz := 12) (fun _ => rfl) (by omega) (row_sl 0 hm rfl (fun _ => rfl) (by omega)); refine does_appX 1 (n := ms.length) (news := (mq.map eMic).flatten) hm rfl rfl rfl (by omega) hfl (flat_len (enc := eMic) (sz := 12) (fun _ => rfl) mq) hq (ones_flatI (fun _ => rfl) mq) (by omega) (by simp only [maxLen]; omega) ?_; clear hm hq; intro pp2 c2 w hc8 hc9 hm; simp only [List.set_cons_zero, List.set_cons_succ] at hm)); intro a h; refine ⟨hm.sub (by repeat' (first | refine slc ?_ | exact sln | refine sld ?_)), ?_⟩
      refine hw1 20 (by decide +kernel) ?_
      (refine ho_opn rfl rfl h ?_); clear h a; ((refine does_storeO 3 hm rfl rfl rfl rfl rfl rfl rfl ?_; clear hm; intro w hm; (simp only [Value.cells, splice, nqq, Nat.reduceAdd, Nat.reduceMul, Int.reduceAdd, Int.reduceToNat] at hm))); intro a h; refine ⟨hm.sub (by repeat' (first | refine slc ?_ | exact sln | refine sld ?_)), ?_⟩
      refine hw0 (by decide +kernel) ?_
      exact ⟨⟨rfl, rfl, _, ⟨pp2, c2, ms ++ mq, ⟨by (rw [List.length_append]; omega), ⟨by (rw [List.length_append]; omega), hc9⟩, fun x hx => by (rcases List.mem_append.1 hx with hx | hx; exact hms x hx; exact hgq x hx)⟩, rfl⟩, by (rw [List.length_append, List.map_append, List.flatten_append]; exact hm.drop)⟩⟩
  · clear h hm a w
    rintro lp Dd o Lk w a ⟨pp, c, ms, ⟨hml, ⟨hc1, hc2⟩, hms⟩, rfl⟩ hm h
    simp only [List.cons_append, List.nil_append] at hm
    repeat' (first | refine c_seq ?_ | refine c_region ?_ | refine c_nil ?_ | refine k_then ?_ | refine k_inN ?_ | refine c_ret ?_ | ((refine st_op rfl rfl h ?_); clear h a; (first | (show Does _ (.assign _) _ _ _ _; refine does_assign rfl ?_) | (show Does _ (.load _ _) _ _ _ _; (refine does_loadO 2 hm rfl rfl rfl ?_))); intro a h))
    exact k_retM (i := 11) (vs := [_]) rfl h hm rfl (fun w hm => ⟨⟨rfl, trivial⟩, [.row (.slice pp ms.length c) 55 12 (ms.map eMic).flatten], ⟨pp, c, ms, rfl, rfl, by omega, hms⟩, hm.sub (by repeat' (first | exact sln | refine slc ?_))⟩)
end Go.Proofs.YtcbnegmmjflmcaaGreat.St.Rnd
namespace Go.Proofs.YtcbnegmmjflmcaaGreat.St
open Go.RowKit
set_option maxHeartbeats 8000000 in
theorem dicePatch_ok (D : DPar) (hD : DOk D) : FunG Tryz.prog 8 [.agg D.camC.toArray, .agg D.patC.toArray, I D.nn, I D.sx, I D.sy] (fun _ => True) (micR D 128) := by
  obtain ⟨n, hn⟩ := Int.eq_ofNat_of_zero_le (a := D.nn) (by have := hD.nn; omega)
  refine enterFunG Tryz.func8 rfl Tryz.ntmps8 rfl (fun W0 w a _ hm h => ?_)
  repeat' (first | refine c_seq ?_ | refine c_region ?_ | refine c_nil ?_ | refine k_then ?_ | refine c_ret ?_ | (refine st_op (d := 5) rfl rfl h ?_; refine does_box hm rfl rfl ?_; clear h a hm; intro b_5 w hm a h) | (refine st_op (d := 6) rfl rfl h ?_; refine does_box hm rfl rfl ?_; clear h a hm; intro b_6 w hm a h) | ((refine st_op rfl rfl h ?_); clear h a; (first | (show Does _ (.call _) _ _ _ _; ((refine does_funG hm en21 rfl (Rnd.diceSub_ok D hD n hn) trivial ?_; clear hm; rintro v1 L1 w ⟨pq, cq, mq, rfl, rfl, hmq, hgq⟩ hm; simp only [List.cons_append, List.nil_append] at hm))) | (show Does _ (.move _) _ _ _ _; refine does_move rfl ?_) | (show Does _ (.assign _) _ _ _ _; refine does_assign rfl ?_) | (show Does _ (.load _ _) _ _ _ _; (first | refine does_loadOA 0 hm rfl rfl rfl ?_ | refine does_loadOA 1 hm rfl rfl rfl ?_)) | (show Does _ (.build _ _) _ _ _ _; refine does_build rfl rfl ?_)); intro a h; (first | simp only [Value.cells, splice, nqq, Nat.reduceAdd, Nat.reduceMul, Int.reduceAdd, Int.reduceToNat, Int.reduceTMod] at h | skip)))
  exact k_ret1 rfl h rfl ⟨_, ⟨pq, cq, mq, rfl, rfl, hmq, hgq⟩, hm.sub (by repeat' (first | exact sln | refine slc ?_))⟩
end Go.Proofs.YtcbnegmmjflmcaaGreat.St
