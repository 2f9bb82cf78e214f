/-
  Programs as texts: both sides.
-/
import Derived.Test.YtgmonjghbjaadaaGreatDoorLTxi
import Derived.Test.YtgmonjghbjaadaaGreatDoorJ6
import Derived.Test.YtgmonjghbjaadaaGreatDoorStFin
set_option linter.unusedSimpArgs false
set_option linter.unusedVariables false
namespace Go.Proofs.YtgmonjghbjaadaaGreatDoor.St
open Go.RowKit
noncomputable def asgT (ns : List PNode) (y : TAssignment) : List UInt8 := tB y.1 ++ [32, 61, 32] ++ txT ns y.2.toNat ++ [59, 10]
noncomputable def progT (ns : List PNode) (ys : List TAssignment) (k : Nat) : List UInt8 := ((ys.take k).map (asgT ns)).flatten
theorem progT_succ {ns : List PNode} {ys : List TAssignment} {k : Nat} (h : k < ys.length) : progT ns ys (k + 1) = progT ns ys k ++ asgT ns ys[k] := by
  unfold progT
  rw [List.take_add_one, List.getElem?_eq_getElem h, List.map_append, List.flatten_append]
  simp
theorem asgT_len {ns : List PNode} {ys : List TAssignment} (hv : vProg ns ys) {y : TAssignment} (hy : y ∈ ys) : y.1.size ≤ 8 ∧ (txT ns y.2.toNat).length ≤ 2400 ∧ (asgT ns y).length ≤ 2413 := by
  obtain ⟨h1, h2⟩ := hv.asg y hy
  have h3 := tx_len hv (k := y.2.toNat) (by omega)
  have h4 := hv.small
  have h5 : (tB y.1).length = y.1.size := Array.length_toList ..
  have h6 := h1.1.2
  refine ⟨h6, by omega, ?_⟩
  unfold asgT
  simp only [List.length_append, List.length_cons, List.length_nil]
  omega
theorem progT_len {ns : List PNode} {ys : List TAssignment} (hv : vProg ns ys) : ∀ k, k ≤ ys.length → (progT ns ys k).length ≤ 2413 * k
  | 0, _ => by simp [progT]
  | k + 1, hk => by
    have ih := progT_len hv k (by omega)
    have h := (asgT_len hv (List.getElem_mem (show k < ys.length by omega))).2.2
    rw [progT_succ (by omega), List.length_append]
    omega
set_option maxHeartbeats 16000000 in
theorem sProgram_ok (xs : List TNode) (ys : List TAssignment) (p q : Option Addr) (c d : Nat) (hv : vProg (xs.map aN) ys) (hys : ys.length ≤ 1048576) (hIV : FunP Tryz.prog 44 [.agg #[.slice p xs.length c, .slice q ys.length d]] (fun H => ProgH H p q xs ys) (.bool true)) : FunP Tryz.prog 17 [.agg #[.slice p xs.length c, .slice q ys.length d]] (fun H => ProgH H p q xs ys) (.string (bs (progT (xs.map aN) ys ys.length))) := by
  refine enterFunP Tryz.func17 rfl Tryz.ntmps17 rfl (fun W0 w a hp hm h => ?_)
  repeat' (first | refine c_seq ?_ | refine c_region ?_ | refine c_nil ?_ | refine k_then ?_ | refine c_skip ?_ | refine c_block ?_ | refine c_condF h rfl ?_ | (refine st_op (d := 1) rfl rfl h ?_; refine does_box hm rfl rfl ?_; clear h a hm; intro b_1 w hm a h; (try simp only [Value.cells, List.toList_toArray, splice, List.set_cons_zero, List.set_cons_succ, List.drop_zero, List.drop_succ_cons, List.take_succ_cons, List.take_zero, Nat.zero_add, Nat.reduceAdd, Nat.reduceMul, Int.reduceAdd, Int.reduceToNat, Int.reduceTMod, Nat.zero_mul, Nat.one_mul, Int.toNat_natCast] at h)) | ((refine st_op rfl rfl h ?_); clear h a; (first | (show Does _ (.call _) _ _ _ _; (first | ((refine does_funP hm en44 rfl hIV (hp.up hm) ?_; clear hm; intro w hm)) | refine does_lenS (SliceT.out) rfl ?_)) | (show Does _ (.move _) _ _ _ _; refine does_move rfl ?_) | (show Does _ (.assign _) _ _ _ _; refine does_assign rfl ?_) | (show Does _ (.fieldAddr _ _ _) _ _ _ _; (refine does_fieldAddrL rfl ?_)) | (show Does _ (.load _ _) _ _ _ _; (first | refine does_loadO 0 hm rfl rfl rfl ?_ | refine does_loadOA 0 hm rfl rfl rfl ?_)) | (show Does _ (.unOp _ _ _) _ _ _ _; (refine does_not rfl ?_))); intro a h; (try simp only [Value.cells, List.toList_toArray, splice, List.set_cons_zero, List.set_cons_succ, List.drop_zero, List.drop_succ_cons, List.take_succ_cons, List.take_zero, Nat.zero_add, Nat.reduceAdd, Nat.reduceMul, Int.reduceAdd, Int.reduceToNat, Int.reduceTMod, Nat.zero_mul, Nat.one_mul, Int.toNat_natCast] at h)))
  refine c_loop (σ := Nat) (fun k a w => k ≤ ys.length ∧ Mem W0 [] (fun b => W0.heap[b]?) [.blk b_1 (.cells [.slice p xs.length c, .slice q ys.length d].toArray 53)] w ∧ Holds [(1, .pointer (some ⟨b_1, 0, none⟩)), (3, .string (bs (progT (xs.map aN) ys k))), (10, .slice q ys.length d), (11, .int .i64 ys.length), (12, .int .i64 k)] _ a) (fun k => ys.length - k) 0
    ⟨Nat.zero_le _, hm, h.keep ⟨rfl, rfl, rfl, rfl, rfl, trivial⟩⟩ ?_
  clear h hm
  rintro k a w ⟨hk, hm, h⟩
  have hpl := progT_len hv k hk
  by_cases hlt : k < ys.length
  · obtain ⟨q1, rfl, hat1⟩ := hp.asg.at hlt
    have hyl := asgT_len hv (List.getElem_mem hlt)
    obtain ⟨hid, hr0, hr1⟩ := hv.asg _ (List.getElem_mem hlt)
    rw [List.length_map] at hr1
    obtain ⟨i, hi⟩ : ∃ i : Nat, ys[k].2 = (i : Int) := ⟨ys[k].2.toNat, by omega⟩
    have htx := sText_ok xs ys p (some q1) c d hv i (by omega)
    have hstep := progT_succ (ns := xs.map aN) hlt
    unfold asgT at hstep
    rw [hi, Int.toNat_natCast] at hstep hyl
    have hat2 : At (fun b => W0.heap[b]?) (q1.add (k * 2)) [.string ys[k].1, I i] := by
      rw [← hi]
      exact hat1
    have hz0 : (bs (progT (xs.map aN) ys k)).size = _ := bs_size (progT (xs.map aN) ys k)
    have hz1 : (bs (txT (xs.map aN) i)).size = _ := bs_size (txT (xs.map aN) i)
    have hz2 : (⟨#[32, 61, 32]⟩ : ByteArray).size = 3 := rfl
    have hz3 : (⟨#[59, 10]⟩ : ByteArray).size = 2 := rfl
    have s1 := ByteArray.size_append (a := bs (progT (xs.map aN) ys k)) (b := ys[k].1)
    have s2 := ByteArray.size_append (a := bs (progT (xs.map aN) ys k) ++ ys[k].1) (b := ⟨#[32, 61, 32]⟩)
    have s3 := ByteArray.size_append (a := bs (progT (xs.map aN) ys k) ++ ys[k].1 ++ ⟨#[32, 61, 32]⟩) (b := bs (txT (xs.map aN) i))
    have hend : bs (progT (xs.map aN) ys k) ++ ys[k].1 ++ ⟨#[32, 61, 32]⟩ ++ bs (txT (xs.map aN) i) ++ ⟨#[59, 10]⟩ = bs (progT (xs.map aN) ys (k + 1)) := by
      rw [hstep, ← List.append_assoc, ← List.append_assoc, ← List.append_assoc, ← bs_append, ← bs_append, ← bs_append, ← bs_append]
    repeat' (first | refine c_seq ?_ | refine c_region ?_ | refine c_nil ?_ | refine k_then ?_ | refine c_skip ?_ | refine c_block ?_ | refine c_condT h rfl ?_ | (refine st_op (d := 5) rfl rfl h ?_; refine does_alloc hm ?_; clear h a hm; intro b_5 w hm a h; (try simp only [Value.cells, List.toList_toArray, splice, List.set_cons_zero, List.set_cons_succ, List.drop_zero, List.drop_succ_cons, List.take_succ_cons, List.take_zero, Nat.zero_add, Nat.reduceAdd, Nat.reduceMul, Int.reduceAdd, Int.reduceToNat, Int.reduceTMod, Nat.zero_mul, Nat.one_mul, Int.toNat_natCast] at h)) | ((first | refine st_op rfl rfl h ?_ | refine st_opn rfl h ?_); clear h a; (first | (show Does _ (.store _ _ _) _ _ _ _; ((refine does_storeO 0 hm rfl rfl rfl rfl rfl rfl rfl ?_; clear hm; intro w hm; (try simp only [Value.cells, List.toList_toArray, List.set_cons_zero, List.set_cons_succ, splice, Nat.zero_add, Nat.reduceAdd, Nat.reduceMul, Int.reduceAdd, Int.reduceToNat, Nat.zero_mul, Nat.one_mul, Int.toNat_natCast] at hm)))) | (show Does _ (.load _ _) _ _ _ _; (refine does_loadBA hm rfl (by assumption) rfl ?_)) | (show Does _ (.binOp _ _ _ _ _) _ _ _ _; (refine does_lssT rfl rfl (by omega) ?_)) | (show Does _ (.indexAddr _ _ _) _ _ _ _; (refine does_indexSn (by omega) rfl rfl ?_))); intro a h; (try simp only [Value.cells, List.toList_toArray, splice, List.set_cons_zero, List.set_cons_succ, List.drop_zero, List.drop_succ_cons, List.take_succ_cons, List.take_zero, Nat.zero_add, Nat.reduceAdd, Nat.reduceMul, Int.reduceAdd, Int.reduceToNat, Int.reduceTMod, Nat.zero_mul, Nat.one_mul, Int.toNat_natCast] at h)))
    refine hw_region ([.blk b_5 (.cells [.string ys[k].1, I i].toArray 90), .blk b_1 (.cells [.slice p xs.length c, .slice (some q1) ys.length d].toArray 53)]) mixed hm ?_; clear hm; intro w hm
    refine hw_take 0 rfl (by kernel_rfl) (by kernel_rfl) (by kernel_rfl) rfl rfl rfl h (hm.sub (by repeat' (exact List.Sublist.refl _))) (fun w hm => by refine does_move rfl ?_ <;> exact ⟨rfl, rfl⟩) ?_; clear h a; intro a h; (try simp only [Value.cells, List.toList_toArray, splice, List.set_cons_zero, List.set_cons_succ, List.drop_zero, List.drop_succ_cons, List.take_succ_cons, List.take_zero, Nat.zero_add, Nat.reduceAdd, Nat.reduceMul, Int.reduceAdd, Int.reduceToNat, Int.reduceTMod, Nat.zero_mul, Nat.one_mul, Int.toNat_natCast] at h)
    refine hw_take 1 rfl (by kernel_rfl) (by kernel_rfl) (by kernel_rfl) rfl rfl rfl h (hm.sub (by repeat' (exact List.Sublist.refl _))) (fun w hm => by (refine does_fieldAddrL rfl ?_) <;> exact ⟨rfl, rfl⟩) ?_; clear h a; intro a h; (try simp only [Value.cells, List.toList_toArray, splice, List.set_cons_zero, List.set_cons_succ, List.drop_zero, List.drop_succ_cons, List.take_succ_cons, List.take_zero, Nat.zero_add, Nat.reduceAdd, Nat.reduceMul, Int.reduceAdd, Int.reduceToNat, Int.reduceTMod, Nat.zero_mul, Nat.one_mul, Int.toNat_natCast] at h)
    refine hw_take 2 rfl (by kernel_rfl) (by kernel_rfl) (by kernel_rfl) rfl rfl rfl h (hm.sub (by repeat' (exact List.Sublist.refl _))) (fun w hm => by (refine does_loadO 0 hm rfl rfl rfl ?_) <;> exact ⟨rfl, rfl⟩) ?_; clear h a; intro a h; (try simp only [Value.cells, List.toList_toArray, splice, List.set_cons_zero, List.set_cons_succ, List.drop_zero, List.drop_succ_cons, List.take_succ_cons, List.take_zero, Nat.zero_add, Nat.reduceAdd, Nat.reduceMul, Int.reduceAdd, Int.reduceToNat, Int.reduceTMod, Nat.zero_mul, Nat.one_mul, Int.toNat_natCast] at h)
    refine hw_take 3 rfl (by kernel_rfl) (by kernel_rfl) (by kernel_rfl) rfl rfl rfl h (hm.sub (by repeat' (exact List.Sublist.refl _))) (fun w hm => by (((refine does_addStr rfl rfl (by omega) ?_))) <;> exact ⟨rfl, rfl⟩) ?_; clear h a; intro a h; (try simp only [Value.cells, List.toList_toArray, splice, List.set_cons_zero, List.set_cons_succ, List.drop_zero, List.drop_succ_cons, List.take_succ_cons, List.take_zero, Nat.zero_add, Nat.reduceAdd, Nat.reduceMul, Int.reduceAdd, Int.reduceToNat, Int.reduceTMod, Nat.zero_mul, Nat.one_mul, Int.toNat_natCast] at h)
    refine hw_take 4 rfl (by kernel_rfl) (by kernel_rfl) (by kernel_rfl) rfl rfl rfl h (hm.sub (by repeat' (exact List.Sublist.refl _))) (fun w hm => by (((refine does_addStr rfl rfl (by omega) ?_))) <;> exact ⟨rfl, rfl⟩) ?_; clear h a; intro a h; (try simp only [Value.cells, List.toList_toArray, splice, List.set_cons_zero, List.set_cons_succ, List.drop_zero, List.drop_succ_cons, List.take_succ_cons, List.take_zero, Nat.zero_add, Nat.reduceAdd, Nat.reduceMul, Int.reduceAdd, Int.reduceToNat, Int.reduceTMod, Nat.zero_mul, Nat.one_mul, Int.toNat_natCast] at h)
    refine hw_take 5 rfl (by kernel_rfl) (by kernel_rfl) (by kernel_rfl) rfl rfl rfl h (hm.sub (by repeat' (exact List.Sublist.refl _))) (fun w hm => by (refine does_loadOA 1 hm rfl rfl rfl ?_) <;> exact ⟨rfl, rfl⟩) ?_; clear h a; intro a h; (try simp only [Value.cells, List.toList_toArray, splice, List.set_cons_zero, List.set_cons_succ, List.drop_zero, List.drop_succ_cons, List.take_succ_cons, List.take_zero, Nat.zero_add, Nat.reduceAdd, Nat.reduceMul, Int.reduceAdd, Int.reduceToNat, Int.reduceTMod, Nat.zero_mul, Nat.one_mul, Int.toNat_natCast] at h)
    refine hw_take 6 rfl (by kernel_rfl) (by kernel_rfl) (by kernel_rfl) rfl rfl rfl h (hm.sub (by repeat' (exact List.Sublist.refl _))) (fun w hm => by (refine does_fieldAddrL rfl ?_) <;> exact ⟨rfl, rfl⟩) ?_; clear h a; intro a h; (try simp only [Value.cells, List.toList_toArray, splice, List.set_cons_zero, List.set_cons_succ, List.drop_zero, List.drop_succ_cons, List.take_succ_cons, List.take_zero, Nat.zero_add, Nat.reduceAdd, Nat.reduceMul, Int.reduceAdd, Int.reduceToNat, Int.reduceTMod, Nat.zero_mul, Nat.one_mul, Int.toNat_natCast] at h)
    refine hw_take 7 rfl (by kernel_rfl) (by kernel_rfl) (by kernel_rfl) rfl rfl rfl h (hm.sub (by repeat' (exact List.Sublist.refl _))) (fun w hm => by (refine does_loadO 0 hm rfl rfl rfl ?_) <;> exact ⟨rfl, rfl⟩) ?_; clear h a; intro a h; (try simp only [Value.cells, List.toList_toArray, splice, List.set_cons_zero, List.set_cons_succ, List.drop_zero, List.drop_succ_cons, List.take_succ_cons, List.take_zero, Nat.zero_add, Nat.reduceAdd, Nat.reduceMul, Int.reduceAdd, Int.reduceToNat, Int.reduceTMod, Nat.zero_mul, Nat.one_mul, Int.toNat_natCast] at h)
    refine hw1 8 (by decide +kernel) ?_
    (refine ho_op rfl rfl rfl h ?_); clear h a; ((refine does_funP hm en45 rfl htx (hp.nodes.up hm) ?_; clear hm; intro w hm)); intro a h; (try simp only [Value.cells, List.toList_toArray, splice, List.set_cons_zero, List.set_cons_succ, List.drop_zero, List.drop_succ_cons, List.take_succ_cons, List.take_zero, Nat.zero_add, Nat.reduceAdd, Nat.reduceMul, Int.reduceAdd, Int.reduceToNat, Int.reduceTMod, Nat.zero_mul, Nat.one_mul, Int.toNat_natCast] at h); refine ⟨hm.sub (by repeat' (exact List.Sublist.refl _)), ?_⟩
    refine hw_take 9 rfl (by kernel_rfl) (by kernel_rfl) (by kernel_rfl) rfl rfl rfl h (hm.sub (by repeat' (exact List.Sublist.refl _))) (fun w hm => by (((refine does_addStr rfl rfl (by omega) ?_))) <;> exact ⟨rfl, rfl⟩) ?_; clear h a; intro a h; (try simp only [Value.cells, List.toList_toArray, splice, List.set_cons_zero, List.set_cons_succ, List.drop_zero, List.drop_succ_cons, List.take_succ_cons, List.take_zero, Nat.zero_add, Nat.reduceAdd, Nat.reduceMul, Int.reduceAdd, Int.reduceToNat, Int.reduceTMod, Nat.zero_mul, Nat.one_mul, Int.toNat_natCast] at h)
    refine hw_take 10 rfl (by kernel_rfl) (by kernel_rfl) (by kernel_rfl) rfl rfl rfl h (hm.sub (by repeat' (exact List.Sublist.refl _))) (fun w hm => by (((refine does_addStr rfl rfl (by omega) ?_))) <;> exact ⟨rfl, rfl⟩) ?_; clear h a; intro a h; (try simp only [Value.cells, List.toList_toArray, splice, List.set_cons_zero, List.set_cons_succ, List.drop_zero, List.drop_succ_cons, List.take_succ_cons, List.take_zero, Nat.zero_add, Nat.reduceAdd, Nat.reduceMul, Int.reduceAdd, Int.reduceToNat, Int.reduceTMod, Nat.zero_mul, Nat.one_mul, Int.toNat_natCast] at h)
    refine hw_take 11 rfl (by kernel_rfl) (by kernel_rfl) (by kernel_rfl) rfl rfl rfl h (hm.sub (by repeat' (exact List.Sublist.refl _))) (fun w hm => by refine does_assign rfl ?_ <;> exact ⟨rfl, rfl⟩) ?_; clear h a; intro a h; (try simp only [Value.cells, List.toList_toArray, splice, List.set_cons_zero, List.set_cons_succ, List.drop_zero, List.drop_succ_cons, List.take_succ_cons, List.take_zero, Nat.zero_add, Nat.reduceAdd, Nat.reduceMul, Int.reduceAdd, Int.reduceToNat, Int.reduceTMod, Nat.zero_mul, Nat.one_mul, Int.toNat_natCast] at h)
    refine hw0 (by decide +kernel) ?_
    skip
    repeat' (first | refine c_region ?_ | refine c_nil ?_ | refine k_then ?_ | refine k_inN ?_ | ((refine st_op rfl rfl h ?_); clear h a; (first | (show Does _ (.move _) _ _ _ _; refine does_move rfl ?_) | (show Does _ (.binOp _ _ _ _ _) _ _ _ _; (refine does_add rfl rfl (by omega) ?_))); intro a h; (try simp only [Value.cells, List.toList_toArray, splice, List.set_cons_zero, List.set_cons_succ, List.drop_zero, List.drop_succ_cons, List.take_succ_cons, List.take_zero, Nat.zero_add, Nat.reduceAdd, Nat.reduceMul, Int.reduceAdd, Int.reduceToNat, Int.reduceTMod, Nat.zero_mul, Nat.one_mul, Int.toNat_natCast] at h)))
    rw [hend] at h
    exact k_thenN ⟨k + 1, ⟨hlt, hm.drop, h.keep ⟨rfl, rfl, rfl, rfl, rfl, trivial⟩⟩, by omega⟩
  · obtain rfl : k = ys.length := by omega
    repeat' (first | refine c_seq ?_ | refine c_region ?_ | refine c_nil ?_ | refine k_then ?_ | refine k_thenE ?_ | refine k_inE ?_ | refine c_ret ?_ | refine c_exit ?_ | refine c_condF h rfl ?_ | ((refine st_op rfl rfl h ?_); clear h a; (first | (show Does _ (.move _) _ _ _ _; refine does_move rfl ?_) | (show Does _ (.assign _) _ _ _ _; refine does_assign rfl ?_) | (show Does _ (.binOp _ _ _ _ _) _ _ _ _; (refine does_lssF rfl rfl (by omega) ?_))); intro a h; (try simp only [Value.cells, List.toList_toArray, splice, List.set_cons_zero, List.set_cons_succ, List.drop_zero, List.drop_succ_cons, List.take_succ_cons, List.take_zero, Nat.zero_add, Nat.reduceAdd, Nat.reduceMul, Int.reduceAdd, Int.reduceToNat, Int.reduceTMod, Nat.zero_mul, Nat.one_mul, Int.toNat_natCast] at h)))
    (refine k_ret1 rfl h rfl ⟨?_, hm.below⟩)
    rfl
set_option maxHeartbeats 16000000 in
theorem iProgram_ok (xs : List TNode) (ys : List TAssignment) (p q : Option Addr) (c d : Nat) (hv : vProg (xs.map aN) ys) (hys : ys.length ≤ 1048576) (hIV : FunP Tryz.prog 60 [.agg #[.slice p xs.length c, .slice q ys.length d]] (fun H => ProgH H p q xs ys) (.bool true)) : FunP Tryz.prog 29 [.agg #[.slice p xs.length c, .slice q ys.length d]] (fun H => ProgH H p q xs ys ∧ TabH H) (.string (bs (progT (xs.map aN) ys ys.length))) := by
  refine enterFunP Tryz.func29 rfl Tryz.ntmps29 rfl (fun W0 w a hp hm h => ?_)
  obtain ⟨hp, hT⟩ := hp
  repeat' (first | refine c_seq ?_ | refine c_region ?_ | refine c_nil ?_ | refine k_then ?_ | refine c_skip ?_ | refine c_block ?_ | refine c_condF h rfl ?_ | ((refine st_op rfl rfl h ?_); clear h a; (first | (show Does _ (.call _) _ _ _ _; (first | ((refine does_funP hm en60 rfl hIV (hp.up hm) ?_; clear hm; intro w hm)) | refine does_lenS (SliceT.out) rfl ?_)) | (show Does _ (.alloc _) _ _ _ _; (((refine does_allocB hm ?_; clear hm; intro b3 w hb3 hL3 hm)))) | (show Does _ (.box _ _) _ _ _ _; (refine does_box hm rfl rfl ?_; clear hm; intro b w hm)) | (show Does _ (.move _) _ _ _ _; refine does_move rfl ?_) | (show Does _ (.assign _) _ _ _ _; refine does_assign rfl ?_) | (show Does _ (.fieldAddr _ _ _) _ _ _ _; (refine does_fieldAddrL rfl ?_)) | (show Does _ (.load _ _) _ _ _ _; (first | refine does_loadO 1 hm rfl rfl rfl ?_ | refine does_loadOA 0 hm rfl rfl rfl ?_)) | (show Does _ (.unOp _ _ _) _ _ _ _; (refine does_not rfl ?_))); intro a h; (try simp only [Value.cells, List.toList_toArray, splice, List.set_cons_zero, List.set_cons_succ, List.drop_zero, List.drop_succ_cons, List.take_succ_cons, List.take_zero, Nat.zero_add, Nat.reduceAdd, Nat.reduceMul, Int.reduceAdd, Int.reduceToNat, Int.reduceTMod, Nat.zero_mul, Nat.one_mul, Int.toNat_natCast] at h)))
  replace hL3 : ∀ o ∈ [Own.blk b (.cells [.slice p xs.length c, .slice q ys.length d].toArray 53)], ∀ k, o.dom = some k → k < b3 := hL3
  refine c_loop (σ := Nat × Value × Value) (fun s a w => (s.1 ≤ ys.length ∧ (s.2.1 = .pointer none ∨ s.2.1 = .pointer (some ⟨b3, 0, none⟩))) ∧ (∀ k, s.2.2.ownBlock = some k → b3 ≤ k) ∧ Mem W0 [] (fun b => W0.heap[b]?) [.blk b3 (.cells [s.2.1, s.2.2].toArray 107 (0, 0)), .row s.2.2 5 1 (Lib.byteCells (progT (xs.map aN) ys s.1)), .blk b (.cells [.slice p xs.length c, .slice q ys.length d].toArray 53)] w ∧
      Holds [(1, .pointer (some ⟨b, 0, none⟩)), (3, .pointer (some ⟨b3, 0, none⟩)), (10, .slice q ys.length d), (11, .int .i64 ys.length), (12, .int .i64 s.1)] _ a) (fun s => ys.length - s.1) (0, .pointer none, .slice none 0 0)
      ⟨⟨Nat.zero_le _, .inl rfl⟩, (fun k hk => by cases hk), (hm.addNil 5 1).perm (List.Perm.swap _ _ _), h.keep ⟨rfl, rfl, rfl, rfl, rfl, trivial⟩⟩ ?_
  clear h hm
  rintro ⟨k, pv, v⟩ a w ⟨⟨hk, hpv⟩, hv2, hm, h⟩
  simp only at hk hpv hv2 hm h
  have hpl := progT_len hv k hk
  have hbl : (Lib.byteCells (progT (xs.map aN) ys k)).length = (progT (xs.map aN) ys k).length := Lib.byteCells_length _
  by_cases hlt : k < ys.length
  · obtain ⟨q1, rfl, hat1⟩ := hp.asg.at hlt
    have hyl := asgT_len hv (List.getElem_mem hlt)
    obtain ⟨hid, hr0, hr1⟩ := hv.asg _ (List.getElem_mem hlt)
    rw [List.length_map] at hr1
    obtain ⟨i, hi⟩ : ∃ i : Nat, ys[k].2 = (i : Int) := ⟨ys[k].2.toNat, by omega⟩
    have htx := iText_ok xs ys p (some q1) c d hv i (by omega)
    have hstep := progT_succ (ns := xs.map aN) hlt
    unfold asgT at hstep
    rw [hi, Int.toNat_natCast] at hstep hyl
    have hat2 : At (fun b => W0.heap[b]?) (q1.add (k * 2)) [.string ys[k].1, I i] := by
      rw [← hi]
      exact hat1
    have hz0 : (bs (progT (xs.map aN) ys k)).size = _ := bs_size (progT (xs.map aN) ys k)
    have hz1 : (bs (txT (xs.map aN) i)).size = _ := bs_size (txT (xs.map aN) i)
    have hz2 : (⟨#[32, 61, 32]⟩ : ByteArray).size = 3 := rfl
    have hz3 : (⟨#[59, 10]⟩ : ByteArray).size = 2 := rfl
    have s1 := ByteArray.size_append (a := ys[k].1) (b := ⟨#[32, 61, 32]⟩)
    have s2 := ByteArray.size_append (a := ys[k].1 ++ ⟨#[32, 61, 32]⟩) (b := bs (txT (xs.map aN) i))
    have s3 := ByteArray.size_append (a := ys[k].1 ++ ⟨#[32, 61, 32]⟩ ++ bs (txT (xs.map aN) i)) (b := ⟨#[59, 10]⟩)
    have hend : Lib.byteCells (progT (xs.map aN) ys k) ++ Lib.strCells (ys[k].1 ++ ⟨#[32, 61, 32]⟩ ++ bs (txT (xs.map aN) i) ++ ⟨#[59, 10]⟩) = Lib.byteCells (progT (xs.map aN) ys (k + 1)) := by
      rw [hstep]
      simp [Lib.byteCells, Lib.strCells, ByteArray.data_append, bs, tB]
    repeat' (first | refine c_seq ?_ | refine c_region ?_ | refine c_nil ?_ | refine k_then ?_ | refine k_inN ?_ | refine c_skip ?_ | refine c_block ?_ | refine c_condT h rfl ?_ | (refine st_op (d := 5) rfl rfl h ?_; refine does_alloc hm ?_; clear h a hm; intro b_5 w hm a h; (try simp only [Value.cells, List.toList_toArray, splice, List.set_cons_zero, List.set_cons_succ, List.drop_zero, List.drop_succ_cons, List.take_succ_cons, List.take_zero, Nat.zero_add, Nat.reduceAdd, Nat.reduceMul, Int.reduceAdd, Int.reduceToNat, Int.reduceTMod, Nat.zero_mul, Nat.one_mul, Int.toNat_natCast] at h)) | ((first | refine st_op rfl rfl h ?_ | refine st_opn rfl h ?_); clear h a; (first | ((refine does_write hm.drop rfl hb3 hL3 hpv hv2 (by omega) ?_; clear hm; intro v2 w hv2 hm; rw [hend] at hm)) | (show Does _ (.binOp _ _ _ _ _) _ _ _ _; (first | refine does_lssT rfl rfl (by omega) ?_ | refine does_add rfl rfl (by omega) ?_)) | (show Does _ (.store _ _ _) _ _ _ _; ((refine does_storeO 0 hm rfl rfl rfl rfl rfl rfl rfl ?_; clear hm; intro w hm; (try simp only [Value.cells, List.toList_toArray, List.set_cons_zero, List.set_cons_succ, splice, Nat.zero_add, Nat.reduceAdd, Nat.reduceMul, Int.reduceAdd, Int.reduceToNat, Nat.zero_mul, Nat.one_mul, Int.toNat_natCast] at hm)))) | (show Does _ (.move _) _ _ _ _; refine does_move rfl ?_) | (show Does _ (.load _ _) _ _ _ _; (refine does_loadBA hm rfl (by assumption) rfl ?_)) | (show Does _ (.indexAddr _ _ _) _ _ _ _; (refine does_indexSn (by omega) rfl rfl ?_))); intro a h; (try simp only [Value.cells, List.toList_toArray, splice, List.set_cons_zero, List.set_cons_succ, List.drop_zero, List.drop_succ_cons, List.take_succ_cons, List.take_zero, Nat.zero_add, Nat.reduceAdd, Nat.reduceMul, Int.reduceAdd, Int.reduceToNat, Int.reduceTMod, Nat.zero_mul, Nat.one_mul, Int.toNat_natCast] at h)) | (apply c_drawM (id := 7) 9 [.val _, .val _, .val _, .val _, .val _, .val _, .val _, .val _, .val _] mixed (by kernel_rfl) (h := h) (hm := hm); (case vcs => (repeat' (first | exact vcs_nil | refine vcs_cons ?_ ?_ | (intro w hm; (repeat (first | refine dep_val ?_ | refine dep_nil ?_)); first | exact vc_skip rfl | exact vc_alloc rfl | exact vc_box rfl rfl rfl | exact vc_buildSlice rfl rfl rfl rfl | exact vc_makeSlice (by omega) (by omega) rfl rfl rfl | exact vc_store rfl rfl rfl rfl rfl rfl rfl rfl rfl rfl | (apply vc_run rfl; (first | (show Does _ (.call _) _ _ _ _; (((refine does_funPX2 en62 rfl ⟨hp.nodes.up hm, hT.mono hm.base⟩ htx ?_)))) | (show Does _ (.binOp _ _ _ _ _) _ _ _ _; (((refine does_addStr rfl rfl (by omega) ?_)))) | (show Does _ (.fieldAddr _ _ _) _ _ _ _; (refine does_fieldAddrL rfl ?_)) | (show Does _ (.load _ _) _ _ _ _; (first | refine does_loadO 0 hm rfl rfl rfl ?_ | refine does_loadOA 3 hm rfl rfl rfl ?_))); (first | exact ⟨ext_refl _, rfl⟩ | exact fun _ hx => ⟨hx, rfl⟩)))))); (case hup => kernel_rfl); (case hown => kernel_rfl); (case hnp => kernel_rfl); clear h hm a; intro  w hm; (try simp only [List.map_nil, List.nil_append] at hm); (repeat (first | refine dep_val ?_ | refine dep_nil ?_)); intro a h; (try simp only [Value.cells, List.toList_toArray, splice, List.set_cons_zero, List.set_cons_succ, List.drop_zero, List.drop_succ_cons, List.take_succ_cons, List.take_zero, Nat.zero_add, Nat.reduceAdd, Nat.reduceMul, Int.reduceAdd, Int.reduceToNat, Int.reduceTMod, Nat.zero_mul, Nat.one_mul, Int.toNat_natCast] at h)))
    exact k_thenN ⟨(k + 1, .pointer (some ⟨b3, 0, none⟩), v2), ⟨⟨hlt, .inr rfl⟩, hv2, hm, h.keep ⟨rfl, rfl, rfl, rfl, rfl, trivial⟩⟩, by show ys.length - (k + 1) < ys.length - k; omega⟩
  · obtain rfl : k = ys.length := by omega
    repeat' (first | refine c_seq ?_ | refine c_region ?_ | refine c_nil ?_ | refine k_then ?_ | refine k_thenE ?_ | refine k_inE ?_ | refine c_ret ?_ | refine c_exit ?_ | refine c_condF h rfl ?_ | ((refine st_op rfl rfl h ?_); clear h a; (first | ((refine does_string hm rfl hb3 hpv hv2 ?_; clear hm; intro w hm)) | (show Does _ (.assign _) _ _ _ _; refine does_assign rfl ?_) | (show Does _ (.binOp _ _ _ _ _) _ _ _ _; (refine does_lssF rfl rfl (by omega) ?_))); intro a h; (try simp only [Value.cells, List.toList_toArray, splice, List.set_cons_zero, List.set_cons_succ, List.drop_zero, List.drop_succ_cons, List.take_succ_cons, List.take_zero, Nat.zero_add, Nat.reduceAdd, Nat.reduceMul, Int.reduceAdd, Int.reduceToNat, Int.reduceTMod, Nat.zero_mul, Nat.one_mul, Int.toNat_natCast] at h)))
    (refine k_ret1 rfl h rfl ⟨?_, hm.below⟩)
    rfl
end Go.Proofs.YtgmonjghbjaadaaGreatDoor.St
