/-
  Marks in scenes, exactly: what stands there after the marking, and that the check finds it.
-/
import Derived.Test.YtbcboklmeifghaaGreatLMkE
import Derived.Test.YtbcboklmeifghaaGreatLMkS
set_option linter.unusedSimpArgs false
set_option linter.unusedVariables false
namespace Go.Proofs.YtbcboklmeifghaaGreat.St
open Go.RowKit
abbrev mkS (m : Int) (x : TSurface) : TSurface := { x with sh := m, ra := m + 1 }
abbrev nxS (m : Int) (_ : TSurface) : Int := m + 1 + 1
def mkP (m : Int) (y : TProg) : TProg := { y with xs := mkL mkN nxN m y.xs, ys := mkL mkA nxA (enL nxN m y.xs) y.ys }
def nxP (m : Int) (y : TProg) : Int := enL nxA (enL nxN m y.xs) y.ys
theorem nxS_bd (xs : List TSurface) : ∀ x ∈ xs, ∀ m, m ≤ nxS m x ∧ nxS m x ≤ m + 2 := fun x _ m => by unfold nxS; omega
theorem enL_all {α : Type} (nx : Int → α → Int) (c : Int) (xs : List α) (hc : ∀ x ∈ xs, ∀ m, m ≤ nx m x ∧ nx m x ≤ m + c) (m : Int) : m ≤ enL nx m xs ∧ enL nx m xs ≤ m + c * xs.length := by
  have := enL_bd nx c xs hc m xs.length (Nat.le_refl _)
  rwa [List.take_length] at this
theorem nxP_one {y : TProg} (h : smP y) (m : Int) : (m ≤ enL nxN m y.xs ∧ enL nxN m y.xs ≤ m + 1100000000000) ∧ m ≤ nxP m y ∧ nxP m y ≤ m + 2000000000000 := by
  obtain ⟨⟨h1, h2⟩, h3⟩ := h
  have e1 := enL_all nxN 1048580 y.xs (nxN_bd h2) m
  have e2 := enL_all nxA 2 y.ys (nxA_bd y.ys) (enL nxN m y.xs)
  unfold nxP
  omega
theorem nxP_bd {xs : List TProg} (hsm : ∀ x ∈ xs, smP x) : ∀ x ∈ xs, ∀ m, m ≤ nxP m x ∧ nxP m x ≤ m + 2000000000000 := fun x hx m => (nxP_one (hsm x hx) m).2
theorem progLT_mk (m : Int) (y : TProg) : progLT (mkP m y) = .row (.slice y.q y.ys.length y.d) 136 2 ((mkL mkA nxA (enL nxN m y.xs) y.ys).map eAssignment).flatten :: nodesL y.p y.c (mkL mkN nxN m y.xs) := by simp only [progLT, progL, mkP, mkL_len]
theorem eP_mk (m : Int) (y : TProg) : eP (mkP m y) = eP y := by simp only [eP, mkP, mkL_len]
theorem eP_mkL : ∀ (m : Int) (xs : List TProg), (mkL mkP nxP m xs).map eP = xs.map eP
  | _, [] => rfl
  | m, x :: xs => by rw [mkL, List.map_cons, List.map_cons, eP_mk, eP_mkL _ xs]
theorem perm_move {α : Type} (P D M L : List α) : List.Perm (P ++ (D ++ (M ++ L))) (D ++ ((M ++ P) ++ L)) := by
  rw [List.append_assoc M]
  exact (List.perm_append_comm_assoc P D _).trans ((List.perm_append_comm_assoc P M L).append_left D)
set_option maxHeartbeats 16000000 in
theorem markSurfaceS_E (p : Option Addr) (xs : List TSurface) (c : Nat) (m : Int) (hm0 : 0 ≤ m ∧ m ≤ 4000000000000000000) (hxs : xs.length ≤ 1048577) : FunL Tryz.prog 37 [.slice p xs.length c, I m] [.row (.slice p xs.length c) 53 26 (xs.map eSurface).flatten] (fun _ => True)
    (fun v L' => v = I (enL nxS m xs) ∧ L' = [.row (.slice p xs.length c) 53 26 ((mkL mkS nxS m xs).map eSurface).flatten]) := by
  refine enterFunL Tryz.func37 rfl Tryz.ntmps37 rfl (fun W0 X B L w a hp hm h => ?_)
  by_cases h0 : xs.length = 0
  · obtain rfl : xs = [] := List.eq_nil_of_length_eq_zero h0
    repeat' (first | refine c_seq ?_ | refine c_region ?_ | refine c_nil ?_ | refine k_then ?_ | refine k_thenE ?_ | refine k_inE ?_ | refine c_ret ?_ | refine c_exit ?_ | refine c_block ?_ | refine r_succ ?_ | refine c_condF h rfl ?_ | (refine c_rounds 1 ?_) | ((refine st_op rfl rfl h ?_); clear h a; (first | (show Does _ (.move _) _ _ _ _; refine does_move rfl ?_) | (show Does _ (.assign _) _ _ _ _; refine does_assign rfl ?_) | (show Does _ (.binOp _ _ _ _ _) _ _ _ _; (refine does_lssF rfl rfl (by omega) ?_)) | (show Does _ (.call _) _ _ _ _; refine does_lenS (SliceT.out) rfl ?_)); intro a h; (try simp only [Value.cells, List.toList_toArray, splice, List.set_cons_zero, List.set_cons_succ, List.drop_zero, List.drop_succ_cons, List.take_succ_cons, List.take_zero, Nat.zero_add, Nat.reduceAdd, Nat.reduceMul, Int.reduceAdd, Int.reduceToNat, Int.reduceTMod, Nat.zero_mul, Nat.one_mul, Int.toNat_natCast] at h)))
    exact k_ret1 rfl h rfl ⟨_, ⟨rfl, rfl⟩, hm⟩
  · simp only [List.cons_append, List.nil_append] at hm
    obtain ⟨b, cap, spare, hv, hcc, hcm, hlen, hm'⟩ := hm.toBlk 0 (n := xs.length) rfl (flat_len (enc := eSurface) (sz := 26) (fun _ => rfl) xs) (by omega) (by omega)
    obtain ⟨rfl, rfl⟩ : p = some ⟨b, 0, none⟩ ∧ cap = c := by cases hv; exact ⟨rfl, rfl⟩
    clear hm
    have hm := hm'
    clear hm'
    simp only [List.set_cons_zero] at hm
    repeat' (first | refine c_seq ?_ | refine c_region ?_ | refine c_nil ?_ | refine k_then ?_ | refine c_block ?_ | ((refine st_op rfl rfl h ?_); clear h a; ((show Does _ (.assign _) _ _ _ _; refine does_assign rfl ?_)); intro a h; (try simp only [Value.cells, List.toList_toArray, splice, List.set_cons_zero, List.set_cons_succ, List.drop_zero, List.drop_succ_cons, List.take_succ_cons, List.take_zero, Nat.zero_add, Nat.reduceAdd, Nat.reduceMul, Int.reduceAdd, Int.reduceToNat, Int.reduceTMod, Nat.zero_mul, Nat.one_mul, Int.toNat_natCast] at h)))
    refine c_loop (σ := Nat) (fun k a w => k ≤ xs.length ∧ Mem W0 X B (.blk b (.cells (((mkL mkS nxS m (xs.take k)).map eSurface).flatten ++ (((xs.drop k).map eSurface).flatten ++ spare)).toArray 53 (0, 0)) :: L) w ∧ Holds [(0, .slice (some ⟨b, 0, none⟩) xs.length cap), (1, I (enL nxS m (xs.take k))), (5, .int .i64 k)] _ a) (fun k => xs.length - k) 0
      ⟨Nat.zero_le _, by simpa [mkL] using hm, h.keep ⟨rfl, rfl, rfl, trivial⟩⟩ ?_
    clear h hm
    rintro k a w ⟨hk, hm, h⟩
    have hA := mkL_map_len mkS nxS eSurface (sz := 26) (fun _ => rfl) m hk
    have hbd := enL_bd nxS 2 xs (nxS_bd xs) m k hk
    by_cases hlt : k < xs.length
    · have es := mkL_succ mkS nxS m hlt
      have ee := enL_succ nxS m hlt
      generalize hgA : ((mkL mkS nxS m (xs.take k)).map eSurface).flatten = A at hm hA
      generalize hm1 : enL nxS m (xs.take k) = m1 at *
      rw [List.drop_eq_getElem_cons hlt, List.map_cons, List.flatten_cons, List.append_assoc] at hm
      generalize hD : ((xs.drop (k + 1)).map eSurface).flatten ++ spare = D at hm
      repeat' (first | refine c_seq ?_ | refine c_region ?_ | refine c_nil ?_ | refine k_then ?_ | refine k_inN ?_ | refine c_skip ?_ | refine c_block ?_ | refine c_condT h rfl ?_ | ((first | refine st_op rfl rfl h ?_ | refine st_opn rfl h ?_); clear h a; (first | (show Does _ (.store _ _ _) _ _ _ _; ((refine does_storeM 0 hm rfl rfl rfl (by assumption) (by omega) rfl rfl rfl rfl ?_; clear hm; intro w hm; (try simp only [Value.cells, List.toList_toArray, List.set_cons_zero, List.set_cons_succ, splice, Nat.zero_add, Nat.reduceAdd, Nat.reduceMul, Int.reduceAdd, Int.reduceToNat, Nat.zero_mul, Nat.one_mul, Int.toNat_natCast] at hm)))) | (show Does _ (.move _) _ _ _ _; refine does_move rfl ?_) | (show Does _ (.assign _) _ _ _ _; refine does_assign rfl ?_) | (show Does _ (.fieldAddr _ _ _) _ _ _ _; (refine does_fieldAddrL rfl ?_)) | (show Does _ (.binOp _ _ _ _ _) _ _ _ _; (first | refine does_lssT rfl rfl (by omega) ?_ | refine does_add rfl rfl (by omega) ?_)) | (show Does _ (.call _) _ _ _ _; refine does_lenS (SliceT.out) rfl ?_) | (show Does _ (.indexAddr _ _ _) _ _ _ _; (refine does_indexSLn (by omega) rfl rfl ?_))); intro a h; (try simp only [Value.cells, List.toList_toArray, splice, List.set_cons_zero, List.set_cons_succ, List.drop_zero, List.drop_succ_cons, List.take_succ_cons, List.take_zero, Nat.zero_add, Nat.reduceAdd, Nat.reduceMul, Int.reduceAdd, Int.reduceToNat, Int.reduceTMod, Nat.zero_mul, Nat.one_mul, Int.toNat_natCast] at h)))
      refine k_thenN ⟨k + 1, ⟨hlt, ?_, ?_⟩, by omega⟩
      · rw [es, List.map_append, List.flatten_append, hgA, hD, List.append_assoc]
        exact hm
      · rw [ee]
        exact h.keep ⟨rfl, rfl, rfl, trivial⟩
    · obtain rfl : k = xs.length := by omega
      rw [List.take_length] at hA hm h
      rw [List.drop_length, List.map_nil, List.flatten_nil, List.nil_append] at hm
      have hl2 : (((mkL mkS nxS m xs).map eSurface).flatten ++ spare).length = cap * 26 := by
        have := flat_len (enc := eSurface) (sz := 26) (fun _ => rfl) xs
        rw [List.length_append] at hlen ⊢
        omega
      replace hm := hm.ofBlk 0 (sz := 26) (n := xs.length) rfl hA hl2 hcc hcm
      simp only [List.set_cons_zero] at hm
      repeat' (first | refine c_seq ?_ | refine c_region ?_ | refine c_nil ?_ | refine k_then ?_ | refine k_thenE ?_ | refine k_inE ?_ | refine c_ret ?_ | refine c_exit ?_ | refine c_condF h rfl ?_ | ((refine st_op rfl rfl h ?_); clear h a; (first | (show Does _ (.move _) _ _ _ _; refine does_move rfl ?_) | (show Does _ (.assign _) _ _ _ _; refine does_assign rfl ?_) | (show Does _ (.binOp _ _ _ _ _) _ _ _ _; (refine does_lssF rfl rfl (by omega) ?_)) | (show Does _ (.call _) _ _ _ _; refine does_lenS (SliceT.out) rfl ?_)); intro a h; (try simp only [Value.cells, List.toList_toArray, splice, List.set_cons_zero, List.set_cons_succ, List.drop_zero, List.drop_succ_cons, List.take_succ_cons, List.take_zero, Nat.zero_add, Nat.reduceAdd, Nat.reduceMul, Int.reduceAdd, Int.reduceToNat, Int.reduceTMod, Nat.zero_mul, Nat.one_mul, Int.toNat_natCast] at h)))
      exact k_ret1 rfl h rfl ⟨_, ⟨rfl, rfl⟩, hm⟩
set_option maxHeartbeats 8000000 in
theorem heldSurfaceS_E (p : Option Addr) (xs : List TSurface) (c : Nat) (m : Int) (hm0 : 0 ≤ m ∧ m ≤ 4000000000000000000) (hxs : xs.length ≤ 1048577) : FunP Tryz.prog 40 [.slice p xs.length c, I m] (fun H => Sl H p eSurface 26 (mkL mkS nxS m xs)) (I (enL nxS m xs)) := by
  refine enterFunP Tryz.func40 rfl Tryz.ntmps40 rfl (fun W0 w a hp hm h => ?_)
  repeat' (first | refine c_seq ?_ | refine c_region ?_ | refine c_nil ?_ | refine k_then ?_ | refine c_block ?_ | ((refine st_op rfl rfl h ?_); clear h a; ((show Does _ (.assign _) _ _ _ _; refine does_assign rfl ?_)); intro a h; (try simp only [Value.cells, List.toList_toArray, splice, List.set_cons_zero, List.set_cons_succ, List.drop_zero, List.drop_succ_cons, List.take_succ_cons, List.take_zero, Nat.zero_add, Nat.reduceAdd, Nat.reduceMul, Int.reduceAdd, Int.reduceToNat, Int.reduceTMod, Nat.zero_mul, Nat.one_mul, Int.toNat_natCast] at h)))
  refine c_loop (σ := Nat) (fun k a w => k ≤ xs.length ∧ Mem W0 [] (fun b => W0.heap[b]?) [] w ∧ Holds [(0, .slice p xs.length c), (1, I (enL nxS m (xs.take k))), (5, .int .i64 k)] _ a) (fun k => xs.length - k) 0
    ⟨Nat.zero_le _, hm, h.keep ⟨rfl, rfl, rfl, trivial⟩⟩ ?_
  clear h hm
  rintro k a w ⟨hk, hm, h⟩
  have hbd := enL_bd nxS 2 xs (nxS_bd xs) m k hk
  by_cases hlt : k < xs.length
  · obtain ⟨q1, rfl, hat1⟩ := hp.at (k := k) (by rw [mkL_len]; exact hlt)
    rw [mkL_get _ _ m xs k hlt] at hat1
    have ee := enL_succ nxS m hlt
    generalize hm1 : enL nxS m (xs.take k) = m1 at *
    repeat' (first | refine c_seq ?_ | refine c_region ?_ | refine c_nil ?_ | refine k_then ?_ | refine k_inN ?_ | refine c_skip ?_ | refine c_block ?_ | refine c_condT h rfl ?_ | refine c_condF h rfl ?_ | ((refine st_op rfl rfl h ?_); clear h a; (first | (show Does _ (.move _) _ _ _ _; refine does_move rfl ?_) | (show Does _ (.assign _) _ _ _ _; refine does_assign rfl ?_) | (show Does _ (.fieldAddr _ _ _) _ _ _ _; (refine does_fieldAddr rfl ?_)) | (show Does _ (.load _ _) _ _ _ _; (refine does_loadB hm rfl (At.add (by assumption) _) rfl ?_)) | (show Does _ (.binOp _ _ _ _ _) _ _ _ _; (first | refine does_lssT rfl rfl (by omega) ?_ | refine does_neqF rfl rfl (by omega) ?_ | refine does_add rfl rfl (by omega) ?_)) | (show Does _ (.call _) _ _ _ _; refine does_lenS (SliceT.out) rfl ?_) | (show Does _ (.indexAddr _ _ _) _ _ _ _; (refine does_indexSn (by omega) rfl rfl ?_))); intro a h; (try simp only [Value.cells, List.toList_toArray, splice, List.set_cons_zero, List.set_cons_succ, List.drop_zero, List.drop_succ_cons, List.take_succ_cons, List.take_zero, Nat.zero_add, Nat.reduceAdd, Nat.reduceMul, Int.reduceAdd, Int.reduceToNat, Int.reduceTMod, Nat.zero_mul, Nat.one_mul, Int.toNat_natCast] at h)))
    refine k_thenN ⟨k + 1, ⟨hlt, hm, ?_⟩, by omega⟩
    rw [ee]
    exact h.keep ⟨rfl, rfl, rfl, trivial⟩
  · obtain rfl : k = xs.length := by omega
    rw [List.take_length] at h
    repeat' (first | refine c_seq ?_ | refine c_region ?_ | refine c_nil ?_ | refine k_then ?_ | refine k_thenE ?_ | refine k_inE ?_ | refine c_ret ?_ | refine c_exit ?_ | refine c_condF h rfl ?_ | ((refine st_op rfl rfl h ?_); clear h a; (first | (show Does _ (.move _) _ _ _ _; refine does_move rfl ?_) | (show Does _ (.assign _) _ _ _ _; refine does_assign rfl ?_) | (show Does _ (.binOp _ _ _ _ _) _ _ _ _; (refine does_lssF rfl rfl (by omega) ?_)) | (show Does _ (.call _) _ _ _ _; refine does_lenS (SliceT.out) rfl ?_)); intro a h; (try simp only [Value.cells, List.toList_toArray, splice, List.set_cons_zero, List.set_cons_succ, List.drop_zero, List.drop_succ_cons, List.take_succ_cons, List.take_zero, Nat.zero_add, Nat.reduceAdd, Nat.reduceMul, Int.reduceAdd, Int.reduceToNat, Int.reduceTMod, Nat.zero_mul, Nat.one_mul, Int.toNat_natCast] at h)))
    (refine k_ret1 rfl h rfl ⟨?_, hm.below⟩)
    rfl
set_option maxHeartbeats 16000000 in
theorem markProgramS_E (p : Option Addr) (xs : List TProg) (c : Nat) (m : Int) (hm0 : 0 ≤ m ∧ m ≤ 1000000000000) (hxs : xs.length ≤ 1048576) (hsm : ∀ x ∈ xs, smP x) : FunL Tryz.prog 36 [.slice p xs.length c, I m] (progsL p c xs) (fun _ => True)
    (fun v L' => v = I (enL nxP m xs) ∧ L' = progsL p c (mkL mkP nxP m xs)) := by
  refine enterFunL Tryz.func36 rfl Tryz.ntmps36 rfl (fun W0 X B L w a hp hm h => ?_)
  by_cases h0 : xs.length = 0
  · obtain rfl : xs = [] := List.eq_nil_of_length_eq_zero h0
    repeat' (first | refine c_seq ?_ | refine c_region ?_ | refine c_nil ?_ | refine k_then ?_ | refine k_thenE ?_ | refine k_inE ?_ | refine c_ret ?_ | refine c_exit ?_ | refine c_block ?_ | refine r_succ ?_ | refine c_condF h rfl ?_ | (refine c_rounds 1 ?_) | ((refine st_op rfl rfl h ?_); clear h a; (first | (show Does _ (.move _) _ _ _ _; refine does_move rfl ?_) | (show Does _ (.assign _) _ _ _ _; refine does_assign rfl ?_) | (show Does _ (.binOp _ _ _ _ _) _ _ _ _; (refine does_lssF rfl rfl (by omega) ?_)) | (show Does _ (.call _) _ _ _ _; refine does_lenS (SliceT.out) rfl ?_)); intro a h; (try simp only [Value.cells, List.toList_toArray, splice, List.set_cons_zero, List.set_cons_succ, List.drop_zero, List.drop_succ_cons, List.take_succ_cons, List.take_zero, Nat.zero_add, Nat.reduceAdd, Nat.reduceMul, Int.reduceAdd, Int.reduceToNat, Int.reduceTMod, Nat.zero_mul, Nat.one_mul, Int.toNat_natCast] at h)))
    exact k_ret1 rfl h rfl ⟨_, ⟨rfl, rfl⟩, hm⟩
  · simp only [progsL, List.cons_append] at hm
    obtain ⟨b, cap, spare, hv, hcc, hcm, hlen, hm'⟩ := hm.toBlk 0 (n := xs.length) rfl (flat_len (enc := eP) (sz := 2) (fun _ => rfl) xs) (by omega) (by omega)
    obtain ⟨rfl, rfl⟩ : p = some ⟨b, 0, none⟩ ∧ cap = c := by cases hv; exact ⟨rfl, rfl⟩
    clear hm
    have hm := hm'
    clear hm'
    simp only [List.set_cons_zero] at hm
    repeat' (first | refine c_seq ?_ | refine c_region ?_ | refine c_nil ?_ | refine k_then ?_ | refine c_block ?_ | ((refine st_op rfl rfl h ?_); clear h a; ((show Does _ (.assign _) _ _ _ _; refine does_assign rfl ?_)); intro a h; (try simp only [Value.cells, List.toList_toArray, splice, List.set_cons_zero, List.set_cons_succ, List.drop_zero, List.drop_succ_cons, List.take_succ_cons, List.take_zero, Nat.zero_add, Nat.reduceAdd, Nat.reduceMul, Int.reduceAdd, Int.reduceToNat, Int.reduceTMod, Nat.zero_mul, Nat.one_mul, Int.toNat_natCast] at h)))
    refine c_loop (σ := Nat) (fun k a w => k ≤ xs.length ∧ Mem W0 X B (.blk b (.cells (((xs.take k).map eP).flatten ++ (((xs.drop k).map eP).flatten ++ spare)).toArray 102 (0, 0)) :: (((xs.drop k).map progLT).flatten ++ (((mkL mkP nxP m (xs.take k)).map progLT).flatten ++ L))) w ∧ Holds [(0, .slice (some ⟨b, 0, none⟩) xs.length cap), (1, I (enL nxP m (xs.take k))), (5, .int .i64 k)] _ a) (fun k => xs.length - k) 0
      ⟨Nat.zero_le _, by simpa [mkL] using hm, h.keep ⟨rfl, rfl, rfl, trivial⟩⟩ ?_
    clear h hm
    rintro k a w ⟨hk, hm, h⟩
    have hbd := enL_bd nxP 2000000000000 xs (nxP_bd hsm) m k hk
    have hA : ((xs.take k).map eP).flatten.length = k * 2 := by rw [flat_len (enc := eP) (sz := 2) (fun _ => rfl), List.length_take, Nat.min_eq_left hk]
    by_cases hlt : k < xs.length
    · have hsmk := hsm _ (List.getElem_mem hlt)
      obtain ⟨⟨g1, g2⟩, g3⟩ := hsm _ (List.getElem_mem hlt)
      have es := mkL_succ mkP nxP m hlt
      have ee := enL_succ nxP m hlt
      have et := take_map_snoc eP hlt
      generalize hgA : ((xs.take k).map eP).flatten = A at hm hA
      generalize hgM : mkL mkP nxP m (xs.take k) = M at *
      generalize hgm : enL nxP m (xs.take k) = m1 at *
      have hone := nxP_one hsmk m1
      rw [List.drop_eq_getElem_cons hlt, List.map_cons, List.map_cons, List.flatten_cons, List.flatten_cons, List.append_assoc, List.append_assoc] at hm
      generalize hD : ((xs.drop (k + 1)).map eP).flatten ++ spare = D at hm
      generalize hE : ((xs.drop (k + 1)).map progLT).flatten ++ ((M.map progLT).flatten ++ L) = E1 at hm
      replace hm : Mem W0 X B (.blk b (.cells (A ++ (eP xs[k] ++ D)).toArray 102 (0, 0)) :: .row (.slice xs[k].q xs[k].ys.length xs[k].d) 136 2 (xs[k].ys.map eAssignment).flatten :: (nodesL xs[k].p xs[k].c xs[k].xs ++ E1)) w := hm
      repeat' (first | refine c_seq ?_ | refine c_region ?_ | refine c_nil ?_ | refine k_then ?_ | refine c_skip ?_ | refine c_block ?_ | refine c_condT h rfl ?_ | ((refine st_op rfl rfl h ?_); clear h a; (first | (show Does _ (.load _ _) _ _ _ _; (((refine does_loadM 0 hm rfl rfl (by assumption) (by omega) rfl ?_)))) | (show Does _ (.move _) _ _ _ _; refine does_move rfl ?_) | (show Does _ (.fieldAddr _ _ _) _ _ _ _; (refine does_fieldAddrL rfl ?_)) | (show Does _ (.binOp _ _ _ _ _) _ _ _ _; (refine does_lssT rfl rfl (by omega) ?_)) | (show Does _ (.call _) _ _ _ _; refine does_lenS (SliceT.out) rfl ?_) | (show Does _ (.indexAddr _ _ _) _ _ _ _; (refine does_indexSLn (by omega) rfl rfl ?_))); intro a h; (try simp only [Value.cells, List.toList_toArray, splice, List.set_cons_zero, List.set_cons_succ, List.drop_zero, List.drop_succ_cons, List.take_succ_cons, List.take_zero, Nat.zero_add, Nat.reduceAdd, Nat.reduceMul, Int.reduceAdd, Int.reduceToNat, Int.reduceTMod, Nat.zero_mul, Nat.one_mul, Int.toNat_natCast] at h)))
      replace hm := Mem.forth (A := [_, _]) (N := nodesL xs[k].p xs[k].c xs[k].xs) (L := E1) hm
      refine st_op rfl rfl h ?_; clear h a; refine does_funL (L0 := nodesL xs[k].p xs[k].c xs[k].xs) hm en70 rfl (markNodeS_E _ xs[k].xs _ m1 (by omega) g1 g2) trivial ?_; clear hm; rintro _ _ w ⟨rfl, rfl⟩ hm a h
      replace hm := Mem.forth (A := nodesL xs[k].p xs[k].c (mkL mkN nxN m1 xs[k].xs)) (N := [_, _]) (L := E1) hm
      simp only [List.cons_append, List.nil_append] at hm
      replace hm : Mem W0 X B (.blk b (.cells (A ++ (eP xs[k] ++ D)).toArray 102 (0, 0)) :: .row (.slice xs[k].q xs[k].ys.length xs[k].d) 136 2 (xs[k].ys.map eAssignment).flatten :: (nodesL xs[k].p xs[k].c (mkL mkN nxN m1 xs[k].xs) ++ E1)) w := hm
      generalize hgN : nodesL xs[k].p xs[k].c (mkL mkN nxN m1 xs[k].xs) = NL at hm
      repeat' (first | refine c_region ?_ | refine c_nil ?_ | refine k_then ?_ | ((refine st_op rfl rfl h ?_); clear h a; (first | (show Does _ (.load _ _) _ _ _ _; (((refine does_loadM 0 hm rfl rfl (by assumption) (by omega) rfl ?_)))) | (show Does _ (.move _) _ _ _ _; refine does_move rfl ?_) | (show Does _ (.assign _) _ _ _ _; refine does_assign rfl ?_) | (show Does _ (.fieldAddr _ _ _) _ _ _ _; (refine does_fieldAddrL rfl ?_)) | (show Does _ (.indexAddr _ _ _) _ _ _ _; (refine does_indexSLn (by omega) rfl rfl ?_))); intro a h; (try simp only [Value.cells, List.toList_toArray, splice, List.set_cons_zero, List.set_cons_succ, List.drop_zero, List.drop_succ_cons, List.take_succ_cons, List.take_zero, Nat.zero_add, Nat.reduceAdd, Nat.reduceMul, Int.reduceAdd, Int.reduceToNat, Int.reduceTMod, Nat.zero_mul, Nat.one_mul, Int.toNat_natCast] at h)))
      replace hm := hm.perm (List.Perm.swap _ _ _)
      refine st_op rfl rfl h ?_; clear h a; refine does_funL (L0 := [_]) hm en71 rfl (markAssignmentS_E _ xs[k].ys _ (enL nxN m1 xs[k].xs) (by omega) g3) trivial ?_; clear hm; rintro _ _ w ⟨rfl, rfl⟩ hm a h; simp only [List.cons_append, List.nil_append] at hm
      replace hm := hm.perm (List.Perm.swap _ _ _)
      repeat' (first | refine c_region ?_ | refine c_nil ?_ | refine k_then ?_ | refine k_inN ?_ | ((refine st_op rfl rfl h ?_); clear h a; (first | (show Does _ (.move _) _ _ _ _; refine does_move rfl ?_) | (show Does _ (.assign _) _ _ _ _; refine does_assign rfl ?_) | (show Does _ (.binOp _ _ _ _ _) _ _ _ _; (refine does_add rfl rfl (by omega) ?_))); intro a h; (try simp only [Value.cells, List.toList_toArray, splice, List.set_cons_zero, List.set_cons_succ, List.drop_zero, List.drop_succ_cons, List.take_succ_cons, List.take_zero, Nat.zero_add, Nat.reduceAdd, Nat.reduceMul, Int.reduceAdd, Int.reduceToNat, Int.reduceTMod, Nat.zero_mul, Nat.one_mul, Int.toNat_natCast] at h)))
      refine k_thenN ⟨k + 1, ⟨hlt, ?_, ?_⟩, by omega⟩
      · rw [es, ← et, List.flatten_append, hgA, hD, List.append_assoc, List.map_append, List.flatten_append]
        simp only [List.map_cons, List.map_nil, List.flatten_cons, List.flatten_nil, List.append_nil]
        rw [progLT_mk, hgN]
        rw [← hE, ← List.cons_append] at hm
        exact hm.perm ((perm_move _ _ _ _).cons _)
      · rw [ee]
        exact h.keep ⟨rfl, rfl, rfl, trivial⟩
    · obtain rfl : k = xs.length := by omega
      rw [List.take_length] at hA hm h
      rw [List.drop_length, List.map_nil, List.flatten_nil, List.nil_append, List.map_nil, List.flatten_nil, List.nil_append] at hm
      replace hm := hm.ofBlk 0 (sz := 2) (n := xs.length) rfl hA hlen hcc hcm
      simp only [List.set_cons_zero] at hm
      repeat' (first | refine c_seq ?_ | refine c_region ?_ | refine c_nil ?_ | refine k_then ?_ | refine k_thenE ?_ | refine k_inE ?_ | refine c_ret ?_ | refine c_exit ?_ | refine c_condF h rfl ?_ | ((refine st_op rfl rfl h ?_); clear h a; (first | (show Does _ (.move _) _ _ _ _; refine does_move rfl ?_) | (show Does _ (.assign _) _ _ _ _; refine does_assign rfl ?_) | (show Does _ (.binOp _ _ _ _ _) _ _ _ _; (refine does_lssF rfl rfl (by omega) ?_)) | (show Does _ (.call _) _ _ _ _; refine does_lenS (SliceT.out) rfl ?_)); intro a h; (try simp only [Value.cells, List.toList_toArray, splice, List.set_cons_zero, List.set_cons_succ, List.drop_zero, List.drop_succ_cons, List.take_succ_cons, List.take_zero, Nat.zero_add, Nat.reduceAdd, Nat.reduceMul, Int.reduceAdd, Int.reduceToNat, Int.reduceTMod, Nat.zero_mul, Nat.one_mul, Int.toNat_natCast] at h)))
      refine k_ret1 rfl h rfl ⟨progsL _ _ (mkL mkP nxP m xs), ⟨rfl, rfl⟩, ?_⟩
      simp only [progsL, mkL_len, eP_mkL]
      exact hm
set_option maxHeartbeats 8000000 in
theorem heldProgramS_E (p : Option Addr) (xs : List TProg) (c : Nat) (m : Int) (hm0 : 0 ≤ m ∧ m ≤ 1000000000000) (hxs : xs.length ≤ 1048576) (hsm : ∀ x ∈ xs, smP x) : FunP Tryz.prog 39 [.slice p xs.length c, I m] (fun H => ProgsH H p (mkL mkP nxP m xs)) (I (enL nxP m xs)) := by
  refine enterFunP Tryz.func39 rfl Tryz.ntmps39 rfl (fun W0 w a hp hm h => ?_)
  repeat' (first | refine c_seq ?_ | refine c_region ?_ | refine c_nil ?_ | refine k_then ?_ | refine c_block ?_ | ((refine st_op rfl rfl h ?_); clear h a; ((show Does _ (.assign _) _ _ _ _; refine does_assign rfl ?_)); intro a h; (try simp only [Value.cells, List.toList_toArray, splice, List.set_cons_zero, List.set_cons_succ, List.drop_zero, List.drop_succ_cons, List.take_succ_cons, List.take_zero, Nat.zero_add, Nat.reduceAdd, Nat.reduceMul, Int.reduceAdd, Int.reduceToNat, Int.reduceTMod, Nat.zero_mul, Nat.one_mul, Int.toNat_natCast] at h)))
  refine c_loop (σ := Nat) (fun k a w => k ≤ xs.length ∧ Mem W0 [] (fun b => W0.heap[b]?) [] w ∧ Holds [(0, .slice p xs.length c), (1, I (enL nxP m (xs.take k))), (5, .int .i64 k)] _ a) (fun k => xs.length - k) 0
    ⟨Nat.zero_le _, hm, h.keep ⟨rfl, rfl, rfl, trivial⟩⟩ ?_
  clear h hm
  rintro k a w ⟨hk, hm, h⟩
  have hbd := enL_bd nxP 2000000000000 xs (nxP_bd hsm) m k hk
  by_cases hlt : k < xs.length
  · have hsmk := hsm _ (List.getElem_mem hlt)
    obtain ⟨⟨g1, g2⟩, g3⟩ := hsm _ (List.getElem_mem hlt)
    have hlt' : k < (mkL mkP nxP m xs).length := by rw [mkL_len]; exact hlt
    obtain ⟨q1, rfl, hat1⟩ := hp.row.at (k := k) hlt'
    have hparts := hp.parts _ (List.getElem_mem hlt')
    rw [mkL_get _ _ m xs k hlt] at hat1 hparts
    rw [eP_mk] at hat1
    have ee := enL_succ nxP m hlt
    generalize hgm : enL nxP m (xs.take k) = m1 at *
    have hone := nxP_one hsmk m1
    obtain ⟨hn1, ha1⟩ := hparts
    simp only [mkP] at hn1 ha1
    simp only [nxP] at hone
    repeat' (first | refine c_seq ?_ | refine c_region ?_ | refine c_nil ?_ | refine k_then ?_ | refine k_inN ?_ | refine c_skip ?_ | refine c_block ?_ | refine c_condT h rfl ?_ | refine c_condF h rfl ?_ | ((refine st_op rfl rfl h ?_); clear h a; (first | (show Does _ (.call _) _ _ _ _; (first | ((refine does_funP hm en72 rfl (heldNodeS_E _ xs[k].xs _ m1 (by omega) g1 g2) (hn1.up hm) ?_; clear hm; intro w hm)) | ((refine does_funP hm en73 rfl (heldAssignmentS_E _ xs[k].ys _ (enL nxN m1 xs[k].xs) (by omega) g3) (ha1.up hm) ?_; clear hm; intro w hm)) | refine does_lenS (SliceT.out) rfl ?_)) | (show Does _ (.move _) _ _ _ _; refine does_move rfl ?_) | (show Does _ (.assign _) _ _ _ _; refine does_assign rfl ?_) | (show Does _ (.fieldAddr _ _ _) _ _ _ _; (refine does_fieldAddr rfl ?_)) | (show Does _ (.load _ _) _ _ _ _; (first | refine does_loadB hm rfl (by assumption) rfl ?_ | refine does_loadB hm rfl (At.add (by assumption) _) rfl ?_)) | (show Does _ (.binOp _ _ _ _ _) _ _ _ _; (first | refine does_lssT rfl rfl (by omega) ?_ | refine does_lssF rfl rfl (by omega) ?_ | refine does_add rfl rfl (by omega) ?_)) | (show Does _ (.indexAddr _ _ _) _ _ _ _; (refine does_indexSn (by omega) rfl rfl ?_))); intro a h; (try simp only [Value.cells, List.toList_toArray, splice, List.set_cons_zero, List.set_cons_succ, List.drop_zero, List.drop_succ_cons, List.take_succ_cons, List.take_zero, Nat.zero_add, Nat.reduceAdd, Nat.reduceMul, Int.reduceAdd, Int.reduceToNat, Int.reduceTMod, Nat.zero_mul, Nat.one_mul, Int.toNat_natCast] at h)))
    refine k_thenN ⟨k + 1, ⟨hlt, hm, ?_⟩, by omega⟩
    rw [ee]
    exact h.keep ⟨rfl, rfl, rfl, trivial⟩
  · obtain rfl : k = xs.length := by omega
    rw [List.take_length] at h
    repeat' (first | refine c_seq ?_ | refine c_region ?_ | refine c_nil ?_ | refine k_then ?_ | refine k_thenE ?_ | refine k_inE ?_ | refine c_ret ?_ | refine c_exit ?_ | refine c_condF h rfl ?_ | ((refine st_op rfl rfl h ?_); clear h a; (first | (show Does _ (.move _) _ _ _ _; refine does_move rfl ?_) | (show Does _ (.assign _) _ _ _ _; refine does_assign rfl ?_) | (show Does _ (.binOp _ _ _ _ _) _ _ _ _; (refine does_lssF rfl rfl (by omega) ?_)) | (show Does _ (.call _) _ _ _ _; refine does_lenS (SliceT.out) rfl ?_)); intro a h; (try simp only [Value.cells, List.toList_toArray, splice, List.set_cons_zero, List.set_cons_succ, List.drop_zero, List.drop_succ_cons, List.take_succ_cons, List.take_zero, Nat.zero_add, Nat.reduceAdd, Nat.reduceMul, Int.reduceAdd, Int.reduceToNat, Int.reduceTMod, Nat.zero_mul, Nat.one_mul, Int.toNat_natCast] at h)))
    (refine k_ret1 rfl h rfl ⟨?_, hm.below⟩)
    rfl
def mkSc (m : Int) (x : TScene) : TScene := { x with tx := rampI m x.tx.length, sh := mkL mkP nxP (m + 1 * x.tx.length) x.sh, su := mkL mkS nxS (enL nxP (m + 1 * x.tx.length) x.sh) x.su }
def enSc (m : Int) (x : TScene) : Int := enL nxS (enL nxP (m + 1 * x.tx.length) x.sh) x.su
theorem enSc_bd {x : TScene} (hs1 : x.tx.length ≤ 1048576) (hs2 : x.sh.length ≤ 1048576) (hs3 : ∀ y ∈ x.sh, smP y) (hs4 : x.su.length ≤ 1048577) : ∀ m : Int, (m ≤ m + 1 * x.tx.length ∧ m + 1 * x.tx.length ≤ m + 1048577) ∧ (m ≤ enL nxP (m + 1 * x.tx.length) x.sh ∧ enL nxP (m + 1 * x.tx.length) x.sh ≤ m + 2500000000000000000) ∧ m ≤ enSc m x ∧ enSc m x ≤ m + 2600000000000000000 := fun m => by
  have e1 := enL_all nxP 2000000000000 x.sh (nxP_bd hs3) (m + 1 * x.tx.length)
  have e2 := enL_all nxS 2 x.su (nxS_bd x.su) (enL nxP (m + 1 * x.tx.length) x.sh)
  unfold enSc
  omega
set_option maxHeartbeats 8000000 in
theorem markTexture_E (g : Int) (p : Option Addr) (xs : List Int) (c : Nat) (m : Int) (hm0 : 0 ≤ m ∧ m ≤ 4000000000000000000) (hxs : xs.length ≤ 1048576) : FunL Tryz.prog 35 [.agg #[I g, .slice p xs.length c], I m] [.row (.slice p xs.length c) 3 1 (xs.map eI).flatten] (fun _ => True)
    (fun v L' => v = I (m + 1 * xs.length) ∧ L' = [.row (.slice p xs.length c) 3 1 ((rampI m xs.length).map eI).flatten]) := by
  refine enterFunL Tryz.func35 rfl Tryz.ntmps35 rfl (fun W0 X B L w a hp hm h => ?_)
  simp only [List.cons_append, List.nil_append] at hm
  repeat' (first | refine c_seq ?_ | refine c_region ?_ | refine c_nil ?_ | refine k_then ?_ | ((refine st_op rfl rfl h ?_); clear h a; (first | (show Does _ (.box _ _) _ _ _ _; (refine does_box hm rfl rfl ?_; clear hm; intro b w hm)) | (show Does _ (.move _) _ _ _ _; refine does_move rfl ?_) | (show Does _ (.assign _) _ _ _ _; refine does_assign rfl ?_) | (show Does _ (.fieldAddr _ _ _) _ _ _ _; (refine does_fieldAddrL rfl ?_)) | (show Does _ (.load _ _) _ _ _ _; (refine does_loadO 0 hm rfl rfl rfl ?_))); intro a h; (try simp only [Value.cells, List.toList_toArray, splice, List.set_cons_zero, List.set_cons_succ, List.drop_zero, List.drop_succ_cons, List.take_succ_cons, List.take_zero, Nat.zero_add, Nat.reduceAdd, Nat.reduceMul, Int.reduceAdd, Int.reduceToNat, Int.reduceTMod, Nat.zero_mul, Nat.one_mul, Int.toNat_natCast] at h)))
  refine st_op rfl rfl h ?_; clear h a; refine does_funW 1 hm en17 rfl (markIntS_ok _ _ _ (by omega) (by omega)) rfl ?_; clear hm; intro w hm a h; simp only [List.set_cons_zero, List.set_cons_succ] at hm
  repeat' (first | refine c_seq ?_ | refine c_region ?_ | refine c_nil ?_ | refine k_then ?_ | refine c_ret ?_ | ((refine st_op rfl rfl h ?_); clear h a; (first | (show Does _ (.move _) _ _ _ _; refine does_move rfl ?_) | (show Does _ (.assign _) _ _ _ _; refine does_assign rfl ?_)); intro a h; (try simp only [Value.cells, List.toList_toArray, splice, List.set_cons_zero, List.set_cons_succ, List.drop_zero, List.drop_succ_cons, List.take_succ_cons, List.take_zero, Nat.zero_add, Nat.reduceAdd, Nat.reduceMul, Int.reduceAdd, Int.reduceToNat, Int.reduceTMod, Nat.zero_mul, Nat.one_mul, Int.toNat_natCast] at h)))
  exact k_ret1 rfl h rfl ⟨_, ⟨rfl, rfl⟩, hm.sub (((List.Sublist.refl _).cons_cons _).cons _)⟩
set_option maxHeartbeats 8000000 in
theorem heldTexture_E (g : Int) (p : Option Addr) (n c : Nat) (m : Int) (hm0 : 0 ≤ m ∧ m ≤ 4000000000000000000) (hxs : n ≤ 1048576) : FunP Tryz.prog 38 [.agg #[I g, .slice p n c], I m] (fun H => Sl H p eI 1 (rampI m n)) (I (m + 1 * n)) := by
  refine enterFunP Tryz.func38 rfl Tryz.ntmps38 rfl (fun W0 w a hp hm h => ?_)
  repeat' (first | refine c_seq ?_ | refine c_region ?_ | refine c_nil ?_ | refine k_then ?_ | refine c_skip ?_ | refine c_ret ?_ | refine c_condF h rfl ?_ | ((refine st_op rfl rfl h ?_); clear h a; (first | (show Does _ (.call _) _ _ _ _; ((refine does_funP hm en18 rfl (heldIntS_ok _ n _ m (by omega) (by omega)) (hp.up hm) ?_; clear hm; intro w hm))) | (show Does _ (.box _ _) _ _ _ _; (refine does_box hm rfl rfl ?_; clear hm; intro b w hm)) | (show Does _ (.move _) _ _ _ _; refine does_move rfl ?_) | (show Does _ (.assign _) _ _ _ _; refine does_assign rfl ?_) | (show Does _ (.fieldAddr _ _ _) _ _ _ _; (refine does_fieldAddrL rfl ?_)) | (show Does _ (.load _ _) _ _ _ _; (refine does_loadO 0 hm rfl rfl rfl ?_)) | (show Does _ (.binOp _ _ _ _ _) _ _ _ _; (refine does_lssF rfl rfl (by omega) ?_))); intro a h; (try simp only [Value.cells, List.toList_toArray, splice, List.set_cons_zero, List.set_cons_succ, List.drop_zero, List.drop_succ_cons, List.take_succ_cons, List.take_zero, Nat.zero_add, Nat.reduceAdd, Nat.reduceMul, Int.reduceAdd, Int.reduceToNat, Int.reduceTMod, Nat.zero_mul, Nat.one_mul, Int.toNat_natCast] at h)))
  (refine k_ret1 rfl h rfl ⟨?_, hm.below⟩)
  rfl
set_option maxHeartbeats 16000000 in
theorem markScene_E (x : TScene) (m : Int) (hm0 : 0 ≤ m ∧ m ≤ 1000) (hs1 : x.tx.length ≤ 1048576) (hs2 : x.sh.length ≤ 1048576) (hs3 : ∀ y ∈ x.sh, smP y) (hs4 : x.su.length ≤ 1048577) : FunL Tryz.prog 11 [.agg (eSc x).toArray, I m] (scnL x) (fun _ => True)
    (fun v L' => v = I (enSc m x) ∧ L' = scnL (mkSc m x)) := by
  refine enterFunL Tryz.func11 rfl Tryz.ntmps11 rfl (fun W0 X B L w a hp hm0' h => ?_)
  have hm : Mem W0 X B (surL x :: (progsL x.sp x.sc x.sh ++ ([texL x] ++ L))) w := by rw [← List.append_assoc]; exact hm0'
  clear hm0'
  have hbd := enSc_bd hs1 hs2 hs3 hs4 m
  have e1 := enL_all nxP 2000000000000 x.sh (nxP_bd hs3) (m + 1 * x.tx.length)
  repeat' (first | refine c_seq ?_ | refine c_region ?_ | refine c_nil ?_ | refine k_then ?_ | (refine st_op (d := 2) rfl rfl h ?_; refine does_box hm rfl rfl ?_; clear h a hm; intro b_2 w hm a h; (try simp only [Value.cells, List.toList_toArray, splice, List.set_cons_zero, List.set_cons_succ, List.drop_zero, List.drop_succ_cons, List.take_succ_cons, List.take_zero, Nat.zero_add, Nat.reduceAdd, Nat.reduceMul, Int.reduceAdd, Int.reduceToNat, Int.reduceTMod, Nat.zero_mul, Nat.one_mul, Int.toNat_natCast] at h)) | ((refine st_op rfl rfl h ?_); clear h a; (first | (show Does _ (.move _) _ _ _ _; refine does_move rfl ?_) | (show Does _ (.assign _) _ _ _ _; refine does_assign rfl ?_) | (show Does _ (.fieldAddr _ _ _) _ _ _ _; (refine does_fieldAddrL rfl ?_)) | (show Does _ (.load _ _) _ _ _ _; (refine does_loadOA 0 hm rfl rfl rfl ?_))); intro a h; (try simp only [Value.cells, List.toList_toArray, splice, List.set_cons_zero, List.set_cons_succ, List.drop_zero, List.drop_succ_cons, List.take_succ_cons, List.take_zero, Nat.zero_add, Nat.reduceAdd, Nat.reduceMul, Int.reduceAdd, Int.reduceToNat, Int.reduceTMod, Nat.zero_mul, Nat.one_mul, Int.toNat_natCast] at h)))
  replace hm := Mem.forth (A := _ :: surL x :: progsL x.sp x.sc x.sh) (N := [texL x]) (L := L) hm
  refine st_op rfl rfl h ?_; clear h a; refine does_funL (L0 := [texL x]) hm en35 rfl (markTexture_E _ _ x.tx _ m (by omega) hs1) trivial ?_; clear hm; rintro _ _ w ⟨rfl, rfl⟩ hm a h
  replace hm := Mem.forth (A := [_]) (N := _ :: surL x :: progsL x.sp x.sc x.sh) (L := L) hm
  simp only [List.cons_append, List.nil_append] at hm
  repeat' (first | refine c_seq ?_ | refine c_region ?_ | refine c_nil ?_ | refine k_then ?_ | ((refine st_op rfl rfl h ?_); clear h a; (first | (show Does _ (.move _) _ _ _ _; refine does_move rfl ?_) | (show Does _ (.assign _) _ _ _ _; refine does_assign rfl ?_) | (show Does _ (.fieldAddr _ _ _) _ _ _ _; (refine does_fieldAddrL rfl ?_)) | (show Does _ (.load _ _) _ _ _ _; (refine does_loadO 0 hm rfl rfl rfl ?_))); intro a h; (try simp only [Value.cells, List.toList_toArray, splice, List.set_cons_zero, List.set_cons_succ, List.drop_zero, List.drop_succ_cons, List.take_succ_cons, List.take_zero, Nat.zero_add, Nat.reduceAdd, Nat.reduceMul, Int.reduceAdd, Int.reduceToNat, Int.reduceTMod, Nat.zero_mul, Nat.one_mul, Int.toNat_natCast] at h)))
  replace hm := Mem.forth (A := [_, _]) (N := progsL x.sp x.sc x.sh) (L := _ :: L) hm
  refine st_op rfl rfl h ?_; clear h a; refine does_funL (L0 := progsL x.sp x.sc x.sh) hm en36 rfl (markProgramS_E _ x.sh _ (m + 1 * x.tx.length) (by omega) hs2 hs3) trivial ?_; clear hm; rintro _ _ w ⟨rfl, rfl⟩ hm a h
  replace hm := Mem.forth (A := progsL x.sp x.sc (mkL mkP nxP (m + 1 * x.tx.length) x.sh)) (N := [_, _]) (L := _ :: L) hm
  generalize hgP : progsL x.sp x.sc (mkL mkP nxP (m + 1 * x.tx.length) x.sh) = PL at hm
  simp only [List.cons_append, List.nil_append] at hm
  repeat' (first | refine c_seq ?_ | refine c_region ?_ | refine c_nil ?_ | refine k_then ?_ | ((refine st_op rfl rfl h ?_); clear h a; (first | (show Does _ (.move _) _ _ _ _; refine does_move rfl ?_) | (show Does _ (.assign _) _ _ _ _; refine does_assign rfl ?_) | (show Does _ (.fieldAddr _ _ _) _ _ _ _; (refine does_fieldAddrL rfl ?_)) | (show Does _ (.load _ _) _ _ _ _; (refine does_loadO 0 hm rfl rfl rfl ?_))); intro a h; (try simp only [Value.cells, List.toList_toArray, splice, List.set_cons_zero, List.set_cons_succ, List.drop_zero, List.drop_succ_cons, List.take_succ_cons, List.take_zero, Nat.zero_add, Nat.reduceAdd, Nat.reduceMul, Int.reduceAdd, Int.reduceToNat, Int.reduceTMod, Nat.zero_mul, Nat.one_mul, Int.toNat_natCast] at h)))
  replace hm := hm.perm (List.Perm.swap _ _ _)
  refine st_op rfl rfl h ?_; clear h a; refine does_funL (L0 := [surL x]) hm en37 rfl (markSurfaceS_E _ x.su _ (enL nxP (m + 1 * x.tx.length) x.sh) (by omega) hs4) trivial ?_; clear hm; rintro _ _ w ⟨rfl, rfl⟩ hm a h; simp only [List.cons_append, List.nil_append] at hm
  replace hm := hm.perm (List.Perm.swap _ _ _)
  repeat' (first | refine c_seq ?_ | refine c_region ?_ | refine c_nil ?_ | refine k_then ?_ | refine c_ret ?_ | ((refine st_op rfl rfl h ?_); clear h a; (first | (show Does _ (.move _) _ _ _ _; refine does_move rfl ?_) | (show Does _ (.assign _) _ _ _ _; refine does_assign rfl ?_)); intro a h; (try simp only [Value.cells, List.toList_toArray, splice, List.set_cons_zero, List.set_cons_succ, List.drop_zero, List.drop_succ_cons, List.take_succ_cons, List.take_zero, Nat.zero_add, Nat.reduceAdd, Nat.reduceMul, Int.reduceAdd, Int.reduceToNat, Int.reduceTMod, Nat.zero_mul, Nat.one_mul, Int.toNat_natCast] at h)))
  refine k_ret1 rfl h rfl ⟨scnL (mkSc m x), ⟨rfl, rfl⟩, ?_⟩
  simp only [scnL, surL, texL, mkSc, mkL_len, rampI_len, List.cons_append, List.append_assoc, List.nil_append]
  rw [← hgP] at hm
  simp only [progsL, mkL_len, List.cons_append] at hm ⊢
  exact hm.drop
set_option maxHeartbeats 16000000 in
theorem heldScene_E (x : TScene) (m : Int) (hm0 : 0 ≤ m ∧ m ≤ 1000) (hs1 : x.tx.length ≤ 1048576) (hs2 : x.sh.length ≤ 1048576) (hs3 : ∀ y ∈ x.sh, smP y) (hs4 : x.su.length ≤ 1048577) : FunP Tryz.prog 12 [.agg (eSc x).toArray, I m] (fun H => SceneH H (mkSc m x)) (I (enSc m x)) := by
  refine enterFunP Tryz.func12 rfl Tryz.ntmps12 rfl (fun W0 w a hp hm h => ?_)
  have hbd := enSc_bd hs1 hs2 hs3 hs4 m
  have e1 := enL_all nxP 2000000000000 x.sh (nxP_bd hs3) (m + 1 * x.tx.length)
  obtain ⟨hx, hy, hz⟩ := hp
  simp only [mkSc, enSc] at hx hy hz hbd
  repeat' (first | refine c_seq ?_ | refine c_region ?_ | refine c_nil ?_ | refine k_then ?_ | refine c_skip ?_ | refine c_ret ?_ | refine c_condF h rfl ?_ | (refine st_op (d := 2) rfl rfl h ?_; refine does_box hm rfl rfl ?_; clear h a hm; intro b_2 w hm a h; (try simp only [Value.cells, List.toList_toArray, splice, List.set_cons_zero, List.set_cons_succ, List.drop_zero, List.drop_succ_cons, List.take_succ_cons, List.take_zero, Nat.zero_add, Nat.reduceAdd, Nat.reduceMul, Int.reduceAdd, Int.reduceToNat, Int.reduceTMod, Nat.zero_mul, Nat.one_mul, Int.toNat_natCast] at h)) | ((refine st_op rfl rfl h ?_); clear h a; (first | (show Does _ (.call _) _ _ _ _; (first | ((refine does_funP hm en38 rfl (heldTexture_E _ _ x.tx.length _ m (by omega) hs1) (hx.up hm) ?_; clear hm; intro w hm)) | ((refine does_funP hm en39 rfl (heldProgramS_E _ x.sh _ (m + 1 * x.tx.length) (by omega) hs2 hs3) (hy.up hm) ?_; clear hm; intro w hm)) | ((refine does_funP hm en40 rfl (heldSurfaceS_E _ x.su _ (enL nxP (m + 1 * x.tx.length) x.sh) (by omega) hs4) (hz.up hm) ?_; clear hm; intro w hm)))) | (show Does _ (.move _) _ _ _ _; refine does_move rfl ?_) | (show Does _ (.assign _) _ _ _ _; refine does_assign rfl ?_) | (show Does _ (.fieldAddr _ _ _) _ _ _ _; (refine does_fieldAddrL rfl ?_)) | (show Does _ (.load _ _) _ _ _ _; (first | refine does_loadO 0 hm rfl rfl rfl ?_ | refine does_loadOA 0 hm rfl rfl rfl ?_)) | (show Does _ (.binOp _ _ _ _ _) _ _ _ _; (refine does_lssF rfl rfl (by omega) ?_))); intro a h; (try simp only [Value.cells, List.toList_toArray, splice, List.set_cons_zero, List.set_cons_succ, List.drop_zero, List.drop_succ_cons, List.take_succ_cons, List.take_zero, Nat.zero_add, Nat.reduceAdd, Nat.reduceMul, Int.reduceAdd, Int.reduceToNat, Int.reduceTMod, Nat.zero_mul, Nat.one_mul, Int.toNat_natCast] at h)))
  (refine k_ret1 rfl h rfl ⟨?_, hm.below⟩)
  rfl
end Go.Proofs.YtbcboklmeifghaaGreat.St
