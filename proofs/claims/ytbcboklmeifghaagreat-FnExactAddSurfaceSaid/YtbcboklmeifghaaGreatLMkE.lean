/-
  Marks in programs, exactly: what stands there after the marking, and that the check finds it.
-/
import Derived.Test.YtbcboklmeifghaaGreatLMkP
import Derived.Test.YtbcboklmeifghaaGreatJ3
set_option linter.unusedSimpArgs false
set_option linter.unusedVariables false
namespace Go.Proofs.YtbcboklmeifghaaGreat.St
open Go.RowKit
def mkL {α : Type} (mk : Int → α → α) (nx : Int → α → Int) : Int → List α → List α
  | _, [] => []
  | m, x :: xs => mk m x :: mkL mk nx (nx m x) xs
def enL {α : Type} (nx : Int → α → Int) : Int → List α → Int
  | m, [] => m
  | m, x :: xs => enL nx (nx m x) xs
theorem mkL_len {α : Type} (mk : Int → α → α) (nx : Int → α → Int) : ∀ (m : Int) (xs : List α), (mkL mk nx m xs).length = xs.length
  | _, [] => rfl
  | m, x :: xs => by simp [mkL, mkL_len mk nx _ xs]
theorem enL_snoc {α : Type} (nx : Int → α → Int) : ∀ (m : Int) (xs : List α) (x : α), enL nx m (xs ++ [x]) = nx (enL nx m xs) x
  | _, [], _ => rfl
  | m, y :: xs, x => by simp only [List.cons_append, enL]; exact enL_snoc nx _ xs x
theorem mkL_snoc {α : Type} (mk : Int → α → α) (nx : Int → α → Int) : ∀ (m : Int) (xs : List α) (x : α), mkL mk nx m (xs ++ [x]) = mkL mk nx m xs ++ [mk (enL nx m xs) x]
  | _, [], _ => rfl
  | m, y :: xs, x => by simp only [List.cons_append, mkL, enL]; rw [mkL_snoc mk nx _ xs x]
theorem mkL_succ {α : Type} (mk : Int → α → α) (nx : Int → α → Int) (m : Int) {xs : List α} {k : Nat} (h : k < xs.length) : mkL mk nx m (xs.take (k + 1)) = mkL mk nx m (xs.take k) ++ [mk (enL nx m (xs.take k)) xs[k]] := by
  rw [List.take_succ_eq_append_getElem h, mkL_snoc]
theorem enL_succ {α : Type} (nx : Int → α → Int) (m : Int) {xs : List α} {k : Nat} (h : k < xs.length) : enL nx m (xs.take (k + 1)) = nx (enL nx m (xs.take k)) xs[k] := by
  rw [List.take_succ_eq_append_getElem h, enL_snoc]
theorem mkL_get {α : Type} (mk : Int → α → α) (nx : Int → α → Int) : ∀ (m : Int) (xs : List α) (k : Nat) (h : k < xs.length), (mkL mk nx m xs)[k]'(by rw [mkL_len]; exact h) = mk (enL nx m (xs.take k)) xs[k]
  | m, x :: xs, 0, _ => rfl
  | m, x :: xs, k + 1, h => by simpa [mkL, enL] using mkL_get mk nx (nx m x) xs k (by simpa using h)
theorem enL_bd {α : Type} (nx : Int → α → Int) (c : Int) (xs : List α) (hc : ∀ x ∈ xs, ∀ m, m ≤ nx m x ∧ nx m x ≤ m + c) (m : Int) : ∀ k : Nat, k ≤ xs.length → m ≤ enL nx m (xs.take k) ∧ enL nx m (xs.take k) ≤ m + c * k
  | 0, _ => by simp [enL]
  | k + 1, h => by
    have ih := enL_bd nx c xs hc m k (by omega)
    have h1 := hc xs[k] (List.getElem_mem (by omega)) (enL nx m (xs.take k))
    rw [enL_succ nx m (show k < xs.length by omega)]
    have e : c * ((k + 1 : Nat) : Int) = c * (k : Int) + c := by rw [Int.natCast_add, Int.mul_add]; simp
    omega
theorem mkL_map_len {α : Type} (mk : Int → α → α) (nx : Int → α → Int) (enc : α → List Value) {sz : Nat} (hf : ∀ x, (enc x).length = sz) (m : Int) {xs : List α} {k : Nat} (hk : k ≤ xs.length) : ((mkL mk nx m (xs.take k)).map enc).flatten.length = k * sz := by
  rw [flat_len (enc := enc) (sz := sz) hf, mkL_len, List.length_take, Nat.min_eq_left hk]
abbrev mkN (m : Int) (x : TNode) : TNode := { x with a := { x.a with op := m, name := mText (m + 1), num := m + 1 + 1, args := rampI (m + 1 + 1 + 1) x.a.args.length } }
abbrev nxN (m : Int) (x : TNode) : Int := m + 1 + 1 + 1 + 1 * (x.a.args.length : Int)
abbrev mkA (m : Int) (_ : TAssignment) : TAssignment := (mText m, m + 1)
abbrev nxA (m : Int) (_ : TAssignment) : Int := m + 1 + 1
theorem nxN_bd {xs : List TNode} (hsm : ∀ x ∈ xs, smN x) : ∀ x ∈ xs, ∀ m, m ≤ nxN m x ∧ nxN m x ≤ m + 1048580 := fun x hx m => by
  have h : x.a.args.length ≤ 1048576 := hsm x hx
  unfold nxN; omega
theorem nxA_bd (xs : List TAssignment) : ∀ x ∈ xs, ∀ m, m ≤ nxA m x ∧ nxA m x ≤ m + 2 := fun x _ m => by unfold nxA; omega
set_option maxHeartbeats 8000000 in
theorem markAssignmentS_E (p : Option Addr) (xs : List TAssignment) (c : Nat) (m : Int) (hm0 : 0 ≤ m ∧ m ≤ 4000000000000000000) (hxs : xs.length ≤ 1048576) : FunL Tryz.prog 71 [.slice p xs.length c, I m] [.row (.slice p xs.length c) 136 2 (xs.map eAssignment).flatten] (fun _ => True)
    (fun v L' => v = I (enL nxA m xs) ∧ L' = [.row (.slice p xs.length c) 136 2 ((mkL mkA nxA m xs).map eAssignment).flatten]) := by
  refine enterFunL Tryz.func71 rfl Tryz.ntmps71 rfl (fun W0 X B L w a hp hm h => ?_)
  by_cases h0 : xs.length = 0
  · obtain rfl : xs = [] := List.eq_nil_of_length_eq_zero h0
    repeat' (first | refine c_seq ?_ | refine c_region ?_ | refine c_nil ?_ | refine k_then ?_ | refine k_thenE ?_ | refine k_inE ?_ | refine c_ret ?_ | refine c_exit ?_ | refine c_block ?_ | refine r_succ ?_ | refine c_condF h rfl ?_ | (refine c_rounds 1 ?_) | ((refine st_op rfl rfl h ?_); clear h a; (first | (show Does _ (.call _) _ _ _ _; (refine does_lenS (SliceT.out) rfl ?_)) | (show Does _ (.move _) _ _ _ _; refine does_move rfl ?_) | (show Does _ (.assign _) _ _ _ _; refine does_assign rfl ?_) | (show Does _ (.binOp _ _ _ _ _) _ _ _ _; (refine zlss rfl rfl ?_))); intro a h; (try simp only [Value.cells, splice, nz, Nat.reduceAdd, Nat.reduceMul, Int.reduceAdd, Int.reduceToNat, Int.reduceTMod] at h)))
    exact k_ret1 rfl h rfl ⟨_, ⟨rfl, rfl⟩, hm⟩
  · simp only [List.cons_append, List.nil_append] at hm
    obtain ⟨b, cap, spare, hv, hcc, hcm, hlen, hm'⟩ := hm.toBlk 0 (n := xs.length) rfl (flat_len (enc := eAssignment) (sz := 2) (fun _ => rfl) xs) (by omega) (by omega)
    obtain ⟨rfl, rfl⟩ : p = some ⟨b, 0, none⟩ ∧ cap = c := by cases hv; exact ⟨rfl, rfl⟩
    clear hm
    have hm := hm'
    clear hm'
    simp only [List.set_cons_zero] at hm
    repeat' (first | refine c_seq ?_ | refine c_region ?_ | refine c_nil ?_ | refine k_then ?_ | refine c_block ?_ | ((refine st_op rfl rfl h ?_); clear h a; ((show Does _ (.assign _) _ _ _ _; refine does_assign rfl ?_)); intro a h; (try simp only [Value.cells, splice, nz, Nat.reduceAdd, Nat.reduceMul, Int.reduceAdd, Int.reduceToNat, Int.reduceTMod] at h)))
    refine c_loop (σ := Nat) (fun k a w => k ≤ xs.length ∧ Mem W0 X B (.blk b (.cells (((mkL mkA nxA m (xs.take k)).map eAssignment).flatten ++ (((xs.drop k).map eAssignment).flatten ++ spare)).toArray 136 (0, 0)) :: L) w ∧ Holds [(0, .slice (some ⟨b, 0, none⟩) xs.length cap), (1, I (enL nxA m (xs.take k))), (5, .int .i64 k)] _ a) (fun k => xs.length - k) 0
      ⟨Nat.zero_le _, by simpa [mkL] using hm, h.keep ⟨rfl, rfl, rfl, trivial⟩⟩ ?_
    clear h hm
    rintro k a w ⟨hk, hm, h⟩
    have hA := mkL_map_len mkA nxA eAssignment (sz := 2) (fun _ => rfl) m hk
    have hbd := enL_bd nxA 2 xs (nxA_bd xs) m k hk
    by_cases hlt : k < xs.length
    · have es := mkL_succ mkA nxA m hlt
      have ee := enL_succ nxA m hlt
      generalize hgA : ((mkL mkA nxA m (xs.take k)).map eAssignment).flatten = A at hm hA
      generalize hm1 : enL nxA m (xs.take k) = m1 at *
      rw [List.drop_eq_getElem_cons hlt, List.map_cons, List.flatten_cons, List.append_assoc] at hm
      generalize hD : ((xs.drop (k + 1)).map eAssignment).flatten ++ spare = D at hm
      repeat' (first | refine c_seq ?_ | refine c_region ?_ | refine c_nil ?_ | refine k_then ?_ | refine k_inN ?_ | refine c_skip ?_ | refine c_block ?_ | refine c_condT h rfl ?_ | ((first | refine st_op rfl rfl h ?_ | refine st_opn rfl h ?_); clear h a; (first | (show Does _ (.store _ _ _) _ _ _ _; ((refine does_storeM 0 hm rfl rfl rfl (by assumption) (by omega) rfl rfl rfl rfl ?_); clear hm; intro w hm; (try simp only [Value.cells, splice, nz, ns, Nat.reduceAdd, Nat.reduceMul, Int.reduceAdd, Int.reduceToNat] at hm))) | (show Does _ (.call _) _ _ _ _; (first | ((refine does_funM hm en103 rfl (markText_ok _ (by omega)) ?_); clear hm; intro w hm) | refine does_lenS (SliceT.out) rfl ?_)) | (show Does _ (.move _) _ _ _ _; refine does_move rfl ?_) | (show Does _ (.assign _) _ _ _ _; refine does_assign rfl ?_) | (show Does _ (.fieldAddr _ _ _) _ _ _ _; (refine does_fieldAddrL rfl ?_)) | (show Does _ (.binOp _ _ _ _ _) _ _ _ _; (first | refine zlss rfl rfl ?_ | refine zadd rfl rfl ?_)) | (show Does _ (.indexAddr _ _ _) _ _ _ _; (refine ziSLn rfl rfl ?_))); intro a h; (try simp only [Value.cells, splice, nz, Nat.reduceAdd, Nat.reduceMul, Int.reduceAdd, Int.reduceToNat, Int.reduceTMod] at h)))
      refine k_thenN ⟨k + 1, ⟨hlt, ?_, ?_⟩, by omega⟩
      · rw [es, List.map_append, List.flatten_append, hgA, hD, List.append_assoc]
        exact hm
      · rw [ee]
        exact h.keep ⟨rfl, rfl, rfl, trivial⟩
    · obtain rfl : k = xs.length := by omega
      rw [List.take_length] at hA hm h
      rw [List.drop_length, List.map_nil, List.flatten_nil, List.nil_append] at hm
      have hl2 : (((mkL mkA nxA m xs).map eAssignment).flatten ++ spare).length = cap * 2 := by
        have := flat_len (enc := eAssignment) (sz := 2) (fun _ => rfl) xs
        rw [List.length_append] at hlen ⊢
        omega
      replace hm := hm.ofBlk 0 (sz := 2) (n := xs.length) rfl hA hl2 hcc hcm
      simp only [List.set_cons_zero] at hm
      repeat' (first | refine c_seq ?_ | refine c_region ?_ | refine c_nil ?_ | refine k_then ?_ | refine k_thenE ?_ | refine k_inE ?_ | refine c_ret ?_ | refine c_exit ?_ | refine c_condF h rfl ?_ | ((refine st_op rfl rfl h ?_); clear h a; (first | (show Does _ (.call _) _ _ _ _; (refine does_lenS (SliceT.out) rfl ?_)) | (show Does _ (.move _) _ _ _ _; refine does_move rfl ?_) | (show Does _ (.assign _) _ _ _ _; refine does_assign rfl ?_) | (show Does _ (.binOp _ _ _ _ _) _ _ _ _; (refine zlss rfl rfl ?_))); intro a h; (try simp only [Value.cells, splice, nz, Nat.reduceAdd, Nat.reduceMul, Int.reduceAdd, Int.reduceToNat, Int.reduceTMod] at h)))
      exact k_ret1 rfl h rfl ⟨_, ⟨rfl, rfl⟩, hm⟩
set_option maxHeartbeats 8000000 in
theorem markNodeS_E (p : Option Addr) (xs : List TNode) (c : Nat) (m : Int) (hm0 : 0 ≤ m ∧ m ≤ 4000000000000000000) (hxs : xs.length ≤ 1048576) (hsm : ∀ x ∈ xs, smN x) : FunL Tryz.prog 70 [.slice p xs.length c, I m] (nodesL p c xs) (fun _ => True)
    (fun v L' => v = I (enL nxN m xs) ∧ L' = nodesL p c (mkL mkN nxN m xs)) := by
  refine enterFunL Tryz.func70 rfl Tryz.ntmps70 rfl (fun W0 X B L w a hp hm h => ?_)
  by_cases h0 : xs.length = 0
  · obtain rfl : xs = [] := List.eq_nil_of_length_eq_zero h0
    repeat' (first | refine c_seq ?_ | refine c_region ?_ | refine c_nil ?_ | refine k_then ?_ | refine k_thenE ?_ | refine k_inE ?_ | refine c_ret ?_ | refine c_exit ?_ | refine c_block ?_ | refine r_succ ?_ | refine c_condF h rfl ?_ | (refine c_rounds 1 ?_) | ((refine st_op rfl rfl h ?_); clear h a; (first | (show Does _ (.call _) _ _ _ _; (refine does_lenS (SliceT.out) rfl ?_)) | (show Does _ (.move _) _ _ _ _; refine does_move rfl ?_) | (show Does _ (.assign _) _ _ _ _; refine does_assign rfl ?_) | (show Does _ (.binOp _ _ _ _ _) _ _ _ _; (refine zlss rfl rfl ?_))); intro a h; (try simp only [Value.cells, splice, nz, Nat.reduceAdd, Nat.reduceMul, Int.reduceAdd, Int.reduceToNat, Int.reduceTMod] at h)))
    exact k_ret1 rfl h rfl ⟨_, ⟨rfl, rfl⟩, hm⟩
  · simp only [nodesL, List.cons_append] at hm
    obtain ⟨b, cap, spare, hv, hcc, hcm, hlen, hm'⟩ := hm.toBlk 0 (n := xs.length) rfl (flat_len (enc := eN) (sz := 4) (fun _ => rfl) xs) (by omega) (by omega)
    obtain ⟨rfl, rfl⟩ : p = some ⟨b, 0, none⟩ ∧ cap = c := by cases hv; exact ⟨rfl, rfl⟩
    clear hm
    have hm := hm'
    clear hm'
    simp only [List.set_cons_zero] at hm
    repeat' (first | refine c_seq ?_ | refine c_region ?_ | refine c_nil ?_ | refine k_then ?_ | refine c_block ?_ | ((refine st_op rfl rfl h ?_); clear h a; ((show Does _ (.assign _) _ _ _ _; refine does_assign rfl ?_)); intro a h; (try simp only [Value.cells, splice, nz, Nat.reduceAdd, Nat.reduceMul, Int.reduceAdd, Int.reduceToNat, Int.reduceTMod] at h)))
    refine c_loop (σ := Nat) (fun k a w => k ≤ xs.length ∧ Mem W0 X B (.blk b (.cells (((mkL mkN nxN m (xs.take k)).map eN).flatten ++ (((xs.drop k).map eN).flatten ++ spare)).toArray 132 (0, 0)) :: ((xs.drop k).map argRow ++ ((mkL mkN nxN m (xs.take k)).map argRow ++ L))) w ∧ Holds [(0, .slice (some ⟨b, 0, none⟩) xs.length cap), (1, I (enL nxN m (xs.take k))), (5, .int .i64 k)] _ a) (fun k => xs.length - k) 0
      ⟨Nat.zero_le _, by simpa [mkL] using hm, h.keep ⟨rfl, rfl, rfl, trivial⟩⟩ ?_
    clear h hm
    rintro k a w ⟨hk, hm, h⟩
    have hA := mkL_map_len mkN nxN eN (sz := 4) (fun _ => rfl) m hk
    have hbd := enL_bd nxN 1048580 xs (nxN_bd hsm) m k hk
    by_cases hlt : k < xs.length
    · have hsz : xs[k].a.args.length ≤ 1048576 := hsm _ (List.getElem_mem hlt)
      have es := mkL_succ mkN nxN m hlt
      have ee := enL_succ nxN m hlt
      generalize hgA : ((mkL mkN nxN m (xs.take k)).map eN).flatten = A at hm hA
      generalize hgM : mkL mkN nxN m (xs.take k) = M at *
      generalize hm1 : enL nxN m (xs.take k) = m1 at *
      rw [List.drop_eq_getElem_cons hlt, List.map_cons, List.map_cons, List.flatten_cons, List.append_assoc] at hm
      generalize hD : ((xs.drop (k + 1)).map eN).flatten ++ spare = D at hm
      change Mem W0 X B (.blk b (.cells (A ++ (eN xs[k] ++ D)).toArray 132 (0, 0)) :: argRow xs[k] :: ((xs.drop (k + 1)).map argRow ++ (M.map argRow ++ L))) w at hm
      generalize hE : (xs.drop (k + 1)).map argRow ++ (M.map argRow ++ L) = E1 at hm
      repeat' (first | refine c_seq ?_ | refine c_region ?_ | refine c_nil ?_ | refine k_then ?_ | refine c_skip ?_ | refine c_block ?_ | refine c_condT h rfl ?_ | ((first | refine st_op rfl rfl h ?_ | refine st_opn rfl h ?_); clear h a; (first | (show Does _ (.load _ _) _ _ _ _; (((refine does_loadM 0 hm rfl rfl (by assumption) (by omega) rfl ?_)))) | (show Does _ (.store _ _ _) _ _ _ _; ((refine does_storeM 0 hm rfl rfl rfl (by assumption) (by omega) rfl rfl rfl rfl ?_); clear hm; intro w hm; (try simp only [Value.cells, splice, nz, ns, Nat.reduceAdd, Nat.reduceMul, Int.reduceAdd, Int.reduceToNat] at hm))) | (show Does _ (.call _) _ _ _ _; (first | ((refine does_funM hm en103 rfl (markText_ok _ (by omega)) ?_); clear hm; intro w hm) | refine does_lenS (SliceT.out) rfl ?_)) | (show Does _ (.move _) _ _ _ _; refine does_move rfl ?_) | (show Does _ (.assign _) _ _ _ _; refine does_assign rfl ?_) | (show Does _ (.fieldAddr _ _ _) _ _ _ _; (refine does_fieldAddrL rfl ?_)) | (show Does _ (.binOp _ _ _ _ _) _ _ _ _; (first | refine zlss rfl rfl ?_ | refine zadd rfl rfl ?_)) | (show Does _ (.indexAddr _ _ _) _ _ _ _; (refine ziSLn rfl rfl ?_))); intro a h; (try simp only [Value.cells, splice, nz, Nat.reduceAdd, Nat.reduceMul, Int.reduceAdd, Int.reduceToNat, Int.reduceTMod] at h)))
      refine st_op rfl rfl h ?_; clear h a; refine does_funW 1 hm en17 rfl (markIntS_ok _ _ _ (by omega) (by omega)) rfl ?_; clear hm; intro w hm a h; simp only [List.set_cons_zero, List.set_cons_succ] at hm
      repeat' (first | refine c_region ?_ | refine c_nil ?_ | refine k_then ?_ | refine k_inN ?_ | ((refine st_op rfl rfl h ?_); clear h a; (first | (show Does _ (.move _) _ _ _ _; refine does_move rfl ?_) | (show Does _ (.assign _) _ _ _ _; refine does_assign rfl ?_) | (show Does _ (.binOp _ _ _ _ _) _ _ _ _; (refine zadd rfl rfl ?_))); intro a h; (try simp only [Value.cells, splice, nz, Nat.reduceAdd, Nat.reduceMul, Int.reduceAdd, Int.reduceToNat, Int.reduceTMod] at h)))
      refine k_thenN ⟨k + 1, ⟨hlt, ?_, ?_⟩, by omega⟩
      · rw [es, List.map_append, List.flatten_append, hgA, hD, List.append_assoc, List.map_append]
        rw [← hE] at hm
        have hr : argRow (mkN m1 xs[k]) = .row (.slice xs[k].ptr xs[k].a.args.length xs[k].cap) 3 1 ((rampI (m1 + 1 + 1 + 1) xs[k].a.args.length).map eI).flatten := by simp only [argRow, mkN, rampI_len]
        have he : ([mkN m1 xs[k]].map eN).flatten = [I m1, .string (mText (m1 + 1)), I (m1 + 1 + 1), .slice xs[k].ptr xs[k].a.args.length xs[k].cap] := by simp [rampI_len]
        rw [he, List.map_cons, List.map_nil, hr, List.append_assoc]
        exact hm.perm ((by
          simp only [List.cons_append, List.nil_append]
          rw [← List.append_assoc, ← List.append_assoc]
          exact List.perm_middle.symm : List.Perm _ _).cons _)
      · rw [ee]
        exact h.keep ⟨rfl, rfl, rfl, trivial⟩
    · obtain rfl : k = xs.length := by omega
      rw [List.take_length] at hA hm h
      rw [List.drop_length, List.map_nil, List.flatten_nil, List.nil_append, List.map_nil, List.nil_append] at hm
      have hl2 : (((mkL mkN nxN m xs).map eN).flatten ++ spare).length = cap * 4 := by
        have := flat_len (enc := eN) (sz := 4) (fun _ => rfl) xs
        rw [List.length_append] at hlen ⊢
        omega
      replace hm := hm.ofBlk 0 (sz := 4) (n := xs.length) rfl hA hl2 hcc hcm
      simp only [List.set_cons_zero] at hm
      repeat' (first | refine c_seq ?_ | refine c_region ?_ | refine c_nil ?_ | refine k_then ?_ | refine k_thenE ?_ | refine k_inE ?_ | refine c_ret ?_ | refine c_exit ?_ | refine c_condF h rfl ?_ | ((refine st_op rfl rfl h ?_); clear h a; (first | (show Does _ (.call _) _ _ _ _; (refine does_lenS (SliceT.out) rfl ?_)) | (show Does _ (.move _) _ _ _ _; refine does_move rfl ?_) | (show Does _ (.assign _) _ _ _ _; refine does_assign rfl ?_) | (show Does _ (.binOp _ _ _ _ _) _ _ _ _; (refine zlss rfl rfl ?_))); intro a h; (try simp only [Value.cells, splice, nz, Nat.reduceAdd, Nat.reduceMul, Int.reduceAdd, Int.reduceToNat, Int.reduceTMod] at h)))
      refine k_ret1 rfl h rfl ⟨nodesL _ _ (mkL mkN nxN m xs), ⟨rfl, rfl⟩, ?_⟩
      simp only [nodesL, mkL_len]
      exact hm
set_option maxHeartbeats 8000000 in
theorem heldAssignmentS_E (p : Option Addr) (xs : List TAssignment) (c : Nat) (m : Int) (hm0 : 0 ≤ m ∧ m ≤ 4000000000000000000) (hxs : xs.length ≤ 1048576) : FunP Tryz.prog 73 [.slice p xs.length c, I m] (fun H => Sl H p eAssignment 2 (mkL mkA nxA m xs)) (I (enL nxA m xs)) := by
  refine enterFunP Tryz.func73 rfl Tryz.ntmps73 rfl (fun W0 w a hp hm h => ?_)
  repeat' (first | refine c_seq ?_ | refine c_region ?_ | refine c_nil ?_ | refine k_then ?_ | refine c_block ?_ | ((refine st_op rfl rfl h ?_); clear h a; ((show Does _ (.assign _) _ _ _ _; refine does_assign rfl ?_)); intro a h; (try simp only [Value.cells, splice, nz, Nat.reduceAdd, Nat.reduceMul, Int.reduceAdd, Int.reduceToNat, Int.reduceTMod] at h)))
  refine c_loop (σ := Nat) (fun k a w => k ≤ xs.length ∧ Mem W0 [] (fun b => W0.heap[b]?) [] w ∧ Holds [(0, .slice p xs.length c), (1, I (enL nxA m (xs.take k))), (5, .int .i64 k)] _ a) (fun k => xs.length - k) 0
    ⟨Nat.zero_le _, hm, h.keep ⟨rfl, rfl, rfl, trivial⟩⟩ ?_
  clear h hm
  rintro k a w ⟨hk, hm, h⟩
  have hbd := enL_bd nxA 2 xs (nxA_bd xs) m k hk
  by_cases hlt : k < xs.length
  · obtain ⟨q1, rfl, hat1⟩ := hp.at (k := k) (by rw [mkL_len]; exact hlt)
    rw [mkL_get _ _ m xs k hlt] at hat1
    have ee := enL_succ nxA m hlt
    generalize hm1 : enL nxA m (xs.take k) = m1 at *
    repeat' (first | refine c_seq ?_ | refine c_region ?_ | refine c_nil ?_ | refine k_then ?_ | refine k_inN ?_ | refine c_skip ?_ | refine c_block ?_ | refine c_condT h rfl ?_ | refine c_condF h rfl ?_ | ((refine st_op rfl rfl h ?_); clear h a; (first | (show Does _ (.call _) _ _ _ _; (refine does_lenS (SliceT.out) rfl ?_)) | (show Does _ (.move _) _ _ _ _; refine does_move rfl ?_) | (show Does _ (.assign _) _ _ _ _; refine does_assign rfl ?_) | (show Does _ (.fieldAddr _ _ _) _ _ _ _; (refine does_fieldAddr rfl ?_)) | (show Does _ (.load _ _) _ _ _ _; (refine does_loadB hm rfl (At.add (by assumption) _) rfl ?_)) | (show Does _ (.binOp _ _ _ _ _) _ _ _ _; (first | refine zlss rfl rfl ?_ | refine zneq rfl rfl ?_ | refine zadd rfl rfl ?_)) | (show Does _ (.indexAddr _ _ _) _ _ _ _; (refine ziSn rfl rfl ?_))); intro a h; (try simp only [Value.cells, splice, nz, Nat.reduceAdd, Nat.reduceMul, Int.reduceAdd, Int.reduceToNat, Int.reduceTMod] at h)) | (apply c_drawM (id := 4) 8 [.val _, .val _, .val _, .val _, .val _, .val _, .val _, .val _] mixed (by kernel_rfl) (h := h) (hm := hm); (case vcs => (repeat' (first | exact vcs_nil | refine vcs_cons ?_ ?_ | (intro w hm; (repeat (first | refine dep_val ?_ | refine dep_nil ?_)); first | exact vc_skip rfl | exact vc_alloc rfl | exact vc_box rfl rfl rfl | exact vc_buildSlice rfl rfl rfl rfl | exact vc_makeSlice (by omega) (by omega) rfl rfl rfl | exact vc_store rfl rfl rfl rfl rfl rfl rfl rfl rfl rfl | (apply vc_run rfl; (first | (show Does _ (.call _) _ _ _ _; ((refine does_funX en103 rfl (markText_ok _ (by omega)) ?_))) | (show Does _ (.move _) _ _ _ _; refine does_move rfl ?_) | (show Does _ (.fieldAddr _ _ _) _ _ _ _; (refine does_fieldAddr rfl ?_)) | (show Does _ (.load _ _) _ _ _ _; (refine does_loadB hm rfl (by assumption) rfl ?_)) | (show Does _ (.binOp _ _ _ _ _) _ _ _ _; (refine does_neqStrS rfl rfl ?_)) | (show Does _ (.indexAddr _ _ _) _ _ _ _; (refine does_indexSn (by omega) rfl rfl ?_))); (first | exact ⟨ext_refl _, rfl⟩ | exact fun _ hx => ⟨hx, rfl⟩)))))); (case hup => kernel_rfl); (case hown => kernel_rfl); (case hnp => kernel_rfl); clear h hm a; intro  w hm; (try simp only [List.map_nil, List.nil_append] at hm); (repeat (first | refine dep_val ?_ | refine dep_nil ?_)); intro a h; (try simp only [Value.cells, List.toList_toArray, splice, List.set_cons_zero, List.set_cons_succ, List.drop_zero, List.drop_succ_cons, List.take_succ_cons, List.take_zero, Nat.zero_add, Nat.reduceAdd, Nat.reduceMul, Int.reduceAdd, Int.reduceToNat, Int.reduceTMod, Nat.zero_mul, Nat.one_mul, Int.toNat_natCast] at h)))
    refine k_thenN ⟨k + 1, ⟨hlt, hm, ?_⟩, by omega⟩
    rw [ee]
    exact h.keep ⟨rfl, rfl, rfl, trivial⟩
  · obtain rfl : k = xs.length := by omega
    rw [List.take_length] at h
    repeat' (first | refine c_seq ?_ | refine c_region ?_ | refine c_nil ?_ | refine k_then ?_ | refine k_thenE ?_ | refine k_inE ?_ | refine c_ret ?_ | refine c_exit ?_ | refine c_condF h rfl ?_ | ((refine st_op rfl rfl h ?_); clear h a; (first | (show Does _ (.call _) _ _ _ _; (refine does_lenS (SliceT.out) rfl ?_)) | (show Does _ (.move _) _ _ _ _; refine does_move rfl ?_) | (show Does _ (.assign _) _ _ _ _; refine does_assign rfl ?_) | (show Does _ (.binOp _ _ _ _ _) _ _ _ _; (refine zlss rfl rfl ?_))); intro a h; (try simp only [Value.cells, splice, nz, Nat.reduceAdd, Nat.reduceMul, Int.reduceAdd, Int.reduceToNat, Int.reduceTMod] at h)))
    (refine k_ret1 rfl h rfl ⟨?_, hm.below⟩)
    rfl
set_option maxHeartbeats 8000000 in
theorem heldNodeS_E (p : Option Addr) (xs : List TNode) (c : Nat) (m : Int) (hm0 : 0 ≤ m ∧ m ≤ 4000000000000000000) (hxs : xs.length ≤ 1048576) (hsm : ∀ x ∈ xs, smN x) : FunP Tryz.prog 72 [.slice p xs.length c, I m] (fun H => NodesH H p (mkL mkN nxN m xs)) (I (enL nxN m xs)) := by
  refine enterFunP Tryz.func72 rfl Tryz.ntmps72 rfl (fun W0 w a hp hm h => ?_)
  repeat' (first | refine c_seq ?_ | refine c_region ?_ | refine c_nil ?_ | refine k_then ?_ | refine c_block ?_ | ((refine st_op rfl rfl h ?_); clear h a; ((show Does _ (.assign _) _ _ _ _; refine does_assign rfl ?_)); intro a h; (try simp only [Value.cells, splice, nz, Nat.reduceAdd, Nat.reduceMul, Int.reduceAdd, Int.reduceToNat, Int.reduceTMod] at h)))
  refine c_loop (σ := Nat) (fun k a w => k ≤ xs.length ∧ Mem W0 [] (fun b => W0.heap[b]?) [] w ∧ Holds [(0, .slice p xs.length c), (1, I (enL nxN m (xs.take k))), (5, .int .i64 k)] _ a) (fun k => xs.length - k) 0
    ⟨Nat.zero_le _, hm, h.keep ⟨rfl, rfl, rfl, trivial⟩⟩ ?_
  clear h hm
  rintro k a w ⟨hk, hm, h⟩
  have hbd := enL_bd nxN 1048580 xs (nxN_bd hsm) m k hk
  by_cases hlt : k < xs.length
  · have hsz : xs[k].a.args.length ≤ 1048576 := hsm _ (List.getElem_mem hlt)
    have hlt' : k < (mkL mkN nxN m xs).length := by rw [mkL_len]; exact hlt
    obtain ⟨q1, rfl, hat1⟩ := hp.row.at (k := k) hlt'
    have hargs := hp.args _ (List.getElem_mem hlt')
    rw [mkL_get _ _ m xs k hlt] at hat1 hargs
    have ee := enL_succ nxN m hlt
    generalize hm1 : enL nxN m (xs.take k) = m1 at *
    simp only [eN, mkN, rampI_len] at hat1 hargs
    repeat' (first | refine c_seq ?_ | refine c_region ?_ | refine c_nil ?_ | refine k_then ?_ | refine k_inN ?_ | refine c_skip ?_ | refine c_block ?_ | refine c_condT h rfl ?_ | refine c_condF h rfl ?_ | ((refine st_op rfl rfl h ?_); clear h a; (first | (show Does _ (.call _) _ _ _ _; (first | ((refine does_funP hm en18 rfl (heldIntS_ok _ _ _ _ (by omega) (by omega)) (hargs.up hm) ?_; clear hm; intro w hm)) | refine does_lenS (SliceT.out) rfl ?_)) | (show Does _ (.move _) _ _ _ _; refine does_move rfl ?_) | (show Does _ (.assign _) _ _ _ _; refine does_assign rfl ?_) | (show Does _ (.fieldAddr _ _ _) _ _ _ _; (refine does_fieldAddr rfl ?_)) | (show Does _ (.load _ _) _ _ _ _; (first | refine does_loadB hm rfl (by assumption) rfl ?_ | refine does_loadB hm rfl (At.add (by assumption) _) rfl ?_)) | (show Does _ (.binOp _ _ _ _ _) _ _ _ _; (first | refine zlss rfl rfl ?_ | refine zneq rfl rfl ?_ | refine zadd rfl rfl ?_)) | (show Does _ (.indexAddr _ _ _) _ _ _ _; (refine ziSn rfl rfl ?_))); intro a h; (try simp only [Value.cells, splice, nz, Nat.reduceAdd, Nat.reduceMul, Int.reduceAdd, Int.reduceToNat, Int.reduceTMod] at h)) | (apply c_drawM (id := 7) 8 [.val _, .val _, .val _, .val _, .val _, .val _, .val _, .val _] mixed (by kernel_rfl) (h := h) (hm := hm); (case vcs => (repeat' (first | exact vcs_nil | refine vcs_cons ?_ ?_ | (intro w hm; (repeat (first | refine dep_val ?_ | refine dep_nil ?_)); first | exact vc_skip rfl | exact vc_alloc rfl | exact vc_box rfl rfl rfl | exact vc_buildSlice rfl rfl rfl rfl | exact vc_makeSlice (by omega) (by omega) rfl rfl rfl | exact vc_store rfl rfl rfl rfl rfl rfl rfl rfl rfl rfl | (apply vc_run rfl; (first | (show Does _ (.call _) _ _ _ _; ((refine does_funX en103 rfl (markText_ok _ (by omega)) ?_))) | (show Does _ (.move _) _ _ _ _; refine does_move rfl ?_) | (show Does _ (.fieldAddr _ _ _) _ _ _ _; (refine does_fieldAddr rfl ?_)) | (show Does _ (.load _ _) _ _ _ _; (refine does_loadB hm rfl (At.add (by assumption) _) rfl ?_)) | (show Does _ (.binOp _ _ _ _ _) _ _ _ _; (refine does_neqStrS rfl rfl ?_)) | (show Does _ (.indexAddr _ _ _) _ _ _ _; (refine does_indexSn (by omega) rfl rfl ?_))); (first | exact ⟨ext_refl _, rfl⟩ | exact fun _ hx => ⟨hx, rfl⟩)))))); (case hup => kernel_rfl); (case hown => kernel_rfl); (case hnp => kernel_rfl); clear h hm a; intro  w hm; (try simp only [List.map_nil, List.nil_append] at hm); (repeat (first | refine dep_val ?_ | refine dep_nil ?_)); intro a h; (try simp only [Value.cells, List.toList_toArray, splice, List.set_cons_zero, List.set_cons_succ, List.drop_zero, List.drop_succ_cons, List.take_succ_cons, List.take_zero, Nat.zero_add, Nat.reduceAdd, Nat.reduceMul, Int.reduceAdd, Int.reduceToNat, Int.reduceTMod, Nat.zero_mul, Nat.one_mul, Int.toNat_natCast] at h)))
    refine k_thenN ⟨k + 1, ⟨hlt, hm, ?_⟩, by omega⟩
    rw [ee]
    exact h.keep ⟨rfl, rfl, rfl, trivial⟩
  · obtain rfl : k = xs.length := by omega
    rw [List.take_length] at h
    repeat' (first | refine c_seq ?_ | refine c_region ?_ | refine c_nil ?_ | refine k_then ?_ | refine k_thenE ?_ | refine k_inE ?_ | refine c_ret ?_ | refine c_exit ?_ | refine c_condF h rfl ?_ | ((refine st_op rfl rfl h ?_); clear h a; (first | (show Does _ (.call _) _ _ _ _; (refine does_lenS (SliceT.out) rfl ?_)) | (show Does _ (.move _) _ _ _ _; refine does_move rfl ?_) | (show Does _ (.assign _) _ _ _ _; refine does_assign rfl ?_) | (show Does _ (.binOp _ _ _ _ _) _ _ _ _; (refine zlss rfl rfl ?_))); intro a h; (try simp only [Value.cells, splice, nz, Nat.reduceAdd, Nat.reduceMul, Int.reduceAdd, Int.reduceToNat, Int.reduceTMod] at h)))
    (refine k_ret1 rfl h rfl ⟨?_, hm.below⟩)
    rfl
end Go.Proofs.YtbcboklmeifghaaGreat.St
