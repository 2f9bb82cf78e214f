/-
  Grids of one's own: both sides' GridOf, marks.
-/
import Derived.Test.YtcdjneiaoikpnaaLGrf
import Derived.Test.YtcdjneiaoikpnaaStCat
set_option linter.unusedSimpArgs false
set_option linter.unusedVariables false
namespace Go.Proofs.Ytcdjneiaoikpnaa.St
open Go.RowKit
abbrev gridRows (p q : Option Addr) (n m c d : Nat) (xs : List TPoint) (ts : List Int) : List Own := [.row (.slice p n c) 134 5 (xs.map ePoint).flatten, .row (.slice q m d) 3 1 (ts.map eI).flatten]
def GridO (n tm g : Int) (xs : List TPoint) (ts : List Int) (b : Bool) (v : Value) (L' : List Own) : Prop := ∃ p c q d, v = .tuple #[.agg #[I n, .slice p xs.length c, I tm, I g, .slice q ts.length d], .bool b] ∧ L' = gridRows p q xs.length ts.length c d xs ts
theorem FunG.gain {P : Program} {f : FuncId} {vs : List Value} {pre pre' : Heap → Prop} {R R' : Value → List Own → Prop} (h : FunG P f vs pre R) (hp : ∀ H, pre' H → pre H) (hR : ∀ v L' W0 w, R v L' → Mem W0 [] (fun b => W0.heap[b]?) L' w → ∃ L2, R' v L2 ∧ Mem W0 [] (fun b => W0.heap[b]?) L2 w) : FunG P f vs pre' R' :=
  ⟨fun w hw => (h.out w (hp _ hw)).mono fun _ w' ⟨v, L', he, hr, hm⟩ => by
    obtain ⟨L2, h1, h2⟩ := hR v L' w w' hr hm
    exact ⟨v, L2, he, h1, h2⟩⟩
theorem noGrid_O {v : Value} {L' : List Own} {W0 w : World} (h : v = noGrid ∧ L' = []) (hm : Mem W0 [] (fun b => W0.heap[b]?) L' w) : ∃ L2, GridO 0 0 0 [] [] false v L2 ∧ Mem W0 [] (fun b => W0.heap[b]?) L2 w := by
  obtain ⟨rfl, rfl⟩ := h
  exact ⟨_, ⟨none, 0, none, 0, rfl, rfl⟩, (hm.addNil 3 1).addNil 134 5⟩
theorem grid_both (x0 y0 z0 x1 y1 z1 x2 y2 z2 x3 y3 z3 n tm g : Int) (ts : List Int) (hts : ts.length ≤ 1048576) : ∃ n' tm' g' xs' ts' b, (xs'.length ≤ 64 ∧ ts'.length ≤ 1048576) ∧
    (∀ q d, FunG Try.prog 22 [.agg #[I x0, I y0, I z0, I x1, I y1, I z1, I x2, I y2, I z2, I x3, I y3, I z3], I n, I tm, .agg #[I g, .slice q ts.length d]] (fun H => Sl H q eI 1 ts) (GridO n' tm' g' xs' ts' b)) ∧
    ∀ q d, FunG Try.prog 25 [.agg #[I x0, I y0, I z0, I x1, I y1, I z1, I x2, I y2, I z2, I x3, I y3, I z3], I n, I tm, .agg #[I g, .slice q ts.length d]] (fun H => Sl H q eI 1 ts) (GridO n' tm' g' xs' ts' b) := by
  by_cases h1 : (1 ≤ n ∧ n ≤ 8) ∧ G.pV x0 y0 z0 x1 y1 z1 x2 y2 z2 x3 y3 z3
  · obtain ⟨k, rfl⟩ : ∃ k : Nat, n = k := ⟨n.toNat, by omega⟩
    have hk : 1 ≤ k ∧ k ≤ 8 := by omega
    by_cases h2 : (0 ≤ tm ∧ tm ≤ 256) ∧ vTex g ts
    · refine ⟨k, tm, g, gpts x0 y0 z0 x1 y1 z1 x2 y2 z2 x3 y3 z3 k (k * k), ts, true, ⟨by rw [gpts_len]; exact Nat.mul_le_mul hk.2 hk.2, hts⟩, fun q d => (sGridOf_y _ _ _ _ _ _ _ _ _ _ _ _ k tm g q ts d hts hk h1.2 h2.1 h2.2).gain (fun _ h => h) ?_, fun q d => (Rnd.iGridOf_ok _ _ _ _ _ _ _ _ _ _ _ _ k tm g q ts d hk h1.2 hts).gain (fun _ h => h) ?_⟩
      · rintro v L' W0 w ⟨p, c, q, d, rfl, rfl⟩ hm
        exact ⟨_, ⟨p, c, q, d, rfl, rfl⟩, hm⟩
      · rintro v L' W0 w (⟨_, p, c, q, d, rfl, rfl⟩ | ⟨hno, _⟩) hm
        · exact ⟨_, ⟨p, c, q, d, rfl, rfl⟩, hm⟩
        · exact absurd h2 hno
    · refine ⟨0, 0, 0, [], [], false, ⟨by simp, by simp⟩, fun q d => (sGridOf_n _ _ _ _ _ _ _ _ _ _ _ _ k tm g q ts d hts (fun e => h2 e.2)).gain (fun _ h => h) (fun v L' W0 w h hm => noGrid_O h hm), fun q d => (Rnd.iGridOf_ok _ _ _ _ _ _ _ _ _ _ _ _ k tm g q ts d hk h1.2 hts).gain (fun _ h => h) ?_⟩
      rintro v L' W0 w (⟨hy, _⟩ | ⟨_, h⟩) hm
      · exact absurd hy h2
      · exact noGrid_O h hm
  · exact ⟨0, 0, 0, [], [], false, ⟨by simp, by simp⟩, fun q d => (sGridOf_n _ _ _ _ _ _ _ _ _ _ _ _ n tm g q ts d hts (fun e => h1 e.1)).gain (fun _ h => h) (fun v L' W0 w h hm => noGrid_O h hm), fun q d => (iGridOf_n _ _ _ _ _ _ _ _ _ _ _ _ n tm g q ts d h1).gain (fun _ _ => trivial) (fun v L' W0 w h hm => noGrid_O h hm)⟩
set_option maxHeartbeats 2000000 in
theorem markTex_ok (g : Int) (p : Option Addr) (xs : List Int) (c : Nat) (m : Int) (hm0 : 0 ≤ m ∧ m ≤ 4000000000000000000) (hxs : xs.length ≤ 1048576) : FunL Try.prog 28 [.agg #[I g, .slice p xs.length c], I m] [.row (.slice p xs.length c) 3 1 (xs.map eI).flatten] (fun _ => True)
    (fun v L' => v = I (m + 1 * xs.length) ∧ L' = [.row (.slice p xs.length c) 3 1 ((rampI m xs.length).map eI).flatten]) := by
  refine enterFunL Try.func28 rfl Try.ntmps28 rfl (fun W0 X B L w a hp hm h => ?_)
  simp only [List.cons_append, List.nil_append] at hm
  repeat' (first | refine c_seq ?_ | refine c_region ?_ | refine c_nil ?_ | refine k_then ?_ | ((refine st_op rfl rfl h ?_); clear h a; (first | (show Does _ (.box _ _) _ _ _ _; (refine does_box hm rfl rfl ?_; clear hm; intro b w hm)) | (show Does _ (.move _) _ _ _ _; refine does_move rfl ?_) | (show Does _ (.assign _) _ _ _ _; refine does_assign rfl ?_) | (show Does _ (.fieldAddr _ _ _) _ _ _ _; (refine does_fieldAddrL rfl ?_)) | (show Does _ (.load _ _) _ _ _ _; (refine does_loadO 0 hm rfl rfl rfl ?_))); intro a h; (try simp only [Value.cells, List.toList_toArray, splice, List.set_cons_zero, List.set_cons_succ, List.drop_zero, List.drop_succ_cons, List.take_succ_cons, List.take_zero, Nat.zero_add, Nat.reduceAdd, Nat.reduceMul, Int.reduceAdd, Int.reduceToNat, Int.reduceTMod, Nat.zero_mul, Nat.one_mul, Int.toNat_natCast] at h)))
  refine st_op rfl rfl h ?_; clear h a; refine does_funW 1 hm en39 rfl (markIntS_ok _ _ _ (by omega) (by omega)) rfl ?_; clear hm; intro w hm a h; simp only [List.set_cons_zero, List.set_cons_succ] at hm
  repeat' (first | refine c_seq ?_ | refine c_region ?_ | refine c_nil ?_ | refine k_then ?_ | refine c_ret ?_ | ((refine st_op rfl rfl h ?_); clear h a; (first | (show Does _ (.move _) _ _ _ _; refine does_move rfl ?_) | (show Does _ (.assign _) _ _ _ _; refine does_assign rfl ?_)); intro a h; (try simp only [Value.cells, List.toList_toArray, splice, List.set_cons_zero, List.set_cons_succ, List.drop_zero, List.drop_succ_cons, List.take_succ_cons, List.take_zero, Nat.zero_add, Nat.reduceAdd, Nat.reduceMul, Int.reduceAdd, Int.reduceToNat, Int.reduceTMod, Nat.zero_mul, Nat.one_mul, Int.toNat_natCast] at h)))
  exact k_ret1 rfl h rfl ⟨_, ⟨rfl, rfl⟩, hm.drop⟩
set_option maxHeartbeats 2000000 in
theorem heldTex_ok (g : Int) (p : Option Addr) (n c : Nat) (m : Int) (hm0 : 0 ≤ m ∧ m ≤ 4000000000000000000) (hxs : n ≤ 1048576) : FunP Try.prog 78 [.agg #[I g, .slice p n c], I m] (fun H => Sl H p eI 1 (rampI m n)) (I (m + 1 * n)) := by
  refine enterFunP Try.func78 rfl Try.ntmps78 rfl (fun W0 w a hp hm h => ?_)
  repeat' (first | refine c_seq ?_ | refine c_region ?_ | refine c_nil ?_ | refine k_then ?_ | refine c_skip ?_ | refine c_ret ?_ | refine c_condF h rfl ?_ | ((refine st_op rfl rfl h ?_); clear h a; (first | (show Does _ (.call _) _ _ _ _; ((refine does_funP hm en40 rfl (heldIntS_ok _ n _ m (by omega) (by omega)) (hp.up hm) ?_; clear hm; intro w hm))) | (show Does _ (.box _ _) _ _ _ _; (refine does_box hm rfl rfl ?_; clear hm; intro b w hm)) | (show Does _ (.move _) _ _ _ _; refine does_move rfl ?_) | (show Does _ (.assign _) _ _ _ _; refine does_assign rfl ?_) | (show Does _ (.fieldAddr _ _ _) _ _ _ _; (refine does_fieldAddrL rfl ?_)) | (show Does _ (.load _ _) _ _ _ _; (refine does_loadO 0 hm rfl rfl rfl ?_)) | (show Does _ (.binOp _ _ _ _ _) _ _ _ _; (refine does_lssF rfl rfl (by omega) ?_))); intro a h; (try simp only [Value.cells, List.toList_toArray, splice, List.set_cons_zero, List.set_cons_succ, List.drop_zero, List.drop_succ_cons, List.take_succ_cons, List.take_zero, Nat.zero_add, Nat.reduceAdd, Nat.reduceMul, Int.reduceAdd, Int.reduceToNat, Int.reduceTMod, Nat.zero_mul, Nat.one_mul, Int.toNat_natCast] at h)))
  all_goals (refine k_ret1 rfl h rfl ⟨?_, hm.below⟩)
  all_goals rfl
set_option maxHeartbeats 2000000 in
theorem markGrid_ok (n tm g : Int) (p q : Option Addr) (xs : List TPoint) (ts : List Int) (c d : Nat) (m : Int) (hm0 : 0 ≤ m ∧ m ≤ 1000) (hxs : xs.length ≤ 1048576) (hys : ts.length ≤ 1048576) : FunL Try.prog 29 [.agg #[I n, .slice p xs.length c, I tm, I g, .slice q ts.length d], I m] (gridRows p q xs.length ts.length c d xs ts) (fun _ => True)
    (fun v L' => v = I (m + 5 * xs.length + 1 * ts.length) ∧ L' = gridRows p q xs.length ts.length c d (rampPoint m xs.length) (rampI (m + 5 * xs.length) ts.length)) := by
  refine enterFunL Try.func29 rfl Try.ntmps29 rfl (fun W0 X B L w a hp hm h => ?_)
  simp only [List.cons_append, List.nil_append] at hm
  repeat' (first | refine c_seq ?_ | refine c_region ?_ | refine c_nil ?_ | refine k_then ?_ | ((refine st_op rfl rfl h ?_); clear h a; (first | (show Does _ (.box _ _) _ _ _ _; (refine does_box hm rfl rfl ?_; clear hm; intro b w hm)) | (show Does _ (.move _) _ _ _ _; refine does_move rfl ?_) | (show Does _ (.assign _) _ _ _ _; refine does_assign rfl ?_) | (show Does _ (.fieldAddr _ _ _) _ _ _ _; (refine does_fieldAddrL rfl ?_)) | (show Does _ (.load _ _) _ _ _ _; (refine does_loadO 0 hm rfl rfl rfl ?_))); intro a h; (try simp only [Value.cells, List.toList_toArray, splice, List.set_cons_zero, List.set_cons_succ, List.drop_zero, List.drop_succ_cons, List.take_succ_cons, List.take_zero, Nat.zero_add, Nat.reduceAdd, Nat.reduceMul, Int.reduceAdd, Int.reduceToNat, Int.reduceTMod, Nat.zero_mul, Nat.one_mul, Int.toNat_natCast] at h)))
  refine st_op rfl rfl h ?_; clear h a; refine does_funW 1 hm en76 rfl (markPointS_ok _ _ _ (by omega) (by omega)) rfl ?_; clear hm; intro w hm a h; simp only [List.set_cons_zero, List.set_cons_succ] at hm
  repeat' (first | refine c_seq ?_ | refine c_region ?_ | refine c_nil ?_ | refine k_then ?_ | ((refine st_op rfl rfl h ?_); clear h a; (first | (show Does _ (.move _) _ _ _ _; refine does_move rfl ?_) | (show Does _ (.assign _) _ _ _ _; refine does_assign rfl ?_) | (show Does _ (.fieldAddr _ _ _) _ _ _ _; (refine does_fieldAddrL rfl ?_)) | (show Does _ (.load _ _) _ _ _ _; (refine does_loadOA 0 hm rfl rfl rfl ?_))); intro a h; (try simp only [Value.cells, List.toList_toArray, splice, List.set_cons_zero, List.set_cons_succ, List.drop_zero, List.drop_succ_cons, List.take_succ_cons, List.take_zero, Nat.zero_add, Nat.reduceAdd, Nat.reduceMul, Int.reduceAdd, Int.reduceToNat, Int.reduceTMod, Nat.zero_mul, Nat.one_mul, Int.toNat_natCast] at h)))
  replace hm := (hm.pull 2 rfl)
  simp only [List.eraseIdx_cons_succ, List.eraseIdx_cons_zero, List.eraseIdx] at hm
  refine st_op rfl rfl h ?_; clear h a; refine does_funL (L0 := [_]) hm en28 rfl (markTex_ok _ _ ts _ (m + 5 * xs.length) (by omega) hys) trivial ?_; clear hm; rintro _ _ w ⟨rfl, rfl⟩ hm a h; simp only [List.cons_append, List.nil_append] at hm
  repeat' (first | refine c_seq ?_ | refine c_region ?_ | refine c_nil ?_ | refine k_then ?_ | refine c_ret ?_ | ((refine st_op rfl rfl h ?_); clear h a; (first | (show Does _ (.move _) _ _ _ _; refine does_move rfl ?_) | (show Does _ (.assign _) _ _ _ _; refine does_assign rfl ?_)); intro a h; (try simp only [Value.cells, List.toList_toArray, splice, List.set_cons_zero, List.set_cons_succ, List.drop_zero, List.drop_succ_cons, List.take_succ_cons, List.take_zero, Nat.zero_add, Nat.reduceAdd, Nat.reduceMul, Int.reduceAdd, Int.reduceToNat, Int.reduceTMod, Nat.zero_mul, Nat.one_mul, Int.toNat_natCast] at h)))
  exact k_ret1 rfl h rfl ⟨_, ⟨rfl, rfl⟩, (hm.sub (((List.Sublist.refl _).cons _).cons_cons _)).perm (List.Perm.swap _ _ _)⟩
set_option maxHeartbeats 2000000 in
theorem heldGrid_ok (n tm g : Int) (p q : Option Addr) (k k' c d : Nat) (m : Int) (hm0 : 0 ≤ m ∧ m ≤ 1000) (hxs : k ≤ 1048576) (hys : k' ≤ 1048576) : FunP Try.prog 30 [.agg #[I n, .slice p k c, I tm, I g, .slice q k' d], I m] (fun H => Sl H p ePoint 5 (rampPoint m k) ∧ Sl H q eI 1 (rampI (m + 5 * k) k')) (I (m + 5 * k + 1 * k')) := by
  refine enterFunP Try.func30 rfl Try.ntmps30 rfl (fun W0 w a hp hm h => ?_)
  obtain ⟨hx, hy⟩ := hp
  repeat' (first | refine c_seq ?_ | refine c_region ?_ | refine c_nil ?_ | refine k_then ?_ | refine c_skip ?_ | refine c_ret ?_ | refine c_condF h rfl ?_ | ((refine st_op rfl rfl h ?_); clear h a; (first | (show Does _ (.call _) _ _ _ _; (first | ((refine does_funP hm en77 rfl (heldPointS_ok _ k _ m (by omega) (by omega)) (hx.up hm) ?_; clear hm; intro w hm)) | ((refine does_funP hm en78 rfl (heldTex_ok _ _ k' _ (m + 5 * k) (by omega) (by omega)) (hy.up hm) ?_; clear hm; intro w hm)))) | (show Does _ (.box _ _) _ _ _ _; (refine does_box hm rfl rfl ?_; clear hm; intro b w hm)) | (show Does _ (.move _) _ _ _ _; refine does_move rfl ?_) | (show Does _ (.assign _) _ _ _ _; refine does_assign rfl ?_) | (show Does _ (.fieldAddr _ _ _) _ _ _ _; (refine does_fieldAddrL rfl ?_)) | (show Does _ (.load _ _) _ _ _ _; (first | refine does_loadO 0 hm rfl rfl rfl ?_ | refine does_loadOA 0 hm rfl rfl rfl ?_)) | (show Does _ (.binOp _ _ _ _ _) _ _ _ _; (refine does_lssF rfl rfl (by omega) ?_))); intro a h; (try simp only [Value.cells, List.toList_toArray, splice, List.set_cons_zero, List.set_cons_succ, List.drop_zero, List.drop_succ_cons, List.take_succ_cons, List.take_zero, Nat.zero_add, Nat.reduceAdd, Nat.reduceMul, Int.reduceAdd, Int.reduceToNat, Int.reduceTMod, Nat.zero_mul, Nat.one_mul, Int.toNat_natCast] at h)))
  all_goals (refine k_ret1 rfl h rfl ⟨?_, hm.below⟩)
  all_goals rfl
end Go.Proofs.Ytcdjneiaoikpnaa.St
