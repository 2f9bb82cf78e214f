/-
  A plain law of division rounded down.
-/
import Derived.Test.YtcbnegmmjflmcaaGreatLVec

section
set_option linter.unusedSimpArgs false
set_option linter.unusedVariables false
namespace Go.Proofs.YtcbnegmmjflmcaaGreat.St
open Go.RowKit
theorem fDiv_in {s n lo hi : Int} (hn : 1 ≤ n) (h1 : lo * n ≤ s) (h2 : s ≤ hi * n) : lo ≤ fDiv s n ∧ fDiv s n ≤ hi := by
  have hd := Int.mul_tdiv_add_tmod s n
  have hb1 : -n < s.tmod n := by
    have := Int.lt_tmod_of_pos s (show 0 < n by omega)
    omega
  have hb2 : s.tmod n < n := Int.tmod_lt_of_pos s (by omega)
  have key : ∃ q, fDiv s n = q ∧ n * q ≤ s ∧ s < n * (q + 1) := by
    unfold fDiv
    rw [if_neg (by omega)]
    split
    · refine ⟨_, rfl, ?_, ?_⟩
      · rw [Int.mul_sub]; omega
      · rw [Int.sub_add_cancel]; omega
    · refine ⟨_, rfl, ?_, ?_⟩
      · rw [Int.sub_zero]; omega
      · rw [Int.sub_zero, Int.mul_add]; omega
  obtain ⟨q, hq, k1, k2⟩ := key
  rw [hq]
  constructor
  · apply Classical.byContradiction
    intro h
    have : n * (q + 1) ≤ n * lo := Int.mul_le_mul_of_nonneg_left (by omega) (by omega)
    rw [Int.mul_comm n lo] at this
    omega
  · apply Classical.byContradiction
    intro h
    have : n * (hi + 1) ≤ n * q := Int.mul_le_mul_of_nonneg_left (by omega) (by omega)
    rw [Int.mul_add, Int.mul_comm n hi] at this
    omega
end Go.Proofs.YtcbnegmmjflmcaaGreat.St
end

section
/-
  Plain laws of diced patches: the weighted mean, its bounds, the points row by row.
-/
set_option linter.unusedSimpArgs false
set_option linter.unusedVariables false
namespace Go.Proofs.YtcbnegmmjflmcaaGreat.St
open Go.RowKit
def wsum (a b d e i j n : Int) : Int := a * (n - i) * (n - j) + b * i * (n - j) + d * (n - i) * j + e * i * j
theorem wsum_steps (a b d e i j n : Int) : 0 + (n - i) * (n - j) * a + i * (n - j) * b + (n - i) * j * d + i * j * e = wsum a b d e i j n := by
  unfold wsum
  grind
theorem prod_bd {x w lo hi : Int} (hw : 0 ≤ w) (hx : lo ≤ x ∧ x ≤ hi) : lo * w ≤ w * x ∧ w * x ≤ hi * w := by
  have h1 := Int.mul_le_mul_of_nonneg_right hx.1 hw
  have h2 := Int.mul_le_mul_of_nonneg_right hx.2 hw
  rw [Int.mul_comm w x]
  exact ⟨h1, h2⟩
theorem w_nn {i j n : Int} (hi : 0 ≤ i ∧ i ≤ n) (hj : 0 ≤ j ∧ j ≤ n) : (0 ≤ (n - i) * (n - j) ∧ 0 ≤ i * (n - j)) ∧ 0 ≤ (n - i) * j ∧ 0 ≤ i * j :=
  ⟨⟨Int.mul_nonneg (by omega) (by omega), Int.mul_nonneg (by omega) (by omega)⟩, Int.mul_nonneg (by omega) (by omega), Int.mul_nonneg (by omega) (by omega)⟩
theorem w_le {i j n : Int} (hn : n ≤ 8) (hi : 0 ≤ i ∧ i ≤ n) (hj : 0 ≤ j ∧ j ≤ n) : ((n - i) * (n - j) ≤ 64 ∧ i * (n - j) ≤ 64) ∧ (n - i) * j ≤ 64 ∧ i * j ≤ 64 := by
  have key : ∀ {x y : Int}, x ≤ 8 → y ≤ 8 → 0 ≤ y → x * y ≤ 64 := fun hx hy h0 => by
    have := Int.mul_le_mul hx hy h0 (by omega : (0 : Int) ≤ 8)
    omega
  exact ⟨⟨key (by omega) (by omega) (by omega), key (by omega) (by omega) (by omega)⟩, key (by omega) (by omega) (by omega), key (by omega) (by omega) (by omega)⟩
theorem term_bd {x w : Int} (hw : 0 ≤ w ∧ w ≤ 64) (hx : -1000000 ≤ x ∧ x ≤ 1000000) : -64000000 ≤ w * x ∧ w * x ≤ 64000000 := by
  have := prod_bd hw.1 hx
  omega
theorem wmean_in {a b d e i j n lo hi : Int} (hn : 1 ≤ n) (hi0 : 0 ≤ i ∧ i ≤ n) (hj0 : 0 ≤ j ∧ j ≤ n) (ha : lo ≤ a ∧ a ≤ hi) (hb : lo ≤ b ∧ b ≤ hi) (hd : lo ≤ d ∧ d ≤ hi) (he : lo ≤ e ∧ e ≤ hi) :
    lo ≤ fDiv (wsum a b d e i j n) (n * n) ∧ fDiv (wsum a b d e i j n) (n * n) ≤ hi := by
  obtain ⟨⟨w0, w1⟩, w2, w3⟩ := w_nn hi0 hj0
  have e0 := wsum_steps a b d e i j n
  have es : (n - i) * (n - j) + i * (n - j) + (n - i) * j + i * j = n * n := by grind
  have p0 := prod_bd w0 ha
  have p1 := prod_bd w1 hb
  have p2 := prod_bd w2 hd
  have p3 := prod_bd w3 he
  have hnn : 1 ≤ n * n := by
    have := Int.mul_le_mul hn hn (by omega) (by omega)
    omega
  refine fDiv_in hnn ?_ ?_
  · rw [← es, ← e0, Int.mul_add, Int.mul_add, Int.mul_add]
    omega
  · rw [← es, ← e0, Int.mul_add, Int.mul_add, Int.mul_add]
    omega
end Go.Proofs.YtcbnegmmjflmcaaGreat.St
end

section
/-
  Contracts of the functions that evaluate a patch.
-/
set_option linter.unusedSimpArgs false
set_option linter.unusedVariables false
namespace Go.Proofs.YtcbnegmmjflmcaaGreat.St
open Go.RowKit
def mn (a b d e i j n : Int) : Int := fDiv (wsum (max (-1000000) (min a 1000000)) (max (-1000000) (min b 1000000)) (max (-1000000) (min d 1000000)) (max (-1000000) (min e 1000000)) i j n) (n * n)
theorem mn_in {a b d e i j n : Int} (hn : 1 ≤ n) (hi : 0 ≤ i ∧ i ≤ n) (hj : 0 ≤ j ∧ j ≤ n) : -1000000 ≤ mn a b d e i j n ∧ mn a b d e i j n ≤ 1000000 :=
  wmean_in hn hi hj (by omega) (by omega) (by omega) (by omega)
set_option maxHeartbeats 2000000 in
theorem ptimes1_ok (k n : Int) (q : Addr) (hk : -4096 ≤ k ∧ k ≤ 4096) (hn : -1000000 ≤ n ∧ n ≤ 1000000) : FunP Tryz.prog 77 [I n, .pointer (some q)] (fun H => At H q [I k]) (I (k * n)) := by
  refine enterFunP Tryz.func77 rfl Tryz.ntmps77 rfl (fun W0 w a hp hm h => ?_)
  repeat' (first | refine c_seq ?_ | refine c_region ?_ | refine c_nil ?_ | refine k_then ?_ | refine c_ret ?_ | ((refine st_op rfl rfl h ?_); clear h a; (first | (show Does _ (.move _) _ _ _ _; refine does_move rfl ?_) | (show Does _ (.assign _) _ _ _ _; refine does_assign rfl ?_) | (show Does _ (.load _ _) _ _ _ _; (refine does_loadB hm rfl (by assumption) rfl ?_)) | (show Does _ (.binOp _ _ _ _ _) _ _ _ _; (refine does_mul rfl rfl (mul_in (by omega) (by omega)) ?_))); intro a h))
  (refine k_ret1 rfl h rfl ⟨?_, hm.below⟩)
  rfl
set_option maxHeartbeats 2000000 in
theorem peach_times_ok (k x y z : Int) (q : Addr) (hk : -4096 ≤ k ∧ k ≤ 4096) (hx : -1000000 ≤ x ∧ x ≤ 1000000) (hy : -1000000 ≤ y ∧ y ≤ 1000000) (hz : -1000000 ≤ z ∧ z ≤ 1000000) :
    FunP Tryz.prog 73 [.agg #[I x, I y, I z], .func (.func 77) #[] #[.pointer (some q)]] (fun H => At H q [I k]) (.agg #[I (k * x), I (k * y), I (k * z)]) := by
  refine enterFunP Tryz.func73 rfl Tryz.ntmps73 rfl (fun W0 w a hp hm h => ?_)
  repeat' (first | refine c_seq ?_ | refine c_region ?_ | refine c_nil ?_ | refine k_then ?_ | refine c_ret ?_ | ((first | refine st_op rfl rfl h ?_ | refine st_opn rfl h ?_); clear h a; (first | (show Does _ (.box _ _) _ _ _ _; (refine does_box hm rfl rfl ?_; clear hm; intro b w hm)) | (show Does _ (.alloc _) _ _ _ _; (refine does_alloc hm ?_; clear hm; intro b w hm)) | (show Does _ (.store _ _ _) _ _ _ _; ((refine does_storeO 0 hm rfl rfl rfl rfl rfl rfl rfl ?_; clear hm; intro w hm; (simp only [Value.cells, splice, nqq, Nat.reduceAdd, Nat.reduceMul, Int.reduceAdd, Int.reduceToNat] at hm))))); intro a h) | (apply c_drawM (id := 1) 13 [.val _, .val _, .val _, .val _, .val _, .val _, .val _, .val _, .val _, .val _, .val _, .val _, .val _] mixed (by kernel_rfl) (h := h) (hm := hm); (case vcs => (repeat' (first | exact vcs_nil | refine vcs_cons ?_ ?_ | (intro w hm; (repeat (first | refine dep_val ?_ | refine dep_nil ?_)); first | exact vc_skip rfl | exact vc_alloc rfl | exact vc_box rfl rfl rfl | exact vc_buildSlice rfl rfl rfl rfl | exact vc_makeSlice (by omega) (by omega) rfl rfl rfl | exact vc_store rfl rfl rfl rfl rfl rfl rfl rfl rfl rfl | (apply vc_run rfl; (first | (show Does _ (.call _) _ _ _ _; ((refine does_funVPX rfl rfl rfl (by repeat' (exact At.up (by assumption) hm)) (ptimes1_ok _ _ _ (by omega) (by omega)) ?_))) | (show Does _ (.move _) _ _ _ _; refine does_move rfl ?_) | (show Does _ (.fieldAddr _ _ _) _ _ _ _; (refine does_fieldAddrL rfl ?_)) | (show Does _ (.load _ _) _ _ _ _; (refine does_loadO 1 hm rfl rfl rfl ?_)) | (show Does _ (.build _ _) _ _ _ _; refine does_build rfl rfl ?_)); (first | exact ⟨ext_refl _, rfl⟩ | exact fun _ hx => ⟨hx, rfl⟩)))))); (case hup => kernel_rfl); (case hown => kernel_rfl); (case hnp => kernel_rfl); clear h hm a; intro  w hm; (simp only [List.map_nil, List.nil_append] at hm); (repeat (first | refine dep_val ?_ | refine dep_nil ?_)); intro a h; (simp only [Value.cells, splice, nqq, Nat.reduceAdd, Nat.reduceMul, Int.reduceAdd, Int.reduceToNat, Int.reduceTMod] at h)))
  (refine k_ret (vs := [_]) rfl h ⟨rv_cellA (i := 0) hm rfl rfl rfl, trivial⟩ ⟨?_, hm.below⟩)
  rfl
set_option maxHeartbeats 2000000 in
theorem ptimes_ok (k x y z : Int) (hk : -4096 ≤ k ∧ k ≤ 4096) (hx : -1000000 ≤ x ∧ x ≤ 1000000) (hy : -1000000 ≤ y ∧ y ≤ 1000000) (hz : -1000000 ≤ z ∧ z ≤ 1000000) :
    Fun Tryz.prog 62 [.agg #[I x, I y, I z], I k] (.agg #[I (k * x), I (k * y), I (k * z)]) := by
  refine enterFun Tryz.func62 rfl Tryz.ntmps62 rfl (fun W0 w a hm h => ?_)
  repeat' (first | refine c_seq ?_ | refine c_region ?_ | refine c_nil ?_ | refine k_then ?_ | refine c_ret ?_ | ((first | refine st_op rfl rfl h ?_ | refine st_opn rfl h ?_); clear h a; (first | (show Does _ (.call _) _ _ _ _; (((refine does_funP hm en73 rfl (peach_times_ok k _ _ _ _ (by omega) (by omega) (by omega) (by omega)) (at_own (i := 1) hm rfl (fun j v hv => (by rw [Nat.zero_add]; exact hv))) ?_; clear hm; intro w hm)))) | (show Does _ (.box _ _) _ _ _ _; (refine does_box hm rfl rfl ?_; clear hm; intro b w hm)) | (show Does _ (.alloc _) _ _ _ _; (refine does_alloc hm ?_; clear hm; intro b w hm)) | (show Does _ (.store _ _ _) _ _ _ _; ((refine does_storeO 0 hm rfl rfl rfl rfl rfl rfl rfl ?_; clear hm; intro w hm; (simp only [Value.cells, splice, nqq, Nat.reduceAdd, Nat.reduceMul, Int.reduceAdd, Int.reduceToNat] at hm)))) | (show Does _ (.load _ _) _ _ _ _; (refine does_loadOA 2 hm rfl rfl rfl ?_)) | (show Does _ (.makeFunc _ _ _) _ _ _ _; refine does_makeFunc rfl rfl ?_)); intro a h; (first | simp only [Value.cells, splice, nqq, Nat.reduceAdd, Nat.reduceMul, Int.reduceAdd, Int.reduceToNat, Int.reduceTMod] at h | skip)))
  (refine k_ret (vs := [_]) rfl h ⟨rv_cellA (i := 0) hm rfl rfl rfl, trivial⟩ ⟨?_, hm.below⟩)
  rfl
set_option maxHeartbeats 2000000 in
theorem pover1_ok (k n : Int) (q : Addr) (hn : -1000000000000 ≤ n ∧ n ≤ 1000000000000) : FunP Tryz.prog 79 [I n, .pointer (some q)] (fun H => At H q [I k]) (I (fDiv n k)) := by
  refine enterFunP Tryz.func79 rfl Tryz.ntmps79 rfl (fun W0 w a hp hm h => ?_)
  repeat' (first | refine c_seq ?_ | refine c_region ?_ | refine c_nil ?_ | refine k_then ?_ | refine c_ret ?_ | ((refine st_op rfl rfl h ?_); clear h a; (first | (show Does _ (.call _) _ _ _ _; (refine does_funM hm en35 rfl (floorDiv_ok _ _ (by first | assumption | omega)) ?_; clear hm; intro w hm)) | (show Does _ (.move _) _ _ _ _; refine does_move rfl ?_) | (show Does _ (.assign _) _ _ _ _; refine does_assign rfl ?_) | (show Does _ (.load _ _) _ _ _ _; (refine does_loadB hm rfl (by assumption) rfl ?_))); intro a h))
  (refine k_ret1 rfl h rfl ⟨?_, hm.below⟩)
  rfl
set_option maxHeartbeats 2000000 in
theorem peach_over_ok (k x y z : Int) (q : Addr) (hx : -1000000000000 ≤ x ∧ x ≤ 1000000000000) (hy : -1000000000000 ≤ y ∧ y ≤ 1000000000000) (hz : -1000000000000 ≤ z ∧ z ≤ 1000000000000) :
    FunP Tryz.prog 73 [.agg #[I x, I y, I z], .func (.func 79) #[] #[.pointer (some q)]] (fun H => At H q [I k]) (.agg #[I (fDiv x k), I (fDiv y k), I (fDiv z k)]) := by
  refine enterFunP Tryz.func73 rfl Tryz.ntmps73 rfl (fun W0 w a hp hm h => ?_)
  repeat' (first | refine c_seq ?_ | refine c_region ?_ | refine c_nil ?_ | refine k_then ?_ | refine c_ret ?_ | ((first | refine st_op rfl rfl h ?_ | refine st_opn rfl h ?_); clear h a; (first | (show Does _ (.box _ _) _ _ _ _; (refine does_box hm rfl rfl ?_; clear hm; intro b w hm)) | (show Does _ (.alloc _) _ _ _ _; (refine does_alloc hm ?_; clear hm; intro b w hm)) | (show Does _ (.store _ _ _) _ _ _ _; ((refine does_storeO 0 hm rfl rfl rfl rfl rfl rfl rfl ?_; clear hm; intro w hm; (simp only [Value.cells, splice, nqq, Nat.reduceAdd, Nat.reduceMul, Int.reduceAdd, Int.reduceToNat] at hm))))); intro a h) | (apply c_drawM (id := 1) 13 [.val _, .val _, .val _, .val _, .val _, .val _, .val _, .val _, .val _, .val _, .val _, .val _, .val _] mixed (by kernel_rfl) (h := h) (hm := hm); (case vcs => (repeat' (first | exact vcs_nil | refine vcs_cons ?_ ?_ | (intro w hm; (repeat (first | refine dep_val ?_ | refine dep_nil ?_)); first | exact vc_skip rfl | exact vc_alloc rfl | exact vc_box rfl rfl rfl | exact vc_buildSlice rfl rfl rfl rfl | exact vc_makeSlice (by omega) (by omega) rfl rfl rfl | exact vc_store rfl rfl rfl rfl rfl rfl rfl rfl rfl rfl | (apply vc_run rfl; (first | (show Does _ (.call _) _ _ _ _; ((refine does_funVPX rfl rfl rfl (by repeat' (exact At.up (by assumption) hm)) (pover1_ok _ _ _ (by omega)) ?_))) | (show Does _ (.move _) _ _ _ _; refine does_move rfl ?_) | (show Does _ (.fieldAddr _ _ _) _ _ _ _; (refine does_fieldAddrL rfl ?_)) | (show Does _ (.load _ _) _ _ _ _; (refine does_loadO 1 hm rfl rfl rfl ?_)) | (show Does _ (.build _ _) _ _ _ _; refine does_build rfl rfl ?_)); (first | exact ⟨ext_refl _, rfl⟩ | exact fun _ hx => ⟨hx, rfl⟩)))))); (case hup => kernel_rfl); (case hown => kernel_rfl); (case hnp => kernel_rfl); clear h hm a; intro  w hm; (simp only [List.map_nil, List.nil_append] at hm); (repeat (first | refine dep_val ?_ | refine dep_nil ?_)); intro a h; (simp only [Value.cells, splice, nqq, Nat.reduceAdd, Nat.reduceMul, Int.reduceAdd, Int.reduceToNat, Int.reduceTMod] at h)))
  (refine k_ret (vs := [_]) rfl h ⟨rv_cellA (i := 0) hm rfl rfl rfl, trivial⟩ ⟨?_, hm.below⟩)
  rfl
set_option maxHeartbeats 2000000 in
theorem pover_ok (k x y z : Int) (hx : -1000000000000 ≤ x ∧ x ≤ 1000000000000) (hy : -1000000000000 ≤ y ∧ y ≤ 1000000000000) (hz : -1000000000000 ≤ z ∧ z ≤ 1000000000000) :
    Fun Tryz.prog 64 [.agg #[I x, I y, I z], I k] (.agg #[I (fDiv x k), I (fDiv y k), I (fDiv z k)]) := by
  refine enterFun Tryz.func64 rfl Tryz.ntmps64 rfl (fun W0 w a hm h => ?_)
  repeat' (first | refine c_seq ?_ | refine c_region ?_ | refine c_nil ?_ | refine k_then ?_ | refine c_ret ?_ | ((first | refine st_op rfl rfl h ?_ | refine st_opn rfl h ?_); clear h a; (first | (show Does _ (.call _) _ _ _ _; (((refine does_funP hm en73 rfl (peach_over_ok k _ _ _ _ (by omega) (by omega) (by omega)) (at_own (i := 1) hm rfl (fun j v hv => (by rw [Nat.zero_add]; exact hv))) ?_; clear hm; intro w hm)))) | (show Does _ (.box _ _) _ _ _ _; (refine does_box hm rfl rfl ?_; clear hm; intro b w hm)) | (show Does _ (.alloc _) _ _ _ _; (refine does_alloc hm ?_; clear hm; intro b w hm)) | (show Does _ (.store _ _ _) _ _ _ _; ((refine does_storeO 0 hm rfl rfl rfl rfl rfl rfl rfl ?_; clear hm; intro w hm; (simp only [Value.cells, splice, nqq, Nat.reduceAdd, Nat.reduceMul, Int.reduceAdd, Int.reduceToNat] at hm)))) | (show Does _ (.load _ _) _ _ _ _; (refine does_loadOA 2 hm rfl rfl rfl ?_)) | (show Does _ (.makeFunc _ _ _) _ _ _ _; refine does_makeFunc rfl rfl ?_)); intro a h; (first | simp only [Value.cells, splice, nqq, Nat.reduceAdd, Nat.reduceMul, Int.reduceAdd, Int.reduceToNat, Int.reduceTMod] at h | skip)))
  (refine k_ret (vs := [_]) rfl h ⟨rv_cellA (i := 0) hm rfl rfl rfl, trivial⟩ ⟨?_, hm.below⟩)
  rfl
set_option maxHeartbeats 2000000 in
theorem evalPatch_ok (x0 y0 z0 x1 y1 z1 x2 y2 z2 x3 y3 z3 i j n : Int) (hn : 1 ≤ n ∧ n ≤ 8) (hi : 0 ≤ i ∧ i ≤ n) (hj : 0 ≤ j ∧ j ≤ n) : Fun Tryz.prog 61 [.agg #[I x0, I y0, I z0, I x1, I y1, I z1, I x2, I y2, I z2, I x3, I y3, I z3], I i, I j, I n] (.agg #[I (mn x0 x1 x2 x3 i j n), I (mn y0 y1 y2 y3 i j n), I (mn z0 z1 z2 z3 i j n)]) := by
  have hw := w_nn hi hj
  have hv := w_le hn.2 hi hj
  have t0x := term_bd (x := (max (-1000000) (min x0 1000000))) ⟨hw.1.1, hv.1.1⟩ (by omega)
  have t1x := term_bd (x := (max (-1000000) (min x1 1000000))) ⟨hw.1.2, hv.1.2⟩ (by omega)
  have t2x := term_bd (x := (max (-1000000) (min x2 1000000))) ⟨hw.2.1, hv.2.1⟩ (by omega)
  have t3x := term_bd (x := (max (-1000000) (min x3 1000000))) ⟨hw.2.2, hv.2.2⟩ (by omega)
  have t0y := term_bd (x := (max (-1000000) (min y0 1000000))) ⟨hw.1.1, hv.1.1⟩ (by omega)
  have t1y := term_bd (x := (max (-1000000) (min y1 1000000))) ⟨hw.1.2, hv.1.2⟩ (by omega)
  have t2y := term_bd (x := (max (-1000000) (min y2 1000000))) ⟨hw.2.1, hv.2.1⟩ (by omega)
  have t3y := term_bd (x := (max (-1000000) (min y3 1000000))) ⟨hw.2.2, hv.2.2⟩ (by omega)
  have t0z := term_bd (x := (max (-1000000) (min z0 1000000))) ⟨hw.1.1, hv.1.1⟩ (by omega)
  have t1z := term_bd (x := (max (-1000000) (min z1 1000000))) ⟨hw.1.2, hv.1.2⟩ (by omega)
  have t2z := term_bd (x := (max (-1000000) (min z2 1000000))) ⟨hw.2.1, hv.2.1⟩ (by omega)
  have t3z := term_bd (x := (max (-1000000) (min z3 1000000))) ⟨hw.2.2, hv.2.2⟩ (by omega)
  refine enterFun Tryz.func61 rfl Tryz.ntmps61 rfl (fun W0 w a hm h => ?_)
  repeat' (first | refine c_seq ?_ | refine c_region ?_ | refine c_nil ?_ | refine k_then ?_ | refine k_thenL ?_ | refine k_thenE ?_ | refine k_inN ?_ | refine k_inE ?_ | refine c_skip ?_ | refine c_ret ?_ | refine c_exit ?_ | refine c_block ?_ | refine r_succ ?_ | refine c_condT h rfl ?_ | refine c_condF h rfl ?_ | (refine c_rounds 5 ?_) | ((first | refine st_op rfl rfl h ?_ | refine st_opn rfl h ?_); clear h a; (first | (show Does _ (.box _ _) _ _ _ _; (refine does_box hm rfl rfl ?_; clear hm; intro b w hm)) | (show Does _ (.alloc _) _ _ _ _; (refine does_alloc hm ?_; clear hm; intro b w hm)) | (show Does _ (.store _ _ _) _ _ _ _; (first | (refine does_storeO 0 hm rfl rfl rfl rfl rfl rfl rfl ?_; clear hm; intro w hm; (simp only [Value.cells, splice, nqq, Nat.reduceAdd, Nat.reduceMul, Int.reduceAdd, Int.reduceToNat] at hm)) | (refine does_storeO 1 hm rfl rfl rfl rfl rfl rfl rfl ?_; clear hm; intro w hm; (simp only [Value.cells, splice, nqq, Nat.reduceAdd, Nat.reduceMul, Int.reduceAdd, Int.reduceToNat] at hm)) | (refine does_storeO 2 hm rfl rfl rfl rfl rfl rfl rfl ?_; clear hm; intro w hm; (simp only [Value.cells, splice, nqq, Nat.reduceAdd, Nat.reduceMul, Int.reduceAdd, Int.reduceToNat] at hm)) | (refine does_storeO 3 hm rfl rfl rfl rfl rfl rfl rfl ?_; clear hm; intro w hm; (simp only [Value.cells, splice, nqq, Nat.reduceAdd, Nat.reduceMul, Int.reduceAdd, Int.reduceToNat] at hm)) | (refine does_storeO 4 hm rfl rfl rfl rfl rfl rfl rfl ?_; clear hm; intro w hm; (simp only [Value.cells, splice, nqq, Nat.reduceAdd, Nat.reduceMul, Int.reduceAdd, Int.reduceToNat] at hm)) | (refine does_storeO 6 hm rfl rfl rfl rfl rfl rfl rfl ?_; clear hm; intro w hm; (simp only [Value.cells, splice, nqq, Nat.reduceAdd, Nat.reduceMul, Int.reduceAdd, Int.reduceToNat] at hm)))) | (show Does _ (.call _) _ _ _ _; ((refine does_funM hm en64 rfl (pover_ok _ _ _ _ (by omega) (by omega) (by omega)) ?_; clear hm; intro w hm))) | (show Does _ (.move _) _ _ _ _; refine does_move rfl ?_) | (show Does _ (.assign _) _ _ _ _; refine does_assign rfl ?_) | (show Does _ (.fieldAddr _ _ _) _ _ _ _; (refine does_fieldAddrL rfl ?_)) | (show Does _ (.load _ _) _ _ _ _; (first | refine does_loadOA 3 hm rfl rfl rfl ?_ | refine does_loadOA 4 hm rfl rfl rfl ?_)) | (show Does _ (.binOp _ _ _ _ _) _ _ _ _; (first | refine does_lssT rfl rfl (by omega) ?_ | refine does_lssF rfl rfl (by omega) ?_ | refine does_mul rfl rfl (mul_in (by omega) (by omega)) ?_ | refine does_add rfl rfl (by omega) ?_ | refine does_sub rfl rfl (by omega) ?_)) | (show Does _ (.index _ _ _) _ _ _ _; (refine does_indexVA (by omega) rfl rfl ?_)) | (show Does _ (.build _ _) _ _ _ _; refine does_build rfl rfl ?_)); intro a h; (first | simp only [Value.cells, splice, nqq, Nat.reduceAdd, Nat.reduceMul, Int.reduceAdd, Int.reduceToNat, Int.reduceTMod] at h | skip)) | (apply c_drawM (id := 6) 8 [.val _, .val _, .val _, .val _, .val _, .val _, .val _, .val _] mixed (by kernel_rfl) (h := h) (hm := hm); (case vcs => (repeat' (first | exact vcs_nil | refine vcs_cons ?_ ?_ | (intro w hm; (repeat (first | refine dep_val ?_ | refine dep_nil ?_)); first | exact vc_skip rfl | exact vc_alloc rfl | exact vc_box rfl rfl rfl | exact vc_buildSlice rfl rfl rfl rfl | exact vc_makeSlice (by omega) (by omega) rfl rfl rfl | exact vc_store rfl rfl rfl rfl rfl rfl rfl rfl rfl rfl | (apply vc_run rfl; (first | (show Does _ (.call _) _ _ _ _; (first | (refine does_funX en63 rfl (plus_ok _ _ _ _ _ _ (by first | assumption | omega) (by first | assumption | omega) (by first | assumption | omega) (by first | assumption | omega) (by first | assumption | omega) (by first | assumption | omega)) ?_) | (refine does_funX en55 rfl (clamped_ok _ _ _) ?_) | (refine does_funX en62 rfl (ptimes_ok _ _ _ _ (by omega) (by omega) (by omega) (by omega)) ?_))) | (show Does _ (.move _) _ _ _ _; refine does_move rfl ?_) | (show Does _ (.load _ _) _ _ _ _; (first | refine does_loadO 2 hm rfl rfl rfl ?_ | refine does_loadO 3 hm rfl rfl rfl ?_ | refine does_loadO 4 hm rfl rfl rfl ?_ | refine does_loadO 5 hm rfl rfl rfl ?_ | refine does_loadOA 0 hm rfl rfl rfl ?_ | refine does_loadOA 1 hm rfl rfl rfl ?_ | refine does_loadOA 2 hm rfl rfl rfl ?_ | refine does_loadOA 3 hm rfl rfl rfl ?_ | refine does_loadOA 4 hm rfl rfl rfl ?_)) | (show Does _ (.indexAddr _ _ _) _ _ _ _; (refine does_indexPL (by omega) rfl rfl ?_))); (first | exact ⟨ext_refl _, rfl⟩ | exact fun _ hx => ⟨hx, rfl⟩)))))); (case hup => kernel_rfl); (case hown => kernel_rfl); (case hnp => kernel_rfl); clear h hm a; intro  w hm; (simp only [List.map_nil, List.nil_append] at hm); (repeat (first | refine dep_val ?_ | refine dep_nil ?_)); intro a h; (simp only [Value.cells, splice, nqq, Nat.reduceAdd, Nat.reduceMul, Int.reduceAdd, Int.reduceToNat, Int.reduceTMod] at h)))
  all_goals (refine k_ret (vs := [_]) rfl h ⟨rv_cellA (i := 6) hm rfl rfl rfl, trivial⟩ ⟨?_, hm.below⟩)
  all_goals (((exact aggE (by simp only [mn, wsum_steps])); done))
end Go.Proofs.YtcbnegmmjflmcaaGreat.St
end
