/-
  Contracts of the functions that bound and project on the screen, in plain formulas.
-/
import Derived.Test.YtcbnegmmjflmcaaGreatLAxis
import Derived.Test.YtcbnegmmjflmcaaGreatJ10
import Derived.Test.YtcbnegmmjflmcaaGreatJ7
import Derived.Test.YtcbnegmmjflmcaaGreatJ2

section
set_option linter.unusedSimpArgs false
set_option linter.unusedVariables false
namespace Go.Proofs.YtcbnegmmjflmcaaGreat.St.G
open Go.RowKit
theorem axis_ok (cw ch z n : Int) (dd : Bool) (l f lo hi zlo zhi half : Int) (hv : vAx cw ch z n l f lo hi zlo zhi half) : Fun Tryz.prog 18 [.agg #[I cw, I ch, I z, I n, .bool dd, I l, I f], I lo, I hi, I zlo, I zhi, I half] (.tuple #[I (axLo dd z l f lo zlo zhi half), I (axHi dd z l f hi zlo zhi half)]) := by
  cases dd
  · exact axis_false cw ch z n l f lo hi zlo zhi half hv
  · exact axis_true cw ch z n l f lo hi zlo zhi half hv
def vBx (a b c d e f : Int) : Prop := vV a b c ∧ vV d e f ∧ a ≤ d ∧ b ≤ e ∧ c ≤ f
set_option maxHeartbeats 2000000 in
theorem isValidBox_ok (a b c d e f : Int) : Fun Tryz.prog 17 [.agg #[I a, I b, I c, I d, I e, I f]] (.bool (dB (vBx a b c d e f))) := by
  refine enterFun Tryz.func17 rfl Tryz.ntmps17 rfl (fun W0 w a hm h => ?_)
  repeat' (first | refine c_seq ?_ | refine c_region ?_ | refine c_nil ?_ | refine k_then ?_ | refine c_ret ?_ | ((first | refine st_op rfl rfl h ?_ | refine st_opn rfl h ?_); clear h a; (first | (show Does _ (.box _ _) _ _ _ _; (refine does_box hm rfl rfl ?_; clear hm; intro b w hm)) | (show Does _ (.alloc _) _ _ _ _; (refine does_alloc hm ?_; clear hm; intro b w hm)) | (show Does _ (.store _ _ _) _ _ _ _; (first | (refine does_storeO 0 hm rfl rfl rfl rfl rfl rfl rfl ?_; clear hm; intro w hm; (simp only [Value.cells, splice, nqq, Nat.reduceAdd, Nat.reduceMul, Int.reduceAdd, Int.reduceToNat] at hm)) | (refine does_storeO 1 hm rfl rfl rfl rfl rfl rfl rfl ?_; clear hm; intro w hm; (simp only [Value.cells, splice, nqq, Nat.reduceAdd, Nat.reduceMul, Int.reduceAdd, Int.reduceToNat] at hm)))) | (show Does _ (.call _) _ _ _ _; (first | (refine does_funM hm en23 rfl (corners_ok _ _ _ _ _ _) ?_; clear hm; intro w hm) | (refine does_funM hm en31 rfl (isValidVec_ok _ _ _) ?_; clear hm; intro w hm) | (refine does_funM hm en24 rfl (atMost_ok _ _ _ _ _ _) ?_; clear hm; intro w hm))) | (show Does _ (.move _) _ _ _ _; refine does_move rfl ?_) | (show Does _ (.assign _) _ _ _ _; refine does_assign rfl ?_) | (show Does _ (.pick _ _ _) _ _ _ _; (first | refine does_pickT rfl rfl ?_ | refine does_pickF rfl rfl ?_)) | (show Does _ (.fieldAddr _ _ _) _ _ _ _; (refine does_fieldAddrL rfl ?_)) | (show Does _ (.load _ _) _ _ _ _; (first | refine does_loadOA 0 hm rfl rfl rfl ?_ | refine does_loadOA 1 hm rfl rfl rfl ?_ | refine does_loadOA 2 hm rfl rfl rfl ?_)) | (show Does _ (.extract _ _) _ _ _ _; refine does_extract rfl rfl ?_)); intro a h; (first | simp only [Value.cells, splice, nqq, Nat.reduceAdd, Nat.reduceMul, Int.reduceAdd, Int.reduceToNat, Int.reduceTMod] at h | skip)) | ((refine st_skip rfl rfl h ?_); clear h a; intro a h) | (refine st_guardD rfl rfl h ?_ ?_ <;> clear h <;> intro hc h))
  all_goals (refine k_ret1 rfl h rfl ⟨?_, hm.below⟩)
  all_goals (((first | exact boolF (by unfold vBx vV; omega) | exact boolI (by unfold vBx vV; omega)); done))
def vCm (w h z n l f : Int) : Prop := (1 ≤ w ∧ w ≤ 12) ∧ (1 ≤ h ∧ h ≤ 12) ∧ (1 ≤ z ∧ z ≤ 65536) ∧ (1 ≤ n ∧ n ≤ 1000000) ∧ (0 ≤ l ∧ l ≤ 64) ∧ (0 ≤ f ∧ f ≤ 1000000)
def vSB (w h z n l f a b c d e g : Int) : Prop := vCm w h z n l f ∧ vBx a b c d e g ∧ max c n ≤ g
theorem cam_y (cw ch z n : Int) (dd : Bool) (l f : Int) (hv : vCm cw ch z n l f) : Fun Tryz.prog 16 [.agg #[I cw, I ch, I z, I n, .bool dd, I l, I f]] (.bool true) := by
  have := isValidCamera_ok cw ch z n dd l f
  unfold vCm at hv
  rwa [bT hv] at this
set_option maxHeartbeats 4000000 in
theorem screen_yes (w h z n : Int) (dd : Bool) (l f a b c d e g : Int) (hv : vSB w h z n l f a b c d e g) :
    Fun Tryz.prog 6 [.agg #[I w, I h, I z, I n, .bool dd, I l, I f], .agg #[I a, I b, I c, I d, I e, I g]]
    (.tuple #[.agg #[I (axLo dd z l f a (max c n) g ((w * 16).tdiv 2)), I (axLo dd z l f b (max c n) g ((h * 16).tdiv 2)), I (max c n), I (axHi dd z l f d (max c n) g ((w * 16).tdiv 2)), I (axHi dd z l f e (max c n) g ((h * 16).tdiv 2)), I g], .bool true]) := by
  have hv1 := hv.1
  have hv2 := hv.2.1
  have hv3 := hv.2.2
  have hb := hv2.1
  have hb2 := hv2.2.1
  have hb3 := hv2.2.2
  have hvc := hv1
  unfold vCm at hv1
  unfold vV at hb hb2
  have k1 : (w * 16).tdiv 2 = w * 8 := by rw [show w * 16 = w * 8 * 2 by omega]; exact Int.mul_tdiv_cancel _ (by omega)
  have k2 : (h * 16).tdiv 2 = h * 8 := by rw [show h * 16 = h * 8 * 2 by omega]; exact Int.mul_tdiv_cancel _ (by omega)
  have hx : vAx w h z n l f a d (max c n) g ((w * 16).tdiv 2) := by unfold vAx w5; omega
  have hy : vAx w h z n l f b e (max c n) g ((h * 16).tdiv 2) := by unfold vAx w5; omega
  have hA1 := axis_ok w h z n dd l f a d (max c n) g ((w * 16).tdiv 2) hx
  have hA2 := axis_ok w h z n dd l f b e (max c n) g ((h * 16).tdiv 2) hy
  have hC := cam_y w h z n dd l f hvc
  refine enterFun Tryz.func6 rfl Tryz.ntmps6 rfl (fun W0 w a hm h => ?_)
  repeat' (first | refine c_seq ?_ | refine c_region ?_ | refine c_nil ?_ | refine k_then ?_ | refine k_thenR ?_ | refine c_skip ?_ | refine c_ret ?_ | refine c_condF h rfl ?_ | ((first | refine st_op rfl rfl h ?_ | refine st_opn rfl h ?_); clear h a; (first | (show Does _ (.call _) _ _ _ _; (first | ((refine does_funM hm en16 rfl hC ?_; clear hm; intro w hm)) | ((refine does_funM hm en17 rfl (isValidBox_ok _ _ _ _ _ _) ?_; clear hm; intro w hm)) | ((refine does_funM hm en18 rfl hA1 ?_; clear hm; intro w hm)) | ((refine does_funM hm en18 rfl hA2 ?_; clear hm; intro w hm)))) | (show Does _ (.box _ _) _ _ _ _; (refine does_box hm rfl rfl ?_; clear hm; intro b w hm)) | (show Does _ (.alloc _) _ _ _ _; (refine does_alloc hm ?_; clear hm; intro b w hm)) | (show Does _ (.store _ _ _) _ _ _ _; ((refine does_storeO 0 hm rfl rfl rfl rfl rfl rfl rfl ?_; clear hm; intro w hm; (simp only [Value.cells, splice, nqq, Nat.reduceAdd, Nat.reduceMul, Int.reduceAdd, Int.reduceToNat] at hm)))) | (show Does _ (.move _) _ _ _ _; refine does_move rfl ?_) | (show Does _ (.assign _) _ _ _ _; refine does_assign rfl ?_) | (show Does _ (.pick _ _ _) _ _ _ _; (refine does_pickF rfl rfl ?_)) | (show Does _ (.fieldAddr _ _ _) _ _ _ _; (refine does_fieldAddrL rfl ?_)) | (show Does _ (.load _ _) _ _ _ _; (first | refine does_loadO 1 hm rfl rfl rfl ?_ | refine does_loadO 2 hm rfl rfl rfl ?_ | refine does_loadOA 1 hm rfl rfl rfl ?_ | refine does_loadOA 2 hm rfl rfl rfl ?_)) | (show Does _ (.binOp _ _ _ _ _) _ _ _ _; (first | refine does_gtrF rfl rfl (by omega) ?_ | refine does_mul rfl rfl (mul_in (by omega) (by omega)) ?_ | refine does_quo rfl rfl (by omega) ?_)) | (show Does _ (.unOp _ _ _) _ _ _ _; (first | refine does_notD rfl ?_ | refine does_not rfl ?_)) | (show Does _ (.extract _ _) _ _ _ _; refine does_extract rfl rfl ?_) | (show Does _ (.build _ _) _ _ _ _; refine does_build rfl rfl ?_)); intro a h; (first | simp only [Value.cells, splice, nqq, Nat.reduceAdd, Nat.reduceMul, Int.reduceAdd, Int.reduceToNat, Int.reduceTMod] at h | skip)) | (apply c_drawM (id := 3) 11 [.val _, .val _, .val _, .val _, .val _, .val _, .val _, .val _, .val _, .val _, .val _] mixed (by kernel_rfl) (h := h) (hm := hm); (case vcs => (repeat' (first | exact vcs_nil | refine vcs_cons ?_ ?_ | (intro w hm; (repeat (first | refine dep_val ?_ | refine dep_nil ?_)); first | exact vc_skip rfl | exact vc_alloc rfl | exact vc_box rfl rfl rfl | exact vc_buildSlice rfl rfl rfl rfl | exact vc_makeSlice (by omega) (by omega) rfl rfl rfl | exact vc_store rfl rfl rfl rfl rfl rfl rfl rfl rfl rfl | (apply vc_run rfl; (first | (show Does _ (.call _) _ _ _ _; (refine does_max rfl rfl ?_)) | (show Does _ (.assign _) _ _ _ _; refine does_assign rfl ?_) | (show Does _ (.fieldAddr _ _ _) _ _ _ _; (refine does_fieldAddrL rfl ?_)) | (show Does _ (.load _ _) _ _ _ _; (first | refine does_loadO 1 hm rfl rfl rfl ?_ | refine does_loadO 2 hm rfl rfl rfl ?_))); (exact ⟨ext_refl _, rfl⟩)))))); (case hup => kernel_rfl); (case hown => kernel_rfl); (case hnp => kernel_rfl); clear h hm a; intro  w hm; (simp only [List.map_nil, List.nil_append] at hm); (repeat (first | refine dep_val ?_ | refine dep_nil ?_)); intro a h; (simp only [Value.cells, splice, nqq, Nat.reduceAdd, Nat.reduceMul, Int.reduceAdd, Int.reduceToNat, Int.reduceTMod] at h)) | ((refine c_condD h rfl ?_ ?_) <;> intro hc <;> (skip)))
  all_goals first | (exfalso; omega) | exact absurd hv2 hc | (refine k_ret (vs := [_, _]) rfl h ⟨rv_cellA (i := 0) hm rfl rfl rfl, rfl, trivial⟩ ⟨?_, hm.below⟩)
  all_goals rfl
set_option maxHeartbeats 4000000 in
theorem screen_no (w h z n : Int) (dd : Bool) (l f a b c d e g : Int) (hc : vCm w h z n l f) (hb : vBx a b c d e g) (hz : g < max c n) :
    Fun Tryz.prog 6 [.agg #[I w, I h, I z, I n, .bool dd, I l, I f], .agg #[I a, I b, I c, I d, I e, I g]] (.tuple #[.agg #[I 0, I 0, I 0, I 0, I 0, I 0], .bool false]) := by
  have hC := cam_y w h z n dd l f hc
  refine enterFun Tryz.func6 rfl Tryz.ntmps6 rfl (fun W0 w a hm h => ?_)
  repeat' (first | refine c_seq ?_ | refine c_region ?_ | refine c_nil ?_ | refine k_then ?_ | refine k_thenR ?_ | refine c_skip ?_ | refine c_ret ?_ | refine c_condT h rfl ?_ | ((first | refine st_op rfl rfl h ?_ | refine st_opn rfl h ?_); clear h a; (first | (show Does _ (.call _) _ _ _ _; (first | ((refine does_funM hm en16 rfl hC ?_; clear hm; intro w hm)) | ((refine does_funM hm en17 rfl (isValidBox_ok _ _ _ _ _ _) ?_; clear hm; intro w hm)))) | (show Does _ (.box _ _) _ _ _ _; (refine does_box hm rfl rfl ?_; clear hm; intro b w hm)) | (show Does _ (.alloc _) _ _ _ _; (refine does_alloc hm ?_; clear hm; intro b w hm)) | (show Does _ (.store _ _ _) _ _ _ _; ((refine does_storeO 0 hm rfl rfl rfl rfl rfl rfl rfl ?_; clear hm; intro w hm; (simp only [Value.cells, splice, nqq, Nat.reduceAdd, Nat.reduceMul, Int.reduceAdd, Int.reduceToNat] at hm)))) | (show Does _ (.move _) _ _ _ _; refine does_move rfl ?_) | (show Does _ (.assign _) _ _ _ _; refine does_assign rfl ?_) | (show Does _ (.pick _ _ _) _ _ _ _; (refine does_pickF rfl rfl ?_)) | (show Does _ (.load _ _) _ _ _ _; (first | refine does_loadOA 1 hm rfl rfl rfl ?_ | refine does_loadOA 2 hm rfl rfl rfl ?_)) | (show Does _ (.binOp _ _ _ _ _) _ _ _ _; (refine does_gtrT rfl rfl (by omega) ?_)) | (show Does _ (.unOp _ _ _) _ _ _ _; (first | refine does_notD rfl ?_ | refine does_not rfl ?_)) | (show Does _ (.build _ _) _ _ _ _; refine does_build rfl rfl ?_)); intro a h; (first | simp only [Value.cells, splice, nqq, Nat.reduceAdd, Nat.reduceMul, Int.reduceAdd, Int.reduceToNat, Int.reduceTMod] at h | skip)) | (apply c_drawM (id := 3) 11 [.val _, .val _, .val _, .val _, .val _, .val _, .val _, .val _, .val _, .val _, .val _] mixed (by kernel_rfl) (h := h) (hm := hm); (case vcs => (repeat' (first | exact vcs_nil | refine vcs_cons ?_ ?_ | (intro w hm; (repeat (first | refine dep_val ?_ | refine dep_nil ?_)); first | exact vc_skip rfl | exact vc_alloc rfl | exact vc_box rfl rfl rfl | exact vc_buildSlice rfl rfl rfl rfl | exact vc_makeSlice (by omega) (by omega) rfl rfl rfl | exact vc_store rfl rfl rfl rfl rfl rfl rfl rfl rfl rfl | (apply vc_run rfl; (first | (show Does _ (.call _) _ _ _ _; (refine does_max rfl rfl ?_)) | (show Does _ (.assign _) _ _ _ _; refine does_assign rfl ?_) | (show Does _ (.fieldAddr _ _ _) _ _ _ _; (refine does_fieldAddrL rfl ?_)) | (show Does _ (.load _ _) _ _ _ _; (first | refine does_loadO 1 hm rfl rfl rfl ?_ | refine does_loadO 2 hm rfl rfl rfl ?_))); (exact ⟨ext_refl _, rfl⟩)))))); (case hup => kernel_rfl); (case hown => kernel_rfl); (case hnp => kernel_rfl); clear h hm a; intro  w hm; (simp only [List.map_nil, List.nil_append] at hm); (repeat (first | refine dep_val ?_ | refine dep_nil ?_)); intro a h; (simp only [Value.cells, splice, nqq, Nat.reduceAdd, Nat.reduceMul, Int.reduceAdd, Int.reduceToNat, Int.reduceTMod] at h)) | ((refine c_condD h rfl ?_ ?_) <;> intro hc <;> (skip)))
  all_goals first | (exfalso; omega) | exact absurd hb (by assumption) | ((refine k_ret (vs := [_, _]) rfl h ⟨rv_cellA (i := 0) hm rfl rfl rfl, rfl, trivial⟩ ⟨?_, hm.below⟩); rfl)
set_option maxHeartbeats 2000000 in
theorem boxContains_ok (a b c d e f x y z : Int) : Fun Tryz.prog 10 [.agg #[I a, I b, I c, I d, I e, I f], .agg #[I x, I y, I z]] (.bool (dB ((a ≤ x ∧ b ≤ y ∧ c ≤ z) ∧ x ≤ d ∧ y ≤ e ∧ z ≤ f))) := by
  refine enterFun Tryz.func10 rfl Tryz.ntmps10 rfl (fun W0 w a hm h => ?_)
  repeat' (first | refine c_seq ?_ | refine c_region ?_ | refine c_nil ?_ | refine k_then ?_ | refine c_ret ?_ | ((first | refine st_op rfl rfl h ?_ | refine st_opn rfl h ?_); clear h a; (first | (show Does _ (.box _ _) _ _ _ _; (refine does_box hm rfl rfl ?_; clear hm; intro b w hm)) | (show Does _ (.alloc _) _ _ _ _; (refine does_alloc hm ?_; clear hm; intro b w hm)) | (show Does _ (.store _ _ _) _ _ _ _; (first | (refine does_storeO 0 hm rfl rfl rfl rfl rfl rfl rfl ?_; clear hm; intro w hm; (simp only [Value.cells, splice, nqq, Nat.reduceAdd, Nat.reduceMul, Int.reduceAdd, Int.reduceToNat] at hm)) | (refine does_storeO 1 hm rfl rfl rfl rfl rfl rfl rfl ?_; clear hm; intro w hm; (simp only [Value.cells, splice, nqq, Nat.reduceAdd, Nat.reduceMul, Int.reduceAdd, Int.reduceToNat] at hm)))) | (show Does _ (.call _) _ _ _ _; (first | (refine does_funM hm en23 rfl (corners_ok _ _ _ _ _ _) ?_; clear hm; intro w hm) | (refine does_funM hm en24 rfl (atMost_ok _ _ _ _ _ _) ?_; clear hm; intro w hm))) | (show Does _ (.move _) _ _ _ _; refine does_move rfl ?_) | (show Does _ (.assign _) _ _ _ _; refine does_assign rfl ?_) | (show Does _ (.pick _ _ _) _ _ _ _; (first | refine does_pickT rfl rfl ?_ | refine does_pickF rfl rfl ?_)) | (show Does _ (.load _ _) _ _ _ _; (first | refine does_loadOA 0 hm rfl rfl rfl ?_ | refine does_loadOA 1 hm rfl rfl rfl ?_ | refine does_loadOA 2 hm rfl rfl rfl ?_)) | (show Does _ (.extract _ _) _ _ _ _; refine does_extract rfl rfl ?_) | (show Does _ (.build _ _) _ _ _ _; refine does_build rfl rfl ?_)); intro a h; (first | simp only [Value.cells, splice, nqq, Nat.reduceAdd, Nat.reduceMul, Int.reduceAdd, Int.reduceToNat, Int.reduceTMod] at h | skip)) | ((refine st_skip rfl rfl h ?_); clear h a; intro a h) | (refine st_guardD rfl rfl h ?_ ?_ <;> clear h <;> intro hc h))
  all_goals (refine k_ret1 rfl h rfl ⟨?_, hm.below⟩)
  all_goals (((first | exact boolF (by omega) | exact boolI (by omega)); done))
set_option maxHeartbeats 2000000 in
theorem viewBounds_y (cw ch z n : Int) (dd : Bool) (l f : Int) (hv : (1 ≤ cw ∧ cw ≤ 12) ∧ (1 ≤ ch ∧ ch ≤ 12) ∧ (1 ≤ z ∧ z ≤ 65536) ∧ (1 ≤ n ∧ n ≤ 1000000) ∧ (0 ≤ l ∧ l ≤ 64) ∧ (0 ≤ f ∧ f ≤ 1000000)) : Fun Tryz.prog 11 [.agg #[I cw, I ch, I z, I n, .bool dd, I l, I f]] (.agg #[I 0, I 0, I n, I (cw * 16 - 1), I (ch * 16 - 1), I 1000000]) := by
  refine enterFun Tryz.func11 rfl Tryz.ntmps11 rfl (fun W0 w a hm h => ?_)
  repeat' (first | refine c_seq ?_ | refine c_region ?_ | refine c_nil ?_ | refine k_then ?_ | refine k_thenR ?_ | refine c_skip ?_ | refine c_ret ?_ | ((first | refine st_op rfl rfl h ?_ | refine st_opn rfl h ?_); clear h a; (first | (show Does _ (.box _ _) _ _ _ _; (refine does_box hm rfl rfl ?_; clear hm; intro b w hm)) | (show Does _ (.alloc _) _ _ _ _; (refine does_alloc hm ?_; clear hm; intro b w hm)) | (show Does _ (.store _ _ _) _ _ _ _; ((refine does_storeO 0 hm rfl rfl rfl rfl rfl rfl rfl ?_; clear hm; intro w hm; (simp only [Value.cells, splice, nqq, Nat.reduceAdd, Nat.reduceMul, Int.reduceAdd, Int.reduceToNat] at hm)))) | (show Does _ (.call _) _ _ _ _; (refine does_funM hm en16 rfl (isValidCamera_ok _ _ _ _ _ _ _) ?_; clear hm; intro w hm)) | (show Does _ (.fieldAddr _ _ _) _ _ _ _; (refine does_fieldAddrL rfl ?_)) | (show Does _ (.load _ _) _ _ _ _; (first | refine does_loadO 1 hm rfl rfl rfl ?_ | refine does_loadOA 1 hm rfl rfl rfl ?_)) | (show Does _ (.binOp _ _ _ _ _) _ _ _ _; (first | refine does_mul rfl rfl (mul_in (by omega) (by omega)) ?_ | refine does_sub rfl rfl (by omega) ?_)) | (show Does _ (.unOp _ _ _) _ _ _ _; (refine does_notD rfl ?_)) | (show Does _ (.build _ _) _ _ _ _; refine does_build rfl rfl ?_)); intro a h; (first | simp only [Value.cells, splice, nqq, Nat.reduceAdd, Nat.reduceMul, Int.reduceAdd, Int.reduceToNat, Int.reduceTMod] at h | skip)) | ((refine c_condD h rfl ?_ ?_) <;> intro hc <;> (skip)))
  all_goals (refine k_ret (vs := [_]) rfl h ⟨rv_cellA (i := 0) hm rfl rfl rfl, trivial⟩ ⟨?_, hm.below⟩)
  all_goals (first | rfl | exact aggE (by simp only [List.cons.injEq, Value.int.injEq, true_and, and_true]; omega))
end Go.Proofs.YtcbnegmmjflmcaaGreat.St.G
end

section
/-
  Slots of a block whose cells are a list's images; contracts whose truth value is decided; counts.
-/
set_option linter.unusedSimpArgs false
set_option linter.unusedVariables false
namespace Go.Proofs.YtcbnegmmjflmcaaGreat.St
open Go.RowKit
section
variable {P : Program} {E : Env} {w W0 : World} {X : List Nat} {B : Heap} {L : List Own} {Φ : Value → World → Prop} {ty t : TypeId} {x y : Operand}
theorem Fun.yes {f : FuncId} {vs : List Value} {p : Prop} (h : Fun P f vs (.bool (dB p))) (hp : p) : Fun P f vs (.bool true) := by rwa [bT hp] at h
theorem Fun.no {f : FuncId} {vs : List Value} {p : Prop} (h : Fun P f vs (.bool (dB p))) (hp : ¬ p) : Fun P f vs (.bool false) := by rwa [bF hp] at h
theorem FunP.yes {f : FuncId} {vs : List Value} {pre : Heap → Prop} {p : Prop} (h : FunP P f vs pre (.bool (dB p))) (hp : p) : FunP P f vs pre (.bool true) := by rwa [bT hp] at h
theorem FunP.no {f : FuncId} {vs : List Value} {pre : Heap → Prop} {p : Prop} (h : FunP P f vs pre (.bool (dB p))) (hp : ¬ p) : FunP P f vs pre (.bool false) := by rwa [bF hp] at h
theorem does_loadArr (i : Nat) {α : Type} {f : α → Value} {us : List α} {u : α} {b off o : Nat} {T : TypeId} {fz : Nat × Nat} [Scalar P t] (hm : Mem W0 X B L w) (hx : ev E x = some (.pointer (some ⟨b, off, none⟩))) (hL : L[i]? = some (.blk b (.cells (us.map f).toArray T fz)))
    (ho : off = o) (hu : us[o]? = some u) (k : Φ (f u) w) : Does P (.load t x) ty E w Φ := by
  subst ho
  exact does_loadO i hm hx hL (by rw [List.getElem?_map, hu]; rfl) k
theorem splice_set {α : Type} (f : α → Value) (us : List α) (o : Nat) (u : α) : splice (us.map f) o [f u] = (us.set o u).map f := by
  rw [splice, splice, List.map_set]
theorem does_storeArr (i : Nat) {α : Type} {f : α → Value} {us : List α} {u : α} {b off o s b_ : Nat} {z v : Value} {T : TypeId} [Sz P t z s b_] (hm : Mem W0 X B L w) (hx : ev E x = some (.pointer (some ⟨b, off, none⟩))) (hy : ev E y = some v) (hvu : v = f u)
    (hL : L[i]? = some (.blk b (.cells (us.map f).toArray T (0, 0)))) (ho : off = o) (hlt : o < us.length) (hv : (f u).cells = [f u].toArray) (h1 : oneCells [f u] = true) (hs : Nat.beq 1 s = true)
    (k : ∀ w', Mem W0 X B (L.set i (.blk b (.cells ((us.set o u).map f).toArray T (0, 0)))) w' → Φ undef w') : Does P (.store t x y) ty E w Φ := by
  subst ho
  subst hvu
  refine does_storeO i hm hx hy hL hv h1 hs (Nat.ble_eq_true_of_le (by simp; omega)) fun w' hm' => k w' ?_
  rwa [splice_set] at hm'
end
def cnt (refs : List Int) (m : Nat) : Int := (refs.count (m : Int) : Nat)
def cntL (n : Nat) (refs : List Int) : List Int := (List.range n).map (cnt refs)
theorem cntL_len (n : Nat) (refs : List Int) : (cntL n refs).length = n := by simp [cntL]
theorem cntL_get {n m : Nat} (refs : List Int) (h : m < n) : (cntL n refs)[m]? = some (cnt refs m) := by simp [cntL, h]
theorem cnt_bd (refs : List Int) (m : Nat) : 0 ≤ cnt refs m ∧ cnt refs m ≤ refs.length := by
  have := List.count_le_length (a := (m : Int)) (l := refs)
  unfold cnt
  omega
theorem cntL_snoc {n j : Nat} {a : Int} (refs : List Int) (ha : a = j) (hj : j < n) : (cntL n refs).set j (cnt refs j + 1) = cntL n (refs ++ [a]) := by
  subst ha
  apply List.ext_getElem?
  intro i
  by_cases hij : j = i
  · subst hij
    rw [List.getElem?_set_self (by rw [cntL_len]; exact hj), cntL_get _ hj]
    simp [cnt]
  · rw [List.getElem?_set_ne hij]
    by_cases hi : i < n
    · rw [cntL_get _ hi, cntL_get _ hi]
      have : ((j : Int) == (i : Int)) = false := by simp; omega
      simp [cnt, List.count_cons, this]
    · rw [List.getElem?_eq_none (by rw [cntL_len]; omega), List.getElem?_eq_none (by rw [cntL_len]; omega)]
theorem cntL_nil (n : Nat) : cntL n [] = List.replicate n 0 := by
  apply List.ext_getElem?
  intro i
  by_cases hi : i < n
  · simp [cntL, hi, cnt]
  · simp [cntL, hi]
theorem rep_cnt (n : Nat) : rep n [Value.int .i64 0] = (cntL n []).map (Value.int .i64) := by
  rw [cntL_nil]
  simp [rep, List.flatten_replicate_singleton]
end Go.Proofs.YtcbnegmmjflmcaaGreat.St
end
