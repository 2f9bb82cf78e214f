/-
  Contracts of the functions that ask whether cameras, patches and surfaces are valid.
-/
import Derived.Test.YtgphmhjnnppbnaaLSfs
import Derived.Test.YtgphmhjnnppbnaaLVec
import Derived.Test.YtgphmhjnnppbnaaStZip
set_option linter.unusedSimpArgs false
set_option linter.unusedVariables false
namespace Go.Proofs.Ytgphmhjnnppbnaa.St
open Go.RowKit
def vV (x y z : Int) : Prop := (-1000000 ≤ x ∧ x ≤ 1000000) ∧ (-1000000 ≤ y ∧ y ≤ 1000000) ∧ (-1000000 ≤ z ∧ z ≤ 1000000)
def pV (x0 y0 z0 x1 y1 z1 x2 y2 z2 x3 y3 z3 : Int) : Prop := vV x0 y0 z0 ∧ vV x1 y1 z1 ∧ vV x2 y2 z2 ∧ vV x3 y3 z3
set_option maxHeartbeats 2000000 in
theorem isValidPatch_ok (x0 y0 z0 x1 y1 z1 x2 y2 z2 x3 y3 z3 : Int) : Fun Try.prog 85 [.agg #[I x0, I y0, I z0, I x1, I y1, I z1, I x2, I y2, I z2, I x3, I y3, I z3]] (.bool (dB (pV x0 y0 z0 x1 y1 z1 x2 y2 z2 x3 y3 z3))) := by
  refine enterFun Try.func85 rfl Try.ntmps85 rfl (fun W0 w a hm h => ?_)
  repeat' (first | refine c_seq ?_ | refine c_region ?_ | refine c_nil ?_ | refine k_then ?_ | refine k_thenL ?_ | refine k_thenR ?_ | refine k_thenE ?_ | refine k_inN ?_ | refine k_inR ?_ | refine k_inE ?_ | refine c_skip ?_ | refine c_ret ?_ | refine c_exit ?_ | refine c_block ?_ | refine r_succ ?_ | refine c_condT h rfl ?_ | refine c_condF h rfl ?_ | (refine c_rounds 5 ?_) | ((first | refine st_op rfl rfl h ?_ | refine st_opn rfl h ?_); clear h a; (first | (refine does_box hm rfl rfl ?_; clear hm; intro b w hm) | (refine does_alloc hm ?_; clear hm; intro b w hm) | ((refine zs hm rfl rfl rfl rfl rfl rfl ?_); clear hm; intro w hm; (try simp only [Value.cells, splice, nz, ns, Nat.reduceAdd, Nat.reduceMul, Int.reduceAdd, Int.reduceToNat] at hm)) | ((refine does_funM hm en178 rfl (isValidVec_ok _ _ _) ?_); clear hm; intro w hm) | refine does_move rfl ?_ | refine does_assign rfl ?_ | refine does_fieldAddrL rfl ?_ | refine za hm rfl rfl ?_ | refine zlss rfl rfl ?_ | refine does_notD rfl ?_ | refine zadd rfl rfl ?_ | refine does_indexVA (by omega) rfl rfl ?_); intro a h; (try simp only [Value.cells, splice, nz, Nat.reduceAdd, Nat.reduceMul, Int.reduceAdd, Int.reduceToNat, Int.reduceTMod] at h)) | ((refine c_condD h rfl ?_ ?_) <;> intro hc <;> (try (fail))))
  all_goals (refine k_ret1 rfl h rfl ⟨?_, hm.below⟩)
  all_goals (((first | exact boolT (by unfold pV vV; omega) | exact boolF (by unfold pV vV; omega)); done))
set_option maxHeartbeats 2000000 in
theorem sIsValidPatch_ok (x0 y0 z0 x1 y1 z1 x2 y2 z2 x3 y3 z3 : Int) : Fun Try.prog 81 [.agg #[I x0, I y0, I z0, I x1, I y1, I z1, I x2, I y2, I z2, I x3, I y3, I z3]] (.bool (dB (pV x0 y0 z0 x1 y1 z1 x2 y2 z2 x3 y3 z3))) := by
  refine enterFun Try.func81 rfl Try.ntmps81 rfl (fun W0 w a hm h => ?_)
  repeat' (first | refine c_seq ?_ | refine c_region ?_ | refine c_nil ?_ | refine k_then ?_ | refine k_thenL ?_ | refine k_thenR ?_ | refine k_thenE ?_ | refine k_inN ?_ | refine k_inR ?_ | refine k_inE ?_ | refine c_skip ?_ | refine c_ret ?_ | refine c_exit ?_ | refine c_block ?_ | refine r_succ ?_ | refine c_condT h rfl ?_ | refine c_condF h rfl ?_ | (refine c_rounds 5 ?_) | ((first | refine st_op rfl rfl h ?_ | refine st_opn rfl h ?_); clear h a; (first | (refine does_box hm rfl rfl ?_; clear hm; intro b w hm) | (refine does_alloc hm ?_; clear hm; intro b w hm) | ((refine zs hm rfl rfl rfl rfl rfl rfl ?_); clear hm; intro w hm; (try simp only [Value.cells, splice, nz, ns, Nat.reduceAdd, Nat.reduceMul, Int.reduceAdd, Int.reduceToNat] at hm)) | ((refine does_funM hm en173 rfl (sIsValidVec_ok _ _ _) ?_); clear hm; intro w hm) | refine does_move rfl ?_ | refine does_assign rfl ?_ | refine does_fieldAddrL rfl ?_ | refine za hm rfl rfl ?_ | refine zlss rfl rfl ?_ | refine does_notD rfl ?_ | refine zadd rfl rfl ?_ | refine does_indexVA (by omega) rfl rfl ?_); intro a h; (try simp only [Value.cells, splice, nz, Nat.reduceAdd, Nat.reduceMul, Int.reduceAdd, Int.reduceToNat, Int.reduceTMod] at h)) | ((refine c_condD h rfl ?_ ?_) <;> intro hc <;> (try (fail))))
  all_goals (refine k_ret1 rfl h rfl ⟨?_, hm.below⟩)
  all_goals (((first | exact boolT (by unfold pV vV; omega) | exact boolF (by unfold pV vV; omega)); done))
set_option maxHeartbeats 2000000 in
theorem rateOk_ok (n : Int) : Fun Try.prog 240 [I n] (.bool (dB (n = 1 ∨ n = 2 ∨ n = 4 ∨ n = 8))) := by
  refine enterFun Try.func240 rfl Try.ntmps240 rfl (fun W0 w a hm h => ?_)
  repeat' (first | refine c_seq ?_ | refine c_region ?_ | refine c_nil ?_ | refine k_then ?_ | refine c_ret ?_ | ((refine st_op rfl rfl h ?_); clear h a; (first | refine does_move rfl ?_ | refine does_assign rfl ?_ | refine does_pickT rfl rfl ?_ | refine does_pickF rfl rfl ?_ | refine zeql rfl rfl ?_); intro a h; (try simp only [Value.cells, splice, nz, Nat.reduceAdd, Nat.reduceMul, Int.reduceAdd, Int.reduceToNat, Int.reduceTMod] at h)) | ((refine st_skip rfl rfl h ?_); clear h a; intro a h) | (refine st_guardD rfl rfl h ?_ ?_ <;> clear h <;> intro hc h))
  all_goals (refine k_ret1 rfl h rfl ⟨?_, hm.below⟩)
  all_goals (first | exact boolT (by omega) | exact boolI (by omega))
set_option maxHeartbeats 2000000 in
theorem sRate_ok (n : Int) : Fun Try.prog 239 [I n] (.bool (dB (n = 1 ∨ n = 2 ∨ n = 4 ∨ n = 8))) := by
  refine enterFun Try.func239 rfl Try.ntmps239 rfl (fun W0 w a hm h => ?_)
  repeat' (first | refine c_seq ?_ | refine c_region ?_ | refine c_nil ?_ | refine k_then ?_ | refine c_ret ?_ | ((refine st_op rfl rfl h ?_); clear h a; (first | refine does_move rfl ?_ | refine does_assign rfl ?_ | refine does_pickT rfl rfl ?_ | refine does_pickF rfl rfl ?_ | refine zeql rfl rfl ?_); intro a h; (try simp only [Value.cells, splice, nz, Nat.reduceAdd, Nat.reduceMul, Int.reduceAdd, Int.reduceToNat, Int.reduceTMod] at h)) | ((refine st_skip rfl rfl h ?_); clear h a; intro a h) | (refine st_guardD rfl rfl h ?_ ?_ <;> clear h <;> intro hc h))
  all_goals (refine k_ret1 rfl h rfl ⟨?_, hm.below⟩)
  all_goals (first | exact boolT (by omega) | exact boolI (by omega))
def sV (p q : Prop) (sh ra n : Int) : Prop := p ∧ q ∧ 0 ≤ sh ∧ sh < n ∧ (ra = 1 ∨ ra = 2 ∨ ra = 4 ∨ ra = 8)
set_option maxHeartbeats 2000000 in
theorem isValidSurface_ok (x0 y0 z0 x1 y1 z1 x2 y2 z2 x3 y3 z3 u0 v0 w0 u1 v1 w1 u2 v2 w2 u3 v3 w3 sh ra n : Int) : Fun Try.prog 171 [.agg #[I x0, I y0, I z0, I x1, I y1, I z1, I x2, I y2, I z2, I x3, I y3, I z3, I u0, I v0, I w0, I u1, I v1, I w1, I u2, I v2, I w2, I u3, I v3, I w3, I sh, I ra], I n] (.bool (dB (sV (pV x0 y0 z0 x1 y1 z1 x2 y2 z2 x3 y3 z3) (pV u0 v0 w0 u1 v1 w1 u2 v2 w2 u3 v3 w3) sh ra n))) := by
  refine enterFun Try.func171 rfl Try.ntmps171 rfl (fun W0 w a hm h => ?_)
  repeat' (first | refine c_seq ?_ | refine c_region ?_ | refine c_nil ?_ | refine k_then ?_ | refine c_ret ?_ | ((refine st_op rfl rfl h ?_); clear h a; (first | (refine does_box hm rfl rfl ?_; clear hm; intro b w hm) | ((first | refine does_funM hm en85 rfl (isValidPatch_ok _ _ _ _ _ _ _ _ _ _ _ _) ?_ | refine does_funM hm en240 rfl (rateOk_ok _) ?_); clear hm; intro w hm) | refine does_move rfl ?_ | refine does_assign rfl ?_ | refine does_pickT rfl rfl ?_ | refine does_pickF rfl rfl ?_ | refine does_fieldAddrL rfl ?_ | refine zl hm rfl rfl ?_ | refine za hm rfl rfl ?_ | refine zlss rfl rfl ?_ | refine zgeq rfl rfl ?_); intro a h; (try simp only [Value.cells, splice, nz, Nat.reduceAdd, Nat.reduceMul, Int.reduceAdd, Int.reduceToNat, Int.reduceTMod] at h)) | ((refine st_skip rfl rfl h ?_); clear h a; intro a h) | (refine st_guardD rfl rfl h ?_ ?_ <;> clear h <;> intro hc h))
  all_goals (refine k_ret1 rfl h rfl ⟨?_, hm.below⟩)
  all_goals ((((clear h hm; first | exact boolT (by simp only [sV]; simp_all; omega) | exact boolT (by simp only [sV]; simp_all) | exact boolF (by simp only [sV]; simp_all; omega) | exact boolF (by simp only [sV]; simp_all) | exact boolI (by simp only [sV]; simp_all; omega) | exact boolI (by simp only [sV]; simp_all))); done))
set_option maxHeartbeats 2000000 in
theorem sIsValidSurface_ok (x0 y0 z0 x1 y1 z1 x2 y2 z2 x3 y3 z3 u0 v0 w0 u1 v1 w1 u2 v2 w2 u3 v3 w3 sh ra n : Int) : Fun Try.prog 168 [.agg #[I x0, I y0, I z0, I x1, I y1, I z1, I x2, I y2, I z2, I x3, I y3, I z3, I u0, I v0, I w0, I u1, I v1, I w1, I u2, I v2, I w2, I u3, I v3, I w3, I sh, I ra], I n] (.bool (dB (sV (pV x0 y0 z0 x1 y1 z1 x2 y2 z2 x3 y3 z3) (pV u0 v0 w0 u1 v1 w1 u2 v2 w2 u3 v3 w3) sh ra n))) := by
  refine enterFun Try.func168 rfl Try.ntmps168 rfl (fun W0 w a hm h => ?_)
  repeat' (first | refine c_seq ?_ | refine c_region ?_ | refine c_nil ?_ | refine k_then ?_ | refine c_ret ?_ | ((refine st_op rfl rfl h ?_); clear h a; (first | (refine does_box hm rfl rfl ?_; clear hm; intro b w hm) | ((first | refine does_funM hm en81 rfl (sIsValidPatch_ok _ _ _ _ _ _ _ _ _ _ _ _) ?_ | refine does_funM hm en239 rfl (sRate_ok _) ?_); clear hm; intro w hm) | refine does_move rfl ?_ | refine does_assign rfl ?_ | refine does_pickT rfl rfl ?_ | refine does_pickF rfl rfl ?_ | refine does_fieldAddrL rfl ?_ | refine zl hm rfl rfl ?_ | refine za hm rfl rfl ?_ | refine zlss rfl rfl ?_ | refine zgeq rfl rfl ?_); intro a h; (try simp only [Value.cells, splice, nz, Nat.reduceAdd, Nat.reduceMul, Int.reduceAdd, Int.reduceToNat, Int.reduceTMod] at h)) | ((refine st_skip rfl rfl h ?_); clear h a; intro a h) | (refine st_guardD rfl rfl h ?_ ?_ <;> clear h <;> intro hc h))
  all_goals (refine k_ret1 rfl h rfl ⟨?_, hm.below⟩)
  all_goals ((((clear h hm; first | exact boolT (by simp only [sV]; simp_all; omega) | exact boolT (by simp only [sV]; simp_all) | exact boolF (by simp only [sV]; simp_all; omega) | exact boolF (by simp only [sV]; simp_all) | exact boolI (by simp only [sV]; simp_all; omega) | exact boolI (by simp only [sV]; simp_all))); done))
def vS (x : TSurface) (n : Int) : Prop := sV (pV x.x0 x.y0 x.z0 x.x1 x.y1 x.z1 x.x2 x.y2 x.z2 x.x3 x.y3 x.z3) (pV x.u0 x.v0 x.w0 x.u1 x.v1 x.w1 x.u2 x.v2 x.w2 x.u3 x.v3 x.w3) x.sh x.ra n
theorem isValidSurfaceT_ok (x : TSurface) (n : Int) : Fun Try.prog 171 [.agg (eSurface x).toArray, I n] (.bool (dB (vS x n))) := isValidSurface_ok _ _ _ _ _ _ _ _ _ _ _ _ _ _ _ _ _ _ _ _ _ _ _ _ _ _ _
theorem sIsValidSurfaceT_ok (x : TSurface) (n : Int) : Fun Try.prog 168 [.agg (eSurface x).toArray, I n] (.bool (dB (vS x n))) := sIsValidSurface_ok _ _ _ _ _ _ _ _ _ _ _ _ _ _ _ _ _ _ _ _ _ _ _ _ _ _ _
def vCam (w h z n l f : Int) : Prop := (1 ≤ w ∧ w ≤ 12) ∧ (1 ≤ h ∧ h ≤ 12) ∧ (1 ≤ z ∧ z ≤ 65536) ∧ (1 ≤ n ∧ n ≤ 1000000) ∧ (0 ≤ l ∧ l ≤ 64) ∧ (0 ≤ f ∧ f ≤ 1000000)
set_option maxHeartbeats 2000000 in
theorem sIsValidCamera_ok (w h z n : Int) (d : Bool) (l f : Int) : Fun Try.prog 73 [.agg #[I w, I h, I z, I n, .bool d, I l, I f]] (.bool (dB (vCam w h z n l f))) := by
  refine enterFun Try.func73 rfl Try.ntmps73 rfl (fun W0 w a hm h => ?_)
  repeat' (first | refine c_seq ?_ | refine c_region ?_ | refine c_nil ?_ | refine k_then ?_ | refine c_ret ?_ | ((refine st_op rfl rfl h ?_); clear h a; (first | (refine does_box hm rfl rfl ?_; clear hm; intro b w hm) | ((refine does_funM hm en74 rfl (sIn_ok _ _ _) ?_); clear hm; intro w hm) | refine does_move rfl ?_ | refine does_assign rfl ?_ | refine does_pickT rfl rfl ?_ | refine does_pickF rfl rfl ?_ | refine does_fieldAddrL rfl ?_ | refine zl hm rfl rfl ?_); intro a h; (try simp only [Value.cells, splice, nz, Nat.reduceAdd, Nat.reduceMul, Int.reduceAdd, Int.reduceToNat, Int.reduceTMod] at h)) | ((refine st_skip rfl rfl h ?_); clear h a; intro a h) | (refine st_guardD rfl rfl h ?_ ?_ <;> clear h <;> intro hc h))
  all_goals (refine k_ret1 rfl h rfl ⟨?_, hm.below⟩)
  all_goals (((first | exact boolF (by unfold vCam; omega) | exact boolI (by unfold vCam; omega)); done))
set_option maxHeartbeats 2000000 in
theorem isValidCamera_ok (w h z n : Int) (d : Bool) (l f : Int) : Fun Try.prog 76 [.agg #[I w, I h, I z, I n, .bool d, I l, I f]] (.bool (dB (vCam w h z n l f))) := by
  refine enterFun Try.func76 rfl Try.ntmps76 rfl (fun W0 w a hm h => ?_)
  repeat' (first | refine c_seq ?_ | refine c_region ?_ | refine c_nil ?_ | refine k_then ?_ | refine c_ret ?_ | ((refine st_op rfl rfl h ?_); clear h a; (first | (refine does_box hm rfl rfl ?_; clear hm; intro b w hm) | ((refine does_funM hm en77 rfl (within_ok _ _ _) ?_); clear hm; intro w hm) | refine does_move rfl ?_ | refine does_assign rfl ?_ | refine does_pickT rfl rfl ?_ | refine does_pickF rfl rfl ?_ | refine does_fieldAddrL rfl ?_ | refine zl hm rfl rfl ?_); intro a h; (try simp only [Value.cells, splice, nz, Nat.reduceAdd, Nat.reduceMul, Int.reduceAdd, Int.reduceToNat, Int.reduceTMod] at h)) | ((refine st_skip rfl rfl h ?_); clear h a; intro a h) | (refine st_guardD rfl rfl h ?_ ?_ <;> clear h <;> intro hc h))
  all_goals (refine k_ret1 rfl h rfl ⟨?_, hm.below⟩)
  all_goals (((first | exact boolF (by unfold vCam; omega) | exact boolI (by unfold vCam; omega)); done))
set_option maxHeartbeats 2000000 in
theorem sideOk_ok (n : Int) : Fun Try.prog 170 [I n] (.bool (dB (n = 1 ∨ n = 2 ∨ n = 4))) := by
  refine enterFun Try.func170 rfl Try.ntmps170 rfl (fun W0 w a hm h => ?_)
  repeat' (first | refine c_seq ?_ | refine c_region ?_ | refine c_nil ?_ | refine k_then ?_ | refine c_ret ?_ | ((refine st_op rfl rfl h ?_); clear h a; (first | refine does_move rfl ?_ | refine does_assign rfl ?_ | refine does_pickT rfl rfl ?_ | refine does_pickF rfl rfl ?_ | refine zeql rfl rfl ?_); intro a h; (try simp only [Value.cells, splice, nz, Nat.reduceAdd, Nat.reduceMul, Int.reduceAdd, Int.reduceToNat, Int.reduceTMod] at h)) | ((refine st_skip rfl rfl h ?_); clear h a; intro a h) | (refine st_guardD rfl rfl h ?_ ?_ <;> clear h <;> intro hc h))
  all_goals (refine k_ret1 rfl h rfl ⟨?_, hm.below⟩)
  all_goals (first | exact boolT (by omega) | exact boolI (by omega))
end Go.Proofs.Ytgphmhjnnppbnaa.St
