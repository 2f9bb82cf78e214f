/-
  Contracts of the corners of a box.
-/
import Derived.Test.YtcbnegmmjflmcaaGreatJ2
import Derived.Test.YtcbnegmmjflmcaaGreatJ7
import Derived.Test.YtcbnegmmjflmcaaGreatLVec
import Derived.Test.YtcbnegmmjflmcaaGreatJ9
import Derived.Test.YtcbnegmmjflmcaaGreatJ5
import Derived.Test.YtcbnegmmjflmcaaGreatJ1
import Derived.Test.YtcbnegmmjflmcaaGreatJ6

section
set_option linter.unusedSimpArgs false
set_option linter.unusedVariables false
namespace Go.Proofs.YtcbnegmmjflmcaaGreat.St.G
open Go.RowKit
set_option maxHeartbeats 4000000 in
theorem corners_ok (a b c d e f : Int) : Fun Tryz.prog 23 [.agg #[I a, I b, I c, I d, I e, I f]] (.tuple #[.agg #[I a, I b, I c], .agg #[I d, I e, I f]]) := by
  refine enterFun Tryz.func23 rfl Tryz.ntmps23 rfl (fun W0 w a hm h => ?_)
  repeat' (first | refine c_seq ?_ | refine c_region ?_ | refine c_nil ?_ | refine k_then ?_ | ((refine st_op rfl rfl h ?_); clear h a; (first | (show Does _ (.box _ _) _ _ _ _; (refine does_box hm rfl rfl ?_; clear hm; intro b w hm)) | (show Does _ (.alloc _) _ _ _ _; (refine does_alloc hm ?_; clear hm; intro b w hm))); intro a h; (try simp only [Value.cells, splice, nqq, Nat.reduceAdd, Nat.reduceMul, Int.reduceAdd, Int.reduceToNat, Int.reduceTMod] at h)))
  refine aw_region mixed hm ?_; clear hm; intro w hm
  repeat' (first | ((first | refine ao_op rfl rfl rfl h ?_ | refine ao_opn rfl rfl h ?_); clear h a; (first | (show Does _ (.store _ _ _) _ _ _ _; (first | (refine does_storeO 0 hm rfl rfl rfl rfl rfl rfl rfl ?_; clear hm; intro w hm; (try simp only [Value.cells, splice, nqq, Nat.reduceAdd, Nat.reduceMul, Int.reduceAdd, Int.reduceToNat] at hm)) | (refine does_storeO 1 hm rfl rfl rfl rfl rfl rfl rfl ?_; clear hm; intro w hm; (try simp only [Value.cells, splice, nqq, Nat.reduceAdd, Nat.reduceMul, Int.reduceAdd, Int.reduceToNat] at hm)))) | (show Does _ (.fieldAddr _ _ _) _ _ _ _; (refine does_fieldAddrL rfl ?_)) | (show Does _ (.load _ _) _ _ _ _; (refine does_loadOA 2 hm rfl rfl rfl ?_)) | (show Does _ (.build _ _) _ _ _ _; refine does_build rfl rfl ?_)); intro a h; (try simp only [Value.cells, splice, nqq, Nat.reduceAdd, Nat.reduceMul, Int.reduceAdd, Int.reduceToNat, Int.reduceTMod] at h)) | refine aw0 (by decide +kernel) ?_ | refine aw1 0 (by decide +kernel) ?_ | refine aw1 1 (by decide +kernel) ?_ | refine aw1 2 (by decide +kernel) ?_ | refine aw1 3 (by decide +kernel) ?_ | refine aw1 4 (by decide +kernel) ?_ | refine aw1 5 (by decide +kernel) ?_ | refine aw1 6 (by decide +kernel) ?_ | refine aw1 7 (by decide +kernel) ?_ | refine aw2 0 3 (by decide +kernel) ?_ ?_ | refine aw2 0 4 (by decide +kernel) ?_ ?_ | refine aw2 0 5 (by decide +kernel) ?_ ?_ | refine aw2 1 3 (by decide +kernel) ?_ ?_ | refine aw2 1 4 (by decide +kernel) ?_ ?_ | refine aw2 1 5 (by decide +kernel) ?_ ?_ | refine aw2 2 3 (by decide +kernel) ?_ ?_ | refine aw2 2 4 (by decide +kernel) ?_ ?_ | refine aw2 2 5 (by decide +kernel) ?_ ?_ | refine aw2 3 6 (by decide +kernel) ?_ ?_ | refine aw2 4 6 (by decide +kernel) ?_ ?_ | refine aw2 5 6 (by decide +kernel) ?_ ?_)
  all_goals (refine k_then ?_; refine c_ret ?_; exact k_ret (vs := [_, _]) rfl h ⟨rv_cellA (i := 1) hm rfl rfl rfl, rv_cellA (i := 0) hm rfl rfl rfl, trivial⟩ ⟨rfl, hm.below⟩)
set_option maxHeartbeats 2000000 in
theorem atMost_ok (a b c d e f : Int) : Fun Tryz.prog 24 [.agg #[I a, I b, I c], .agg #[I d, I e, I f]] (.bool (dB (a ≤ d ∧ b ≤ e ∧ c ≤ f))) := by
  refine enterFun Tryz.func24 rfl Tryz.ntmps24 rfl (fun W0 w a hm h => ?_)
  repeat' (first | refine c_seq ?_ | refine c_region ?_ | refine c_nil ?_ | refine k_then ?_ | refine c_ret ?_ | ((refine st_op rfl rfl h ?_); clear h a; (first | (show Does _ (.box _ _) _ _ _ _; (refine does_box hm rfl rfl ?_; clear hm; intro b w hm)) | (show Does _ (.move _) _ _ _ _; refine does_move rfl ?_) | (show Does _ (.assign _) _ _ _ _; refine does_assign rfl ?_) | (show Does _ (.pick _ _ _) _ _ _ _; (first | refine does_pickT rfl rfl ?_ | refine does_pickF rfl rfl ?_)) | (show Does _ (.fieldAddr _ _ _) _ _ _ _; (refine does_fieldAddrL rfl ?_)) | (show Does _ (.load _ _) _ _ _ _; (first | refine does_loadO 0 hm rfl rfl rfl ?_ | refine does_loadO 1 hm rfl rfl rfl ?_)) | (show Does _ (.binOp _ _ _ _ _) _ _ _ _; (refine does_leq rfl rfl ?_))); intro a h; (try simp only [Value.cells, splice, nqq, Nat.reduceAdd, Nat.reduceMul, Int.reduceAdd, Int.reduceToNat, Int.reduceTMod] at h)) | ((refine st_skip rfl rfl h ?_); clear h a; intro a h) | (refine st_guardD rfl rfl h ?_ ?_ <;> clear h <;> intro hc h))
  all_goals (refine k_ret1 rfl h rfl ⟨?_, hm.below⟩)
  all_goals (((first | exact boolF (by omega) | exact boolI (by omega)); done))
end Go.Proofs.YtcbnegmmjflmcaaGreat.St.G
end

section
/-
  Contracts of the functions on triangles.
-/
set_option linter.unusedSimpArgs false
set_option linter.unusedVariables false
namespace Go.Proofs.YtcbnegmmjflmcaaGreat.St.G
open Go.RowKit
end Go.Proofs.YtcbnegmmjflmcaaGreat.St.G
end

section
/-
  Contracts of the functions on patches, surfaces and their boxes.
-/
set_option linter.unusedSimpArgs false
set_option linter.unusedVariables false
namespace Go.Proofs.YtcbnegmmjflmcaaGreat.St.G
open Go.RowKit
abbrev P4 (x0 y0 z0 x1 y1 z1 x2 y2 z2 x3 y3 z3 : Int) : List TVec := [(x0, y0, z0), (x1, y1, z1), (x2, y2, z2), (x3, y3, z3)]
set_option maxHeartbeats 2000000 in
theorem patchBounds_ok (x0 y0 z0 x1 y1 z1 x2 y2 z2 x3 y3 z3 : Int) : Fun Tryz.prog 20 [.agg #[I x0, I y0, I z0, I x1, I y1, I z1, I x2, I y2, I z2, I x3, I y3, I z3]] (.agg (bCells (boundsOf (P4 x0 y0 z0 x1 y1 z1 x2 y2 z2 x3 y3 z3))).toArray) := by
  refine enterFun Tryz.func20 rfl Tryz.ntmps20 rfl (fun W0 w a hm h => ?_)
  repeat' (first | refine c_seq ?_ | refine c_region ?_ | refine c_nil ?_ | refine k_then ?_ | refine c_ret ?_ | ((first | refine st_op rfl rfl h ?_ | refine st_opn rfl h ?_); clear h a; (first | (show Does _ (.call _) _ _ _ _; ((refine does_funP hm en39 rfl (boundPoints_ok _ (x0, y0, z0) [(x1, y1, z1), (x2, y2, z2), (x3, y3, z3)] _ (by simp) (by simp)) (blk_sl 1 hm rfl rfl (fun _ => rfl)) ?_; clear hm; intro w hm))) | (show Does _ (.box _ _) _ _ _ _; (refine does_box hm rfl rfl ?_; clear hm; intro b w hm)) | (show Does _ (.alloc _) _ _ _ _; (refine does_alloc hm ?_; clear hm; intro b w hm)) | (show Does _ (.store _ _ _) _ _ _ _; (first | (refine does_storeO 0 hm rfl rfl rfl rfl rfl rfl rfl ?_; clear hm; intro w hm; (try simp only [Value.cells, splice, nqq, Nat.reduceAdd, Nat.reduceMul, Int.reduceAdd, Int.reduceToNat] at hm)) | (refine does_storeO 1 hm rfl rfl rfl rfl rfl rfl rfl ?_; clear hm; intro w hm; (try simp only [Value.cells, splice, nqq, Nat.reduceAdd, Nat.reduceMul, Int.reduceAdd, Int.reduceToNat] at hm)))) | (show Does _ (.move _) _ _ _ _; refine does_move rfl ?_) | (show Does _ (.assign _) _ _ _ _; refine does_assign rfl ?_) | (show Does _ (.fieldAddr _ _ _) _ _ _ _; (refine does_fieldAddrL rfl ?_)) | (show Does _ (.load _ _) _ _ _ _; (refine does_loadOA 0 hm rfl rfl rfl ?_)) | (show Does _ (.slice _ _ _ _ _) _ _ _ _; (refine does_sliceA rfl ?_)) | (show Does _ (.extract _ _) _ _ _ _; refine does_extract rfl rfl ?_)); intro a h; (try simp only [Value.cells, splice, nqq, Nat.reduceAdd, Nat.reduceMul, Int.reduceAdd, Int.reduceToNat, Int.reduceTMod] at h)))
  all_goals (refine k_ret (vs := [_]) rfl h ⟨rv_cellA (i := 1) hm rfl rfl rfl, trivial⟩ ⟨?_, hm.below⟩)
  all_goals (rfl)
end Go.Proofs.YtcbnegmmjflmcaaGreat.St.G
end

section
/-
  Fields of values that are structs.
-/
set_option linter.unusedSimpArgs false
set_option linter.unusedVariables false
namespace Go.Proofs.YtcbnegmmjflmcaaGreat.St
open Go.RowKit
def fldTB (P : Program) (t : TypeId) (k ft off : Nat) : Bool :=
  match P.underlying t with
  | some (.struct fs) => match fs[k]? with
    | some f => f.type == ft && f.offset == off
    | none => false
  | _ => false
class FldT (P : Program) (t : TypeId) (k : Nat) (ft off : outParam Nat) : Prop where
  out : fldTB P t k ft off = true
section
variable {P : Program} {E : Env} {w : World} {Φ : Value → World → Prop} {ty t : TypeId} {x : Operand}
end
end Go.Proofs.YtcbnegmmjflmcaaGreat.St
end

section
/-
  Contracts of the functions on surfaces.
-/
set_option linter.unusedSimpArgs false
set_option linter.unusedVariables false
namespace Go.Proofs.YtcbnegmmjflmcaaGreat.St.G
open Go.RowKit
abbrev uniB (a b : TVec × TVec) : TVec × TVec := (minV a.1 b.1, maxV a.2 b.2)
set_option maxHeartbeats 2000000 in
theorem unionBox_ok (a b : TVec × TVec) : Fun Tryz.prog 19 [.agg (bCells a).toArray, .agg (bCells b).toArray] (.agg (bCells (uniB a b)).toArray) := by
  refine enterFun Tryz.func19 rfl Tryz.ntmps19 rfl (fun W0 w a hm h => ?_)
  repeat' (first | refine c_seq ?_ | refine c_region ?_ | refine c_nil ?_ | refine k_then ?_ | refine c_ret ?_ | ((first | refine st_op rfl rfl h ?_ | refine st_opn rfl h ?_); clear h a; (first | (show Does _ (.box _ _) _ _ _ _; (refine does_box hm rfl rfl ?_; clear hm; intro b w hm)) | (show Does _ (.alloc _) _ _ _ _; (refine does_alloc hm ?_; clear hm; intro b w hm)) | (show Does _ (.store _ _ _) _ _ _ _; ((refine does_storeO 0 hm rfl rfl rfl rfl rfl rfl rfl ?_; clear hm; intro w hm; (try simp only [Value.cells, splice, nqq, Nat.reduceAdd, Nat.reduceMul, Int.reduceAdd, Int.reduceToNat] at hm))))); intro a h; (try simp only [Value.cells, splice, nqq, Nat.reduceAdd, Nat.reduceMul, Int.reduceAdd, Int.reduceToNat, Int.reduceTMod] at h)) | (apply c_drawM (id := 1) 11 [.val _, .val _, .val _, .val _, .val _, .val _, .val _, .val _, .val _, .val _, .val _] mixed (by kernel_rfl) (h := h) (hm := hm); (case vcs => (repeat' (first | exact vcs_nil | refine vcs_cons ?_ ?_ | (intro w hm; (repeat (first | refine dep_val ?_ | refine dep_nil ?_)); first | exact vc_skip rfl | exact vc_alloc rfl | exact vc_box rfl rfl rfl | exact vc_buildSlice rfl rfl rfl rfl | exact vc_makeSlice (by omega) (by omega) rfl rfl rfl | exact vc_store rfl rfl rfl rfl rfl rfl rfl rfl rfl rfl | (apply vc_run rfl; (first | (show Does _ (.call _) _ _ _ _; (first | (refine does_funX en37 rfl (minVec_ok _ _ _ _ _ _) ?_) | (refine does_funX en38 rfl (maxVec_ok _ _ _ _ _ _) ?_))) | (show Does _ (.fieldAddr _ _ _) _ _ _ _; (refine does_fieldAddrL rfl ?_)) | (show Does _ (.load _ _) _ _ _ _; (first | refine does_loadOA 1 hm rfl rfl rfl ?_ | refine does_loadOA 2 hm rfl rfl rfl ?_)) | (show Does _ (.build _ _) _ _ _ _; refine does_build rfl rfl ?_)); (first | exact ⟨ext_refl _, rfl⟩ | exact fun _ hx => ⟨hx, rfl⟩)))))); (case hup => kernel_rfl); (case hown => kernel_rfl); (case hnp => kernel_rfl); clear h hm a; intro  w hm; (try simp only [List.map_nil, List.nil_append] at hm); (repeat (first | refine dep_val ?_ | refine dep_nil ?_)); intro a h; (try simp only [Value.cells, splice, nqq, Nat.reduceAdd, Nat.reduceMul, Int.reduceAdd, Int.reduceToNat, Int.reduceTMod] at h)))
  all_goals (refine k_ret (vs := [_]) rfl h ⟨rv_cellA (i := 0) hm rfl rfl rfl, trivial⟩ ⟨?_, hm.below⟩)
  all_goals (rfl)
abbrev SC (x0 y0 z0 x1 y1 z1 x2 y2 z2 x3 y3 z3 u0 v0 w0 u1 v1 w1 u2 v2 w2 u3 v3 w3 : Int) : TVec × TVec := uniB (boundsOf (P4 x0 y0 z0 x1 y1 z1 x2 y2 z2 x3 y3 z3)) (boundsOf (P4 u0 v0 w0 u1 v1 w1 u2 v2 w2 u3 v3 w3))
set_option maxHeartbeats 2000000 in
theorem surfaceBox_ok (x0 y0 z0 x1 y1 z1 x2 y2 z2 x3 y3 z3 u0 v0 w0 u1 v1 w1 u2 v2 w2 u3 v3 w3 sh ra : Int) : Fun Tryz.prog 7 [.agg #[I x0, I y0, I z0, I x1, I y1, I z1, I x2, I y2, I z2, I x3, I y3, I z3, I u0, I v0, I w0, I u1, I v1, I w1, I u2, I v2, I w2, I u3, I v3, I w3, I sh, I ra]] (.agg (bCells (SC x0 y0 z0 x1 y1 z1 x2 y2 z2 x3 y3 z3 u0 v0 w0 u1 v1 w1 u2 v2 w2 u3 v3 w3)).toArray) := by
  refine enterFun Tryz.func7 rfl Tryz.ntmps7 rfl (fun W0 w a hm h => ?_)
  repeat' (first | refine c_seq ?_ | refine c_region ?_ | refine c_nil ?_ | refine k_then ?_ | refine c_ret ?_ | ((first | refine st_op rfl rfl h ?_ | refine st_opn rfl h ?_); clear h a; (first | (show Does _ (.box _ _) _ _ _ _; (refine does_box hm rfl rfl ?_; clear hm; intro b w hm)) | (show Does _ (.alloc _) _ _ _ _; (refine does_alloc hm ?_; clear hm; intro b w hm)) | (show Does _ (.store _ _ _) _ _ _ _; ((refine does_storeO 0 hm rfl rfl rfl rfl rfl rfl rfl ?_; clear hm; intro w hm; (try simp only [Value.cells, splice, nqq, Nat.reduceAdd, Nat.reduceMul, Int.reduceAdd, Int.reduceToNat] at hm))))); intro a h; (try simp only [Value.cells, splice, nqq, Nat.reduceAdd, Nat.reduceMul, Int.reduceAdd, Int.reduceToNat, Int.reduceTMod] at h)) | (apply c_drawM (id := 1) 7 [.val _, .val _, .val _, .val _, .val _, .val _, .val _] mixed (by kernel_rfl) (h := h) (hm := hm); (case vcs => (repeat' (first | exact vcs_nil | refine vcs_cons ?_ ?_ | (intro w hm; (repeat (first | refine dep_val ?_ | refine dep_nil ?_)); first | exact vc_skip rfl | exact vc_alloc rfl | exact vc_box rfl rfl rfl | exact vc_buildSlice rfl rfl rfl rfl | exact vc_makeSlice (by omega) (by omega) rfl rfl rfl | exact vc_store rfl rfl rfl rfl rfl rfl rfl rfl rfl rfl | (apply vc_run rfl; (first | (show Does _ (.call _) _ _ _ _; (first | (refine does_funX en19 rfl (unionBox_ok _ _) ?_) | (refine does_funX en20 rfl (patchBounds_ok _ _ _ _ _ _ _ _ _ _ _ _) ?_))) | (show Does _ (.fieldAddr _ _ _) _ _ _ _; (refine does_fieldAddrL rfl ?_)) | (show Does _ (.load _ _) _ _ _ _; (refine does_loadOA 1 hm rfl rfl rfl ?_))); (first | exact ⟨ext_refl _, rfl⟩ | exact fun _ hx => ⟨hx, rfl⟩)))))); (case hup => kernel_rfl); (case hown => kernel_rfl); (case hnp => kernel_rfl); clear h hm a; intro  w hm; (try simp only [List.map_nil, List.nil_append] at hm); (repeat (first | refine dep_val ?_ | refine dep_nil ?_)); intro a h; (try simp only [Value.cells, splice, nqq, Nat.reduceAdd, Nat.reduceMul, Int.reduceAdd, Int.reduceToNat, Int.reduceTMod] at h)))
  all_goals (refine k_ret (vs := [_]) rfl h ⟨rv_cellA (i := 0) hm rfl rfl rfl, trivial⟩ ⟨?_, hm.below⟩)
  all_goals (rfl)
end Go.Proofs.YtcbnegmmjflmcaaGreat.St.G
end

section
/-
  Contracts of the functions that ask whether patches and surfaces are valid.
-/
set_option linter.unusedSimpArgs false
set_option linter.unusedVariables false
namespace Go.Proofs.YtcbnegmmjflmcaaGreat.St.G
open Go.RowKit
def vV (x y z : Int) : Prop := (-1000000 ≤ x ∧ x ≤ 1000000) ∧ (-1000000 ≤ y ∧ y ≤ 1000000) ∧ (-1000000 ≤ z ∧ z ≤ 1000000)
end Go.Proofs.YtcbnegmmjflmcaaGreat.St.G
end

section
/-
  Plain laws of bounds on the screen: what is projected of a point between the corners lies within the range of its axis.
-/
set_option linter.unusedSimpArgs false
set_option linter.unusedVariables false
namespace Go.Proofs.YtcbnegmmjflmcaaGreat.St
open Go.RowKit
theorem fDiv_eq {s n : Int} (hn : 1 ≤ n) : fDiv s n = s / n := by
  have h0 : 0 < n := by omega
  have h1 : s / n * n ≤ s := Int.ediv_mul_le s (by omega)
  have h2 : s < (s / n + 1) * n := Int.lt_ediv_add_one_mul_self s h0
  have h3 : s / n * n ≤ s ∧ s ≤ (s / n + 1) * n := ⟨h1, by omega⟩
  have ha := (fDiv_in (s := s) (lo := s / n) (hi := s / n + 1) hn h1 (by omega)).1
  have hd := Int.mul_tdiv_add_tmod s n
  have hb2 : s.tmod n < n := Int.tmod_lt_of_pos s h0
  have key : n * fDiv s n ≤ s := by
    have hb1 : -n < s.tmod n := by
      have := Int.lt_tmod_of_pos s h0
      omega
    unfold fDiv
    rw [if_neg (by omega)]
    split
    · rw [Int.mul_sub]; omega
    · rw [Int.sub_zero]; omega
  have hle : fDiv s n ≤ s / n := by
    rw [Int.le_ediv_iff_mul_le h0, Int.mul_comm]
    exact key
  omega
theorem dv_mono {a b q : Int} (hq : 1 ≤ q) (h : a ≤ b) : a / q ≤ b / q := Int.ediv_le_ediv (by omega) h
theorem dv_pos {a q r : Int} (ha : 0 ≤ a) (hq : 1 ≤ q) (h : q ≤ r) : a / r ≤ a / q := by
  rw [Int.le_ediv_iff_mul_le (by omega)]
  have h0 : 0 ≤ a / r := Int.ediv_nonneg ha (by omega)
  have h1 : a / r * q ≤ a / r * r := Int.mul_le_mul_of_nonneg_left h h0
  have h2 : a / r * r ≤ a := Int.ediv_mul_le a (by omega)
  omega
theorem dv_neg {a q r : Int} (ha : a ≤ 0) (hq : 1 ≤ q) (h : q ≤ r) : a / q ≤ a / r := by
  rw [Int.le_ediv_iff_mul_le (by omega)]
  have h0 : a / q ≤ 0 := by
    have := dv_mono (a := a) (b := 0) hq ha
    simpa using this
  have h1 : a / q * r ≤ a / q * q := Int.mul_le_mul_of_nonpos_left h0 h
  have h2 : a / q * q ≤ a := Int.ediv_mul_le a (by omega)
  omega
/-- the spread of the lens between two depths -/
def sprd (l f zlo zhi : Int) : Int := (16 * l * max (max (zlo - f) (-(zlo - f))) (max (zhi - f) (-(zhi - f)))).tdiv 4096 + 1
theorem spread {l f zlo zhi z s : Int} (hl : 0 ≤ l) (hz : zlo ≤ z ∧ z ≤ zhi) (hs : -16 ≤ s ∧ s ≤ 16) : -(sprd l f zlo zhi) ≤ fDiv (s * l * (z - f)) 4096 ∧ fDiv (s * l * (z - f)) 4096 ≤ sprd l f zlo zhi := by
  obtain ⟨M, hM⟩ : ∃ M, M = max (max (zlo - f) (-(zlo - f))) (max (zhi - f) (-(zhi - f))) := ⟨_, rfl⟩
  have hM1 : -M ≤ z - f ∧ z - f ≤ M := by omega
  have hM0 : 0 ≤ M := by omega
  have hsl : -(16 * l) ≤ s * l ∧ s * l ≤ 16 * l := by
    have h1 := Int.mul_le_mul_of_nonneg_right hs.2 hl
    have h2 := Int.mul_le_mul_of_nonneg_right hs.1 hl
    rw [Int.neg_mul] at h2
    exact ⟨h2, h1⟩
  have hT : -(16 * l * M) ≤ s * l * (z - f) ∧ s * l * (z - f) ≤ 16 * l * M := by
    have h16 : 0 ≤ 16 * l := by omega
    have key : ∀ {u v a b : Int}, 0 ≤ a → 0 ≤ b → -a ≤ u → u ≤ a → -b ≤ v → v ≤ b → -(a * b) ≤ u * v ∧ u * v ≤ a * b := by
      intro u v a b ha hb h1 h2 h3 h4
      have e1 : 0 ≤ (a - u) * (b + v) := Int.mul_nonneg (by omega) (by omega)
      have e2 : 0 ≤ (a + u) * (b - v) := Int.mul_nonneg (by omega) (by omega)
      have e3 : 0 ≤ (a - u) * (b - v) := Int.mul_nonneg (by omega) (by omega)
      have e4 : 0 ≤ (a + u) * (b + v) := Int.mul_nonneg (by omega) (by omega)
      have f1 : (a - u) * (b + v) + (a + u) * (b - v) = 2 * (a * b) - 2 * (u * v) := by grind
      have f2 : (a - u) * (b - v) + (a + u) * (b + v) = 2 * (a * b) + 2 * (u * v) := by grind
      omega
    exact key h16 hM0 hsl.1 hsl.2 hM1.1 hM1.2
  have hT0 : 0 ≤ 16 * l * M := Int.mul_nonneg (by omega) hM0
  have hq : sprd l f zlo zhi = 16 * l * M / 4096 + 1 := by
    unfold sprd
    rw [← hM, Int.tdiv_eq_ediv_of_nonneg hT0]
  rw [hq, fDiv_eq (by omega)]
  omega
abbrev clS (n : Int) : Int := (max (-100000) (min n 100000))
/-- the range of one axis -/
def axLo (d : Bool) (z l f lo zlo zhi half : Int) : Int := if d = true then clS (min (fDiv ((lo - sprd l f zlo zhi) * z) zlo) (fDiv ((lo - sprd l f zlo zhi) * z) zhi) + half) else clS (fDiv ((lo - sprd l f zlo zhi) * z) 256 + half)
def axHi (d : Bool) (z l f hi zlo zhi half : Int) : Int := if d = true then clS (max (fDiv ((hi + sprd l f zlo zhi) * z) zlo) (fDiv ((hi + sprd l f zlo zhi) * z) zhi) + half) else clS (fDiv ((hi + sprd l f zlo zhi) * z) 256 + half)
/-- one coordinate on the screen -/
def prj (d : Bool) (z l f half x zc s : Int) : Int := clS (fDiv ((x + fDiv (s * l * (zc - f)) 4096) * z) (if d = true then zc else 256) + half)
theorem prj_in {d : Bool} {z l f half lo hi zlo zhi x zc s : Int} (hz : 1 ≤ z) (hl : 0 ≤ l) (h1 : 1 ≤ zlo) (hx : lo ≤ x ∧ x ≤ hi) (hc : zlo ≤ zc ∧ zc ≤ zhi) (hs : -16 ≤ s ∧ s ≤ 16) :
    axLo d z l f lo zlo zhi half ≤ prj d z l f half x zc s ∧ prj d z l f half x zc s ≤ axHi d z l f hi zlo zhi half := by
  have hsp := spread (f := f) hl hc hs
  have ha : (lo - sprd l f zlo zhi) * z ≤ (x + fDiv (s * l * (zc - f)) 4096) * z := Int.mul_le_mul_of_nonneg_right (by omega) (by omega)
  have hb : (x + fDiv (s * l * (zc - f)) 4096) * z ≤ (hi + sprd l f zlo zhi) * z := Int.mul_le_mul_of_nonneg_right (by omega) (by omega)
  obtain ⟨A, hA⟩ : ∃ A, A = (lo - sprd l f zlo zhi) * z := ⟨_, rfl⟩
  obtain ⟨Y, hY⟩ : ∃ Y, Y = (x + fDiv (s * l * (zc - f)) 4096) * z := ⟨_, rfl⟩
  obtain ⟨Z, hZ⟩ : ∃ Z, Z = (hi + sprd l f zlo zhi) * z := ⟨_, rfl⟩
  unfold axLo axHi prj
  rw [← hA, ← hY, ← hZ]
  rw [← hA, ← hY] at ha
  rw [← hY, ← hZ] at hb
  cases d with
  | false =>
    simp only [Bool.false_eq_true, if_false]
    rw [fDiv_eq (by omega), fDiv_eq (by omega), fDiv_eq (by omega)]
    have := dv_mono (q := 256) (by omega) ha
    have := dv_mono (q := 256) (by omega) hb
    unfold clS
    omega
  | true =>
    simp only [if_true]
    rw [fDiv_eq (by omega), fDiv_eq (by omega), fDiv_eq (by omega), fDiv_eq (by omega), fDiv_eq (by omega)]
    have m1 := dv_mono (q := zc) (by omega) ha
    have m2 := dv_mono (q := zc) (by omega) hb
    have n1 : A / zlo ≤ A / zc ∨ A / zhi ≤ A / zc := by
      by_cases h : 0 ≤ A
      · exact .inr (dv_pos h (by omega) hc.2)
      · exact .inl (dv_neg (by omega) h1 hc.1)
    have n2 : Z / zc ≤ Z / zlo ∨ Z / zc ≤ Z / zhi := by
      by_cases h : 0 ≤ Z
      · exact .inl (dv_pos h h1 hc.1)
      · exact .inr (dv_neg (by omega) (by omega) hc.2)
    unfold clS
    omega
end Go.Proofs.YtcbnegmmjflmcaaGreat.St
end
