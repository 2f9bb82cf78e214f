/-
  The program's SurfaceNear returns what the reference's returns, for all arguments. No condition.
-/
import Derived.Test.YteaaidfjbhcofaaLwSrf
namespace Go.Proofs.Yteaaidfjbhcofaa.fnExactSurfaceNear
open Go.ChangeShapes Go.WideShapes Go.ChangeAt Go.RowKit Go.Proofs.Yteaaidfjbhcofaa.St
set_option linter.unusedVariables false
theorem own : ownKnob Try.prog.godebug = none := by kernel_rfl
theorem laid : laidOutB Try.prog = true := by kernel_rfl
set_option maxRecDepth 100000 in
theorem lifted (os : Os) (started : os.Started) (H : Type) (enc : TypeId × Value → H) :
    ReturnsInHanded {} Try.checked os 15 .any (Rows.fnExactSurfaceNearSpec.pre6 enc Try.prog Try.f15 Rows.fnExactSurfaceNearRow.domain false) (Rows.fnExactSurfaceNearSpec.post enc Try.prog Try.f15 false true false false) := by
  refine returnsInHanded_of_change (C := Try.checked) own started (by kernel_rfl) Try.func15
    (ChangeSpec.witness6 (enc := enc) (C := Try.checked) false ⟨#[], #[.agg #[.int .i64 0, .int .i64 0, .int .i64 0, .int .i64 0, .int .i64 0, .int .i64 0, .int .i64 0, .int .i64 0, .int .i64 0, .int .i64 0, .int .i64 0, .int .i64 0, .int .i64 0, .int .i64 0, .int .i64 0, .int .i64 0, .int .i64 0, .int .i64 0, .int .i64 0, .int .i64 0, .int .i64 0, .int .i64 0, .int .i64 0, .int .i64 0, .int .i64 0, .int .i64 0]], []⟩ 8 (by kernel_rfl) (by kernel_rfl) (by kernel_rfl) (by kernel_rfl)) ?_
  intro W base args ds gs before hval0 hW hcnd _
  have hval : ∀ (j : Nat) t v, Try.f15.params[j]? = some t → args[j]? = some v → Value.okWide Try.prog W .any base t v := hval0
  have hW1 := hW
  obtain ⟨p, q, hA0, hV, hbe, hfz, hnd⟩ := hW1
  have hA : DataW.TrodAll enc Try.prog W 0 (fun _ => true) true Try.f15.params.toList args.toList ds p := hA0
  rw [Try.params15] at hA hval
  obtain ⟨v0, vs0, d0, ds0, p0, q0, hg0, hd0, hp0, h0, r0⟩ := trodAll_cons hA
  obtain ⟨hgz, hdz, hpz⟩ := trodAll_nil r0
  rw [hgz] at hg0
  rw [hdz] at hd0
  obtain rfl : args = #[v0] := by cases args; simp_all
  subst hd0
  obtain ⟨cs0, rfl, f0⟩ := openAgg (n := 9) (ks := [.int .i64, .int .i64, .int .i64, .int .i64, .int .i64, .int .i64, .int .i64, .int .i64, .int .i64, .int .i64, .int .i64, .int .i64, .int .i64, .int .i64, .int .i64, .int .i64, .int .i64, .int .i64, .int .i64, .int .i64, .int .i64, .int .i64, .int .i64, .int .i64, .int .i64, .int .i64]) (by kernel_rfl) (by kernel_rfl) (hval 0 47 v0 rfl rfl) h0
  obtain ⟨a0_0, c0_0, rfl, b0_0, f0_1⟩ := fits_i64 f0
  obtain ⟨a0_1, c0_1, rfl, b0_1, f0_2⟩ := fits_i64 f0_1
  obtain ⟨a0_2, c0_2, rfl, b0_2, f0_3⟩ := fits_i64 f0_2
  obtain ⟨a0_3, c0_3, rfl, b0_3, f0_4⟩ := fits_i64 f0_3
  obtain ⟨a0_4, c0_4, rfl, b0_4, f0_5⟩ := fits_i64 f0_4
  obtain ⟨a0_5, c0_5, rfl, b0_5, f0_6⟩ := fits_i64 f0_5
  obtain ⟨a0_6, c0_6, rfl, b0_6, f0_7⟩ := fits_i64 f0_6
  obtain ⟨a0_7, c0_7, rfl, b0_7, f0_8⟩ := fits_i64 f0_7
  obtain ⟨a0_8, c0_8, rfl, b0_8, f0_9⟩ := fits_i64 f0_8
  obtain ⟨a0_9, c0_9, rfl, b0_9, f0_10⟩ := fits_i64 f0_9
  obtain ⟨a0_10, c0_10, rfl, b0_10, f0_11⟩ := fits_i64 f0_10
  obtain ⟨a0_11, c0_11, rfl, b0_11, f0_12⟩ := fits_i64 f0_11
  obtain ⟨a0_12, c0_12, rfl, b0_12, f0_13⟩ := fits_i64 f0_12
  obtain ⟨a0_13, c0_13, rfl, b0_13, f0_14⟩ := fits_i64 f0_13
  obtain ⟨a0_14, c0_14, rfl, b0_14, f0_15⟩ := fits_i64 f0_14
  obtain ⟨a0_15, c0_15, rfl, b0_15, f0_16⟩ := fits_i64 f0_15
  obtain ⟨a0_16, c0_16, rfl, b0_16, f0_17⟩ := fits_i64 f0_16
  obtain ⟨a0_17, c0_17, rfl, b0_17, f0_18⟩ := fits_i64 f0_17
  obtain ⟨a0_18, c0_18, rfl, b0_18, f0_19⟩ := fits_i64 f0_18
  obtain ⟨a0_19, c0_19, rfl, b0_19, f0_20⟩ := fits_i64 f0_19
  obtain ⟨a0_20, c0_20, rfl, b0_20, f0_21⟩ := fits_i64 f0_20
  obtain ⟨a0_21, c0_21, rfl, b0_21, f0_22⟩ := fits_i64 f0_21
  obtain ⟨a0_22, c0_22, rfl, b0_22, f0_23⟩ := fits_i64 f0_22
  obtain ⟨a0_23, c0_23, rfl, b0_23, f0_24⟩ := fits_i64 f0_23
  obtain ⟨a0_24, c0_24, rfl, b0_24, f0_25⟩ := fits_i64 f0_24
  obtain ⟨a0_25, c0_25, rfl, b0_25, f0_26⟩ := fits_i64 f0_25
  obtain rfl := fits_nil f0_26
  refine ((lwSurfaceNear _ _ _ _ _ _ _ _ _ _ _ _ _ _ _ _ _ _ _ _ _ _ _ _ _ _).out W).mono fun e W2 ⟨he, hx⟩ => ?_
  subst he
  exact ⟨_, rfl, law_post (t := 4) laid (by kernel_rfl) (by kernel_rfl) Try.underlying4 rfl hW rfl hx⟩
theorem closed : joinedFacts Try.prog 15 Try.f15 Rows.fnExactSurfaceNearSpec Rows.fnExactSurfaceNearRow = true := by
  rw [joinedFacts, Facts.mayEnter_t, Facts.lifts_t, Facts.make_t]
  kernel_rfl
theorem over : Rows.fnExactSurfaceNearRow.holds Try.pinned (OpenSpec.ofChange Rows.fnExactSurfaceNearSpec) :=
  OpenClaim.holds_of_wide_leaving 15 Try.f15 rfl rfl rfl rfl rfl rfl rfl ⟨rfl, rfl, rfl, rfl, rfl⟩ rfl rfl rfl rfl rfl (by kernel_rfl) Try.func15 closed
    (of_decide_eq_true (by kernel_rfl)) (by unfold Func.isWrapper; first | (rw [if_pos (by decide +kernel)]; kernel_rfl) | (rw [if_neg (by decide +kernel)]; exact ⟨rfl, rfl⟩))
    (fun os started H enc _ => leaving_of_handed (lifted os started H enc))
theorem proved : Rows.FnExactSurfaceNearSaid := over
#print axioms proved
end Go.Proofs.Yteaaidfjbhcofaa.fnExactSurfaceNear
