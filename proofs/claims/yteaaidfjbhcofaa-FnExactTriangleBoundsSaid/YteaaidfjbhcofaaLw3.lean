/-
  The program's TriangleBounds returns what the reference's returns, for all arguments. No condition.
-/
import Derived.Test.YteaaidfjbhcofaaLSrf
import Derived.Test.YteaaidfjbhcofaaFacts
namespace Go.Proofs.Yteaaidfjbhcofaa.fnExactTriangleBounds
open Go.ChangeShapes Go.WideShapes Go.ChangeAt Go.RowKit Go.Proofs.Yteaaidfjbhcofaa.St
set_option linter.unusedVariables false
theorem own : ownKnob Try.prog.godebug = none := by kernel_rfl
theorem laid : laidOutB Try.prog = true := by kernel_rfl
set_option maxRecDepth 100000 in
theorem lifted (os : Os) (started : os.Started) (H : Type) (enc : TypeId × Value → H) :
    ReturnsInHanded {} Try.checked os 21 .any (Rows.fnExactTriangleBoundsSpec.pre6 enc Try.prog Try.f21 Rows.fnExactTriangleBoundsRow.domain false) (Rows.fnExactTriangleBoundsSpec.post enc Try.prog Try.f21 false true false false) := by
  refine returnsInHanded_of_change (C := Try.checked) own started (by kernel_rfl) Try.func21
    (ChangeSpec.witness6 (enc := enc) (C := Try.checked) false ⟨#[], #[.agg #[.int .i64 0, .int .i64 0, .int .i64 0, .int .i64 0, .int .i64 0, .int .i64 0, .int .i64 0, .int .i64 0, .int .i64 0]], []⟩ 8 (by kernel_rfl) (by kernel_rfl) (by kernel_rfl) (by kernel_rfl)) ?_
  intro W base args ds gs before hval0 hW hcnd _
  have hval : ∀ (j : Nat) t v, Try.f21.params[j]? = some t → args[j]? = some v → Value.okWide Try.prog W .any base t v := hval0
  have hW1 := hW
  obtain ⟨p, q, hA0, hV, hbe, hfz, hnd⟩ := hW1
  have hA : DataW.TrodAll enc Try.prog W 0 (fun _ => true) true Try.f21.params.toList args.toList ds p := hA0
  rw [Try.params21] at hA hval
  obtain ⟨v0, vs0, d0, ds0, p0, q0, hg0, hd0, hp0, h0, r0⟩ := trodAll_cons hA
  obtain ⟨hgz, hdz, hpz⟩ := trodAll_nil r0
  rw [hgz] at hg0
  rw [hdz] at hd0
  obtain rfl : args = #[v0] := by cases args; simp_all
  subst hd0
  obtain ⟨cs0, rfl, f0⟩ := openAgg (n := 9) (ks := [.int .i64, .int .i64, .int .i64, .int .i64, .int .i64, .int .i64, .int .i64, .int .i64, .int .i64]) (by kernel_rfl) (by kernel_rfl) (hval 0 31 v0 rfl rfl) h0
  obtain ⟨a0_0, c0_0, rfl, b0_0, f0_1⟩ := fits_i64 f0
  obtain ⟨a0_1, c0_1, rfl, b0_1, f0_2⟩ := fits_i64 f0_1
  obtain ⟨a0_2, c0_2, rfl, b0_2, f0_3⟩ := fits_i64 f0_2
  obtain ⟨a0_3, c0_3, rfl, b0_3, f0_4⟩ := fits_i64 f0_3
  obtain ⟨a0_4, c0_4, rfl, b0_4, f0_5⟩ := fits_i64 f0_4
  obtain ⟨a0_5, c0_5, rfl, b0_5, f0_6⟩ := fits_i64 f0_5
  obtain ⟨a0_6, c0_6, rfl, b0_6, f0_7⟩ := fits_i64 f0_6
  obtain ⟨a0_7, c0_7, rfl, b0_7, f0_8⟩ := fits_i64 f0_7
  obtain ⟨a0_8, c0_8, rfl, b0_8, f0_9⟩ := fits_i64 f0_8
  obtain rfl := fits_nil f0_9
  refine ((lwTriangleBounds _ _ _ _ _ _ _ _ _).out W).mono fun e W2 ⟨he, hx⟩ => ?_
  subst he
  exact ⟨_, rfl, law_post (t := 4) laid (by kernel_rfl) (by kernel_rfl) Try.underlying4 rfl hW rfl hx⟩
theorem closed : joinedFacts Try.prog 21 Try.f21 Rows.fnExactTriangleBoundsSpec Rows.fnExactTriangleBoundsRow = true := by
  rw [joinedFacts, Facts.mayEnter_t, Facts.lifts_t, Facts.make_t]
  kernel_rfl
theorem over : Rows.fnExactTriangleBoundsRow.holds Try.pinned (OpenSpec.ofChange Rows.fnExactTriangleBoundsSpec) :=
  OpenClaim.holds_of_wide_leaving 21 Try.f21 rfl rfl rfl rfl rfl rfl rfl ⟨rfl, rfl, rfl, rfl, rfl⟩ rfl rfl rfl rfl rfl (by kernel_rfl) Try.func21 closed
    (of_decide_eq_true (by kernel_rfl)) (by unfold Func.isWrapper; first | (rw [if_pos (by decide +kernel)]; kernel_rfl) | (rw [if_neg (by decide +kernel)]; exact ⟨rfl, rfl⟩))
    (fun os started H enc _ => leaving_of_handed (lifted os started H enc))
theorem proved : Rows.FnExactTriangleBoundsSaid := over
#print axioms proved
end Go.Proofs.Yteaaidfjbhcofaa.fnExactTriangleBounds
