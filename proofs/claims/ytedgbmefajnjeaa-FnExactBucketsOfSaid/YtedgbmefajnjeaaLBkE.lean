/-
  The program's BucketsOf returns what the reference's returns, a slice of its own at each call, for all arguments, whatever the scheduler picks; the goroutines that it has started only leave. No condition.
-/
import Derived.Test.YtedgbmefajnjeaaLBkL
import Derived.Test.YtedgbmefajnjeaaStLaw
import Derived.Conc.LeavingOf
namespace Go.Proofs.Ytedgbmefajnjeaa.fnExactBucketsOf
open Go.ChangeShapes Go.WideShapes Go.ChangeAt Go.RowKit Go.Proofs.Ytedgbmefajnjeaa.St
set_option linter.unusedVariables false
theorem own : ownKnob Try.prog.godebug = none := by kernel_rfl
theorem laid : laidOutB Try.prog = true := by kernel_rfl
set_option maxRecDepth 100000 in
theorem lifted (os : Os) (started : os.Started) (H : Type) (enc : TypeId × Value → H) :
    ReturnsInLeavingWide {} Try.checked os 3 .any (Rows.fnExactBucketsOfSpec.pre6 enc Try.prog Try.f3 Rows.fnExactBucketsOfRow.domain false) (Rows.fnExactBucketsOfSpec.post enc Try.prog Try.f3 false true false false) := by
  refine returnsInLeavingWide_of_change_sized (C := Try.checked) own started Try.func3
    (ChangeSpec.witness6 (enc := enc) (C := Try.checked) false ⟨#[], #[.agg #[.int .i64 0, .int .i64 0, .int .i64 0, .int .i64 0, .bool false, .int .i64 0, .int .i64 0], .int .i64 0], []⟩ 8 (by kernel_rfl) (by kernel_rfl) (by kernel_rfl) (by kernel_rfl)) ?_
  intro W base args ds gs before hval0 hW hcnd _ _
  have hval : ∀ (j : Nat) t v, Try.f3.params[j]? = some t → args[j]? = some v → Value.okWide Try.prog W .any base t v := hval0
  have hW1 := hW
  obtain ⟨p, q, hA0, hV, hbe, hfz, hnd⟩ := hW1
  have hA : DataW.TrodAll enc Try.prog W 0 (fun _ => true) true Try.f3.params.toList args.toList ds p := hA0
  rw [Try.params3] at hA hval
  obtain ⟨v0, vs0, d0, ds0, p0, q0, hg0, hd0, hp0, h0, r0⟩ := trodAll_cons hA
  obtain ⟨v1, vs1, d1, ds1, p1, q1, hg1, hd1, hp1, h1, r1⟩ := trodAll_cons r0
  obtain ⟨hgz, hdz, hpz⟩ := trodAll_nil r1
  rw [hgz] at hg1
  rw [hdz] at hd1
  rw [hg1] at hg0
  rw [hd1] at hd0
  obtain rfl : args = #[v0, v1] := by cases args; simp_all
  subst hd0
  obtain ⟨cs0, rfl, f0⟩ := openAgg (n := 9) (ks := [.int .i64, .int .i64, .int .i64, .int .i64, .bool, .int .i64, .int .i64]) (by kernel_rfl) (by kernel_rfl) (hval 0 23 v0 rfl rfl) h0
  obtain ⟨a0_0, c0_0, rfl, b0_0, f0_1⟩ := fits_i64 f0
  obtain ⟨a0_1, c0_1, rfl, b0_1, f0_2⟩ := fits_i64 f0_1
  obtain ⟨a0_2, c0_2, rfl, b0_2, f0_3⟩ := fits_i64 f0_2
  obtain ⟨a0_3, c0_3, rfl, b0_3, f0_4⟩ := fits_i64 f0_3
  obtain ⟨a0_4, c0_4, rfl, f0_5⟩ := fits_bool f0_4
  obtain ⟨a0_5, c0_5, rfl, b0_5, f0_6⟩ := fits_i64 f0_5
  obtain ⟨a0_6, c0_6, rfl, b0_6, f0_7⟩ := fits_i64 f0_6
  obtain rfl := fits_nil f0_7
  have f1 := open_scal (n := 9) (ks := [.int .i64]) (by kernel_rfl) (by kernel_rfl) (hval 1 3 v1 rfl rfl) h1
  obtain ⟨a1_0, c1_0, e1, b1_0, f1⟩ := fits_i64 f1
  obtain ⟨rfl, rfl⟩ : v1 = .int .i64 a1_0 ∧ c1_0 = [] := by simpa [eq_comm] using e1
  obtain ⟨M, last, o, w2, t2, h1, h2, h3, h4⟩ := law_good a0_0 a0_1 a0_2 a0_3 a0_4 a0_5 a0_6 a1_0 W
  refine ⟨M, last, o, w2, t2, h1, h2, h3, h4.mono fun v hp => ?_⟩
  obtain ⟨rfl, hx⟩ := hp
  exact law_post (t := 4) laid (by kernel_rfl) (by kernel_rfl) Try.underlying4 rfl hW rfl hx
theorem closed : joinedFacts Try.prog 3 Try.f3 Rows.fnExactBucketsOfSpec Rows.fnExactBucketsOfRow = true := by
  rw [joinedFacts, Facts.mayEnter_t, Facts.lifts_t, Facts.make_t]
  kernel_rfl
theorem over : Rows.fnExactBucketsOfRow.holds Try.pinned (OpenSpec.ofChange Rows.fnExactBucketsOfSpec) :=
  OpenClaim.holds_of_wide_leaving 3 Try.f3 rfl rfl rfl rfl rfl rfl rfl ⟨rfl, rfl, rfl, rfl, rfl⟩ rfl rfl rfl rfl rfl (by kernel_rfl) Try.func3 closed
    (of_decide_eq_true (by kernel_rfl)) (by unfold Func.isWrapper; first | (rw [if_pos (by decide +kernel)]; kernel_rfl) | (rw [if_neg (by decide +kernel)]; exact ⟨rfl, rfl⟩))
    (fun os started H enc _ => lifted os started H enc)
theorem proved : Rows.FnExactBucketsOfSaid := over
#print axioms proved
end Go.Proofs.Ytedgbmefajnjeaa.fnExactBucketsOf
