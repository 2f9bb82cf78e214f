/-
  The program's Covers returns what the reference's returns, for all arguments. No condition.
-/
import Derived.Test.YteaaidfjbhcofaaLCovB
import Derived.Test.YteaaidfjbhcofaaFacts
set_option linter.unusedSimpArgs false
set_option linter.unusedVariables false
namespace Go.Proofs.Yteaaidfjbhcofaa.St
open Go.RowKit
set_option maxHeartbeats 2000000 in
theorem lwCovers (a b c d e f g i j x y : Int) : Fun Try.prog 12 [.agg #[I a, I b, I c, I d, I e, I f, I g, I i, I j], I x, I y] (.bool true) := by
  refine enterFun Try.func12 rfl Try.ntmps12 rfl (fun W0 w a hm h => ?_)
  repeat' (first | refine c_seq ?_ | refine c_region ?_ | refine c_nil ?_ | refine k_then ?_ | refine k_thenL ?_ | refine k_thenR ?_ | refine k_thenE ?_ | refine k_inN ?_ | refine k_inR ?_ | refine k_inE ?_ | refine k_inO rfl ?_ | refine c_skip ?_ | refine c_ret ?_ | refine c_exit ?_ | refine c_block ?_ | refine r_succ ?_ | refine c_condT h rfl ?_ | refine c_condF h rfl ?_ | ((first | refine st_op rfl rfl h ?_ | refine st_opn rfl h ?_); clear h a; (first | (refine does_box hm rfl rfl ?_; clear hm; intro b w hm) | (refine does_funM hm en55 rfl (sCovers_ok _ _ _ _ _ _ _ _ _ _ _) ?_; clear hm; intro w hm) | (refine does_funM hm en26 rfl (toTriangle_ok _ _ _ _ _ _ _ _ _) ?_; clear hm; intro w hm) | (refine does_funM hm en29 rfl (implCovers_ok _ _ _ _ _ _ _ _ _ _ _) ?_; clear hm; intro w hm) | refine does_move rfl ?_ | refine does_assign rfl ?_ | refine does_loadO 0 hm rfl rfl rfl ?_ | refine does_loadO 1 hm rfl rfl rfl ?_ | refine does_loadO 2 hm rfl rfl rfl ?_ | refine does_loadO 3 hm rfl rfl rfl ?_ | refine does_loadO 4 hm rfl rfl rfl ?_ | refine does_loadO 5 hm rfl rfl rfl ?_ | refine does_loadOA 0 hm rfl rfl rfl ?_ | refine does_loadOA 1 hm rfl rfl rfl ?_ | refine does_loadOA 2 hm rfl rfl rfl ?_ | refine does_loadOA 3 hm rfl rfl rfl ?_ | refine does_loadOA 4 hm rfl rfl rfl ?_ | refine does_loadOA 5 hm rfl rfl rfl ?_ | refine does_loadB hm rfl (by assumption) rfl ?_ | refine does_loadBA hm rfl (by assumption) rfl ?_ | refine does_loadB hm rfl (At.add (by assumption) _) rfl ?_ | refine does_neqBF (BoolT.out) rfl rfl (by first | exact Iff.rfl | omega) ?_ | refine does_neqBS (BoolT.out) rfl rfl ?_ | refine does_neqB (BoolT.out) rfl rfl ?_); intro a h; (try simp only [Value.cells, List.toList_toArray, splice, List.set_cons_zero, List.set_cons_succ, List.drop_zero, List.drop_succ_cons, List.take_succ_cons, List.take_zero, Nat.zero_add, Nat.reduceAdd, Nat.reduceMul, Int.reduceAdd, Int.reduceToNat, Int.reduceTMod, Nat.zero_mul, Nat.one_mul, Int.toNat_natCast] at h)) | (refine st_skip rfl rfl h ?_; clear h a; intro a h) | (refine st_skipn rfl h ?_; clear h a; intro a h) | ((refine c_condD h rfl (fun hc => ?_) (fun hc => ?_)) <;> (try (first | exact absurd trivial hc | exact absurd rfl hc))) | ((refine c_cond h rfl (fun hc => ?_) (fun hc => ?_)) <;> (try (first | exact absurd trivial hc | exact absurd rfl hc))) | (refine st_guardD rfl rfl h ?_ ?_ <;> clear h <;> intro hc h))
  all_goals (first | refine k_ret1 rfl h rfl ⟨?_, hm.below⟩ | refine k_ret2 rfl h rfl rfl ⟨?_, hm.below⟩ | refine k_ret (vs := [_]) rfl h ⟨rv_cellA (i := 0) hm rfl rfl rfl, trivial⟩ ⟨?_, hm.below⟩ | refine k_ret (vs := [_]) rfl h ⟨rv_cellA (i := 1) hm rfl rfl rfl, trivial⟩ ⟨?_, hm.below⟩ | refine k_ret (vs := [_]) rfl h ⟨rv_cellA (i := 2) hm rfl rfl rfl, trivial⟩ ⟨?_, hm.below⟩ | refine k_ret (vs := [_]) rfl h ⟨rv_cellA (i := 3) hm rfl rfl rfl, trivial⟩ ⟨?_, hm.below⟩ | refine k_ret (vs := [_]) rfl h ⟨rv_cellA (i := 4) hm rfl rfl rfl, trivial⟩ ⟨?_, hm.below⟩ | refine k_ret (vs := [_]) rfl h ⟨rv_cellA (i := 5) hm rfl rfl rfl, trivial⟩ ⟨?_, hm.below⟩ | refine k_ret (vs := [_]) rfl h ⟨rv_cell1 (i := 0) hm rfl rfl rfl, trivial⟩ ⟨?_, hm.below⟩ | refine k_ret (vs := [_]) rfl h ⟨rv_cell1 (i := 1) hm rfl rfl rfl, trivial⟩ ⟨?_, hm.below⟩ | refine k_ret (vs := [_]) rfl h ⟨rv_cell1 (i := 2) hm rfl rfl rfl, trivial⟩ ⟨?_, hm.below⟩ | refine k_ret (vs := [_]) rfl h ⟨rv_cell1 (i := 3) hm rfl rfl rfl, trivial⟩ ⟨?_, hm.below⟩ | refine k_ret (vs := [_]) rfl h ⟨rv_cell1 (i := 4) hm rfl rfl rfl, trivial⟩ ⟨?_, hm.below⟩ | refine k_ret (vs := [_]) rfl h ⟨rv_cell1 (i := 5) hm rfl rfl rfl, trivial⟩ ⟨?_, hm.below⟩ | refine k_ret (vs := [_, _]) rfl h ⟨rv_cellA (i := 0) hm rfl rfl rfl, rfl, trivial⟩ ⟨?_, hm.below⟩ | refine k_ret (vs := [_, _]) rfl h ⟨rv_cellA (i := 1) hm rfl rfl rfl, rfl, trivial⟩ ⟨?_, hm.below⟩ | refine k_ret (vs := [_, _]) rfl h ⟨rv_cellA (i := 2) hm rfl rfl rfl, rfl, trivial⟩ ⟨?_, hm.below⟩ | refine k_ret (vs := [_, _]) rfl h ⟨rv_cellA (i := 3) hm rfl rfl rfl, rfl, trivial⟩ ⟨?_, hm.below⟩ | refine k_ret (vs := [_, _]) rfl h ⟨rv_cellA (i := 4) hm rfl rfl rfl, rfl, trivial⟩ ⟨?_, hm.below⟩ | refine k_ret (vs := [_, _]) rfl h ⟨rv_cellA (i := 5) hm rfl rfl rfl, rfl, trivial⟩ ⟨?_, hm.below⟩)
  all_goals (first | rfl | exact boolT (by omega) | exact boolF (by omega) | exact boolI (by omega) | exact intE (by omega) | exact aggE (by simp only [List.cons.injEq, Value.int.injEq, true_and, and_true]; omega) | exact tupE (by simp only [List.cons.injEq, Value.int.injEq, true_and, and_true]; omega))
end Go.Proofs.Yteaaidfjbhcofaa.St
namespace Go.Proofs.Yteaaidfjbhcofaa.fnExactCovers
open Go.ChangeShapes Go.WideShapes Go.ChangeAt Go.RowKit Go.Proofs.Yteaaidfjbhcofaa.St
set_option linter.unusedVariables false
theorem own : ownKnob Try.prog.godebug = none := by kernel_rfl
theorem laid : laidOutB Try.prog = true := by kernel_rfl
set_option maxRecDepth 100000 in
theorem lifted (os : Os) (started : os.Started) (H : Type) (enc : TypeId × Value → H) :
    ReturnsInHanded {} Try.checked os 12 .any (Rows.fnExactCoversSpec.pre6 enc Try.prog Try.f12 Rows.fnExactCoversRow.domain false) (Rows.fnExactCoversSpec.post enc Try.prog Try.f12 false true false false) := by
  refine returnsInHanded_of_change (C := Try.checked) own started (by kernel_rfl) Try.func12
    (ChangeSpec.witness6 (enc := enc) (C := Try.checked) false ⟨#[], #[.agg #[.int .i64 0, .int .i64 0, .int .i64 0, .int .i64 0, .int .i64 0, .int .i64 0, .int .i64 0, .int .i64 0, .int .i64 0], .int .i64 0, .int .i64 0], []⟩ 8 (by kernel_rfl) (by kernel_rfl) (by kernel_rfl) (by kernel_rfl)) ?_
  intro W base args ds gs before hval0 hW hcnd _
  have hval : ∀ (j : Nat) t v, Try.f12.params[j]? = some t → args[j]? = some v → Value.okWide Try.prog W .any base t v := hval0
  have hW1 := hW
  obtain ⟨p, q, hA0, hV, hbe, hfz, hnd⟩ := hW1
  have hA : DataW.TrodAll enc Try.prog W 0 (fun _ => true) true Try.f12.params.toList args.toList ds p := hA0
  rw [Try.params12] at hA hval
  obtain ⟨v0, vs0, d0, ds0, p0, q0, hg0, hd0, hp0, h0, r0⟩ := trodAll_cons hA
  obtain ⟨v1, vs1, d1, ds1, p1, q1, hg1, hd1, hp1, h1, r1⟩ := trodAll_cons r0
  obtain ⟨v2, vs2, d2, ds2, p2, q2, hg2, hd2, hp2, h2, r2⟩ := trodAll_cons r1
  obtain ⟨hgz, hdz, hpz⟩ := trodAll_nil r2
  rw [hgz] at hg2
  rw [hdz] at hd2
  rw [hg2] at hg1
  rw [hd2] at hd1
  rw [hg1] at hg0
  rw [hd1] at hd0
  obtain rfl : args = #[v0, v1, v2] := by cases args; simp_all
  subst hd0
  obtain ⟨cs0, rfl, f0⟩ := openAgg (n := 9) (ks := [.int .i64, .int .i64, .int .i64, .int .i64, .int .i64, .int .i64, .int .i64, .int .i64, .int .i64]) (by kernel_rfl) (by kernel_rfl) (hval 0 31 v0 rfl rfl) h0
  obtain ⟨a0_0, c0_0, rfl, b0_0, f0_1⟩ := fits_i64 f0
  obtain ⟨a0_1, c0_1, rfl, b0_1, f0_2⟩ := fits_i64 f0_1
  obtain ⟨a0_2, c0_2, rfl, b0_2, f0_3⟩ := fits_i64 f0_2
  obtain ⟨a0_3, c0_3, rfl, b0_3, f0_4⟩ := fits_i64 f0_3
  obtain ⟨a0_4, c0_4, rfl, b0_4, f0_5⟩ := fits_i64 f0_4
  obtain ⟨a0_5, c0_5, rfl, b0_5, f0_6⟩ := fits_i64 f0_5
  obtain ⟨a0_6, c0_6, rfl, b0_6, f0_7⟩ := fits_i64 f0_6
  obtain ⟨a0_7, c0_7, rfl, b0_7, f0_8⟩ := fits_i64 f0_7
  obtain ⟨a0_8, c0_8, rfl, b0_8, f0_9⟩ := fits_i64 f0_8
  obtain rfl := fits_nil f0_9
  have f1 := open_scal (n := 9) (ks := [.int .i64]) (by kernel_rfl) (by kernel_rfl) (hval 1 3 v1 rfl rfl) h1
  obtain ⟨a1_0, c1_0, e1, b1_0, f1⟩ := fits_i64 f1
  obtain ⟨rfl, rfl⟩ : v1 = .int .i64 a1_0 ∧ c1_0 = [] := by simpa [eq_comm] using e1
  have f2 := open_scal (n := 9) (ks := [.int .i64]) (by kernel_rfl) (by kernel_rfl) (hval 2 3 v2 rfl rfl) h2
  obtain ⟨a2_0, c2_0, e2, b2_0, f2⟩ := fits_i64 f2
  obtain ⟨rfl, rfl⟩ : v2 = .int .i64 a2_0 ∧ c2_0 = [] := by simpa [eq_comm] using e2
  refine ((lwCovers _ _ _ _ _ _ _ _ _ _ _).out W).mono fun e W2 ⟨he, hx⟩ => ?_
  subst he
  exact ⟨_, rfl, law_post (t := 4) laid (by kernel_rfl) (by kernel_rfl) Try.underlying4 rfl hW rfl hx⟩
theorem closed : joinedFacts Try.prog 12 Try.f12 Rows.fnExactCoversSpec Rows.fnExactCoversRow = true := by
  rw [joinedFacts, Facts.mayEnter_t, Facts.lifts_t, Facts.make_t]
  kernel_rfl
theorem over : Rows.fnExactCoversRow.holds Try.pinned (OpenSpec.ofChange Rows.fnExactCoversSpec) :=
  OpenClaim.holds_of_wide_leaving 12 Try.f12 rfl rfl rfl rfl rfl rfl rfl ⟨rfl, rfl, rfl, rfl, rfl⟩ rfl rfl rfl rfl rfl (by kernel_rfl) Try.func12 closed
    (of_decide_eq_true (by kernel_rfl)) (by unfold Func.isWrapper; first | (rw [if_pos (by decide +kernel)]; kernel_rfl) | (rw [if_neg (by decide +kernel)]; exact ⟨rfl, rfl⟩))
    (fun os started H enc _ => leaving_of_handed (lifted os started H enc))
theorem proved : Rows.FnExactCoversSaid := over
#print axioms proved
end Go.Proofs.Yteaaidfjbhcofaa.fnExactCovers
