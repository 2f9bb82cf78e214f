/-
  The program's Optimize returns what the reference's returns, for all arguments. No condition.
-/
import Derived.Test.YtgoimincdbbafaaLOps
import Derived.Test.YtgoimincdbbafaaLMrc
import Derived.Test.YtgoimincdbbafaaFacts
import Derived.Test.YtgoimincdbbafaaStZip
set_option linter.unusedSimpArgs false
set_option linter.unusedVariables false
namespace Go.Proofs.Ytgoimincdbbafaa.St
open Go.RowKit
set_option maxHeartbeats 16000000 in
theorem lwOptimize (p q : Option Addr) (xs : List TInstruction) (ys : List ByteArray) (c d : Nat) (hbx : smallI xs) (hby : smallS ys) (hl1 : xs.length ≤ 9223372036854775807) (hl2 : ys.length ≤ 9223372036854775807) :
    FunP Try.prog 7 [.agg #[.slice p xs.length c, .slice q ys.length d]] (fun H => Sl H p eInstruction 3 xs ∧ Sl H q eS 1 ys) (.bool true) := by
  refine enterFunP Try.func7 rfl Try.ntmps7 rfl (fun W0 w a hp hm h => ?_)
  obtain ⟨hx, hy⟩ := hp
  repeat' (first | refine c_seq ?_ | refine c_region ?_ | refine c_nil ?_ | refine k_then ?_ | refine k_thenR ?_ | refine c_skip ?_ | refine c_ret ?_ | (((refine st_op (d := 1) rfl rfl h ?_; refine does_box hm rfl rfl ?_; clear h a hm; intro b_1 w hm a h)); (try simp only [Value.cells, splice, nz, Nat.reduceAdd, Nat.reduceMul, Int.reduceAdd, Int.reduceToNat, Int.reduceTMod] at h)) | ((refine st_op rfl rfl h ?_); clear h a; (first | (show Does _ (.call _) _ _ _ _; ((refine does_funVal hm en40 rfl (szCode_ok _ _ _ _ _ _ _ (by assumption) (by assumption) (by omega) (by omega) (by omega)) (by repeat' (first | with_reducible refine And.intro ?_ ?_ | exact Sl.up (by assumption) hm)) ?_; clear hm; rintro v w ⟨r1, rfl, hr1⟩ hm))) | (show Does _ (.move _) _ _ _ _; refine does_move rfl ?_) | (show Does _ (.assign _) _ _ _ _; refine does_assign rfl ?_) | (show Does _ (.load _ _) _ _ _ _; (refine za hm rfl rfl ?_)) | (show Does _ (.binOp _ _ _ _ _) _ _ _ _; (refine zlss rfl rfl ?_))); intro a h; (try simp only [Value.cells, splice, nz, Nat.reduceAdd, Nat.reduceMul, Int.reduceAdd, Int.reduceToNat, Int.reduceTMod] at h)) | ((refine c_condD h rfl ?_ ?_) <;> intro hc <;> (try (fail))))
  all_goals first | ((refine k_ret1 rfl h rfl ⟨?_, hm.below⟩); rfl) | skip
  have hxs : xs.length ≤ 1048576 := by omega
  have hys : ys.length ≤ 1048576 := by omega
  refine st_op rfl rfl h ?_; clear h a; refine does_funR hm en42 rfl (toCode_ok _ _ _ _ _ _ (by omega) (by omega)) (by repeat' (first | with_reducible refine And.intro ?_ ?_ | exact Sl.up (by assumption) hm)) ?_; clear hm; rintro v w N B HB HN ⟨p1, c1, q1, d1, rfl, hcc1, hcd1, hs1, ht1⟩ hm a h; replace hs1 := hs1.mono HN; replace ht1 := ht1.mono HN; replace hx := hx.mono HB; replace hy := hy.mono HB
  refine st_op rfl rfl h ?_; clear h a; refine does_funR hm en41 rfl (sOpt_ok _ _ xs ys _ _ hxs hys) (by repeat' (first | with_reducible refine And.intro ?_ ?_ | exact Sl.up (by assumption) hm)) ?_; clear hm; rintro v w N B HB HN ⟨F, hF, p2, c2, q2, d2, rfl, hcc2, hcd2, hs2, ht2⟩ hm a h; replace hs2 := hs2.mono HN; replace ht2 := ht2.mono HN; replace hx := hx.mono HB; replace hy := hy.mono HB
  have hFl := hF.len
  repeat' (first | refine c_seq ?_ | refine c_region ?_ | refine c_nil ?_ | refine k_then ?_ | (((refine st_op (d := 4) rfl rfl h ?_; refine does_alloc hm ?_; clear h a hm; intro b_4 w hm a h)); (try simp only [Value.cells, splice, nz, Nat.reduceAdd, Nat.reduceMul, Int.reduceAdd, Int.reduceToNat, Int.reduceTMod] at h)) | ((first | refine st_op rfl rfl h ?_ | refine st_opn rfl h ?_); clear h a; (first | (show Does _ (.store _ _ _) _ _ _ _; ((refine zs hm rfl rfl rfl rfl rfl rfl ?_); clear hm; intro w hm; (try simp only [Value.cells, splice, nz, ns, Nat.reduceAdd, Nat.reduceMul, Int.reduceAdd, Int.reduceToNat] at hm))) | (show Does _ (.load _ _) _ _ _ _; (refine za hm rfl rfl ?_))); intro a h; (try simp only [Value.cells, splice, nz, Nat.reduceAdd, Nat.reduceMul, Int.reduceAdd, Int.reduceToNat, Int.reduceTMod] at h)))
  refine st_op rfl rfl h ?_; clear h a; refine does_funG hm en42 rfl (toCodeG_ok _ _ xs ys _ _ hxs hys) ⟨hx.up hm, hy.up hm⟩ ?_; clear hm; rintro v L1 w ⟨p3, c3, q3, d3, rfl, rfl⟩ hm a h; simp only [List.cons_append, List.nil_append] at hm
  repeat' (first | refine c_seq ?_ | refine c_region ?_ | refine c_nil ?_ | refine k_then ?_ | (((refine st_op (d := 5) rfl rfl h ?_; refine does_alloc hm ?_; clear h a hm; intro b_5 w hm a h)); (try simp only [Value.cells, splice, nz, Nat.reduceAdd, Nat.reduceMul, Int.reduceAdd, Int.reduceToNat, Int.reduceTMod] at h)) | ((first | refine st_op rfl rfl h ?_ | refine st_opn rfl h ?_); clear h a; (first | (show Does _ (.store _ _ _) _ _ _ _; ((refine zs hm rfl rfl rfl rfl rfl rfl ?_); clear hm; intro w hm; (try simp only [Value.cells, splice, nz, ns, Nat.reduceAdd, Nat.reduceMul, Int.reduceAdd, Int.reduceToNat] at hm))) | (show Does _ (.load _ _) _ _ _ _; (refine za hm rfl rfl ?_))); intro a h; (try simp only [Value.cells, splice, nz, Nat.reduceAdd, Nat.reduceMul, Int.reduceAdd, Int.reduceToNat, Int.reduceTMod] at h)))
  refine st_op rfl rfl h ?_; clear h a; refine does_funG hm en43 rfl (iOpt_ok _ _ xs ys _ _ hxs hys) ⟨row_sl 2 hm rfl (fun _ => rfl) (by omega), row_sl 1 hm rfl (fun _ => rfl) (by omega)⟩ ?_; clear hm; rintro v L1 w ⟨F', hF', p4, c4, q4, d4, rfl, rfl⟩ hm a h; simp only [List.cons_append, List.nil_append] at hm
  obtain rfl := hF'.det hF
  repeat' (first | refine c_seq ?_ | refine c_region ?_ | refine c_nil ?_ | refine k_then ?_ | refine c_skip ?_ | refine c_condF h rfl ?_ | (((refine st_op (d := 6) rfl rfl h ?_; refine does_alloc hm ?_; clear h a hm; intro b_6 w hm a h)); (try simp only [Value.cells, splice, nz, Nat.reduceAdd, Nat.reduceMul, Int.reduceAdd, Int.reduceToNat, Int.reduceTMod] at h)) | ((first | refine st_op rfl rfl h ?_ | refine st_opn rfl h ?_); clear h a; (first | (show Does _ (.call _) _ _ _ _; (first | ((refine does_funP hm en44 rfl (eqCode_same _ _ _ _ _ _ _ _ _ _ (by omega) (by omega)) ⟨⟨row_sl 5 hm rfl (fun _ => rfl) (by omega), row_sl 4 hm rfl (fun _ => rfl) (by omega)⟩, by first | assumption | exact Sl.up (by assumption) hm, by first | assumption | exact Sl.up (by assumption) hm⟩ ?_; clear hm; intro w hm)) | ((refine zc hm en44 rfl (eqCode_same _ _ _ _ _ _ _ _ _ _ (by omega) (by omega)) ?_); clear hm; intro w hm))) | (show Does _ (.store _ _ _) _ _ _ _; ((refine zs hm rfl rfl rfl rfl rfl rfl ?_); clear hm; intro w hm; (try simp only [Value.cells, splice, nz, ns, Nat.reduceAdd, Nat.reduceMul, Int.reduceAdd, Int.reduceToNat] at hm))) | (show Does _ (.move _) _ _ _ _; refine does_move rfl ?_) | (show Does _ (.assign _) _ _ _ _; refine does_assign rfl ?_) | (show Does _ (.load _ _) _ _ _ _; (refine za hm rfl rfl ?_)) | (show Does _ (.unOp _ _ _) _ _ _ _; (refine does_not rfl ?_))); intro a h; (try simp only [Value.cells, splice, nz, Nat.reduceAdd, Nat.reduceMul, Int.reduceAdd, Int.reduceToNat, Int.reduceTMod] at h)) | (apply c_drawP (id := 10) 3 [.val _, .val _, heapP _] mixed (by kernel_rfl) (h := h) (hm := hm); (case vcs => (repeat' (first | exact vcs_nil | refine vcs_cons ?_ ?_ | (intro w hm; (repeat (first | refine dep_val ?_ | refine dep_nil ?_)); first | exact vc_skip rfl | exact vc_alloc rfl | exact vc_box rfl rfl rfl | exact vc_buildSlice rfl rfl rfl rfl | exact vc_makeSlice (by omega) (by omega) rfl rfl rfl | exact vc_store rfl rfl rfl rfl rfl rfl rfl rfl rfl rfl | (apply vc_heapP rfl; refine does_funRX en42 rfl (by repeat' (first | with_reducible refine And.intro ?_ ?_ | exact Sl.up (by assumption) hm)) (toCode_ok _ _ _ _ _ _ (by omega) (by omega)) ?_; exact fun _ _ hx hr => ⟨hx, hr⟩) | (apply vc_run rfl; ((show Does _ (.load _ _) _ _ _ _; (first | refine does_loadOA 3 hm rfl rfl rfl ?_ | refine does_loadOA 7 hm rfl rfl rfl ?_))); (exact ⟨ext_refl _, rfl⟩)))))); (case hup => kernel_rfl); (case hown => kernel_rfl); (case hmono => (repeat constructor)); clear h hm a; intro  w hm; (try simp only [List.map_nil, List.nil_append] at hm); (repeat (first | refine dep_val ?_ | (refine dep_heapP ?_; rintro _ ⟨p0, c0, q0, d0, rfl, hcc0, hcd0, hs0, hs1⟩) | refine dep_nil ?_)); intro a h; (try simp only [Value.cells, List.toList_toArray, splice, List.set_cons_zero, List.set_cons_succ, List.drop_zero, List.drop_succ_cons, List.take_succ_cons, List.take_zero, Nat.zero_add, Nat.reduceAdd, Nat.reduceMul, Int.reduceAdd, Int.reduceToNat, Int.reduceTMod, Nat.zero_mul, Nat.one_mul, Int.toNat_natCast] at h)))
  replace hm := (hm.pull 5 rfl).pull 5 rfl
  simp only [List.eraseIdx_cons_succ, List.eraseIdx_cons_zero] at hm
  refine st_op rfl rfl h ?_; clear h a; refine does_funL (L0 := codeRows _ _ _ _ _ _ _ _) hm en45 rfl (markCode_ok _ _ _ _ _ _ 1 (by omega) (by omega) (by omega)) trivial ?_; clear hm; rintro _ _ w ⟨rfl, rfl⟩ hm a h; simp only [codeRows, List.cons_append, List.nil_append] at hm
  repeat' (first | refine c_seq ?_ | refine c_region ?_ | refine c_nil ?_ | refine k_then ?_ | refine c_skip ?_ | refine c_condF h rfl ?_ | ((refine st_op rfl rfl h ?_); clear h a; (first | (show Does _ (.call _) _ _ _ _; (((refine does_funP hm en44 rfl (eqCode_same _ _ _ _ _ _ _ _ _ _ (by omega) (by omega)) ⟨⟨row_sl 4 hm rfl (fun _ => rfl) (by omega), row_sl 3 hm rfl (fun _ => rfl) (by omega)⟩, by first | assumption | exact Sl.up (by assumption) hm, by first | assumption | exact Sl.up (by assumption) hm⟩ ?_; clear hm; intro w hm)))) | (show Does _ (.move _) _ _ _ _; refine does_move rfl ?_) | (show Does _ (.assign _) _ _ _ _; refine does_assign rfl ?_) | (show Does _ (.pick _ _ _) _ _ _ _; (refine does_pickF rfl rfl ?_)) | (show Does _ (.load _ _) _ _ _ _; (refine za hm rfl rfl ?_)) | (show Does _ (.binOp _ _ _ _ _) _ _ _ _; (refine zlss rfl rfl ?_)) | (show Does _ (.unOp _ _ _) _ _ _ _; (refine does_not rfl ?_))); intro a h; (try simp only [Value.cells, splice, nz, Nat.reduceAdd, Nat.reduceMul, Int.reduceAdd, Int.reduceToNat, Int.reduceTMod] at h)))
  replace hm := (hm.pull 4 rfl).pull 4 rfl
  simp only [List.eraseIdx_cons_succ, List.eraseIdx_cons_zero] at hm
  refine st_op rfl rfl h ?_; clear h a; refine does_funL (L0 := codeRows _ _ _ _ _ _ _ _) hm en45 rfl (markCode_ok _ _ _ _ _ _ 1 (by omega) (by omega) (by omega)) trivial ?_; clear hm; rintro _ _ w ⟨rfl, rfl⟩ hm a h; simp only [codeRows, List.cons_append, List.nil_append] at hm
  repeat' (first | refine c_seq ?_ | refine c_region ?_ | refine c_nil ?_ | refine k_then ?_ | refine c_skip ?_ | refine c_condF h rfl ?_ | ((refine st_op rfl rfl h ?_); clear h a; (first | (show Does _ (.call _) _ _ _ _; (((refine does_funP hm en46 rfl (heldCode_ok _ _ _ _ _ _ 1 (by omega) (by omega) (by omega)) ⟨row_sl 1 hm rfl (fun _ => rfl) (by omega), row_sl 0 hm rfl (fun _ => rfl) (by omega)⟩ ?_; clear hm; intro w hm)))) | (show Does _ (.move _) _ _ _ _; refine does_move rfl ?_) | (show Does _ (.assign _) _ _ _ _; refine does_assign rfl ?_) | (show Does _ (.load _ _) _ _ _ _; (refine za hm rfl rfl ?_)) | (show Does _ (.binOp _ _ _ _ _) _ _ _ _; (first | refine zlss rfl rfl ?_ | refine zneq rfl rfl ?_))); intro a h; (try simp only [Value.cells, splice, nz, Nat.reduceAdd, Nat.reduceMul, Int.reduceAdd, Int.reduceToNat, Int.reduceTMod] at h)))
  refine st_op rfl rfl h ?_; clear h a; refine does_funR hm en42 rfl (toCode_ok _ _ xs ys _ _ hxs hys) ⟨hx.up hm, hy.up hm⟩ ?_; clear hm; rintro v w N B HB HN ⟨p6, c6, q6, d6, rfl, hcc6, hcd6, hs6, ht6⟩ hm a h; replace hs6 := hs6.mono HN; replace ht6 := ht6.mono HN; replace hs2 := hs2.mono HB; replace ht2 := ht2.mono HB
  refine st_op rfl rfl h ?_; clear h a; refine does_funG hm en43 rfl (iOpt_ok _ _ xs ys _ _ hxs hys) ⟨hs6.up hm, ht6.up hm⟩ ?_; clear hm; rintro v L1 w ⟨F5, hF5, p5, c5, q5, d5, rfl, rfl⟩ hm a h; simp only [List.cons_append, List.nil_append] at hm
  obtain rfl := hF5.det hF
  repeat' (first | refine c_seq ?_ | refine c_region ?_ | refine c_nil ?_ | refine k_then ?_ | refine c_skip ?_ | refine c_ret ?_ | refine c_condF h rfl ?_ | (((refine st_op (d := 10) rfl rfl h ?_; refine does_alloc hm ?_; clear h a hm; intro b_10 w hm a h)); (try simp only [Value.cells, splice, nz, Nat.reduceAdd, Nat.reduceMul, Int.reduceAdd, Int.reduceToNat, Int.reduceTMod] at h)) | ((first | refine st_op rfl rfl h ?_ | refine st_opn rfl h ?_); clear h a; (first | (show Does _ (.call _) _ _ _ _; (first | ((refine does_funP hm en44 rfl (eqCode_same _ _ _ _ _ _ _ _ _ _ (by omega) (by omega)) ⟨⟨row_sl 2 hm rfl (fun _ => rfl) (by omega), row_sl 1 hm rfl (fun _ => rfl) (by omega)⟩, by first | assumption | exact Sl.up (by assumption) hm, by first | assumption | exact Sl.up (by assumption) hm⟩ ?_; clear hm; intro w hm)) | ((refine does_funP hm en46 rfl (heldCode_ok _ _ _ _ _ _ 1 (by omega) (by omega) (by omega)) ⟨row_sl 4 hm rfl (fun _ => rfl) (by omega), row_sl 3 hm rfl (fun _ => rfl) (by omega)⟩ ?_; clear hm; intro w hm)))) | (show Does _ (.store _ _ _) _ _ _ _; ((refine zs hm rfl rfl rfl rfl rfl rfl ?_); clear hm; intro w hm; (try simp only [Value.cells, splice, nz, ns, Nat.reduceAdd, Nat.reduceMul, Int.reduceAdd, Int.reduceToNat] at hm))) | (show Does _ (.move _) _ _ _ _; refine does_move rfl ?_) | (show Does _ (.assign _) _ _ _ _; refine does_assign rfl ?_) | (show Does _ (.load _ _) _ _ _ _; (refine za hm rfl rfl ?_)) | (show Does _ (.binOp _ _ _ _ _) _ _ _ _; (first | refine zlss rfl rfl ?_ | refine zneq rfl rfl ?_)) | (show Does _ (.unOp _ _ _) _ _ _ _; (refine does_not rfl ?_))); intro a h; (try simp only [Value.cells, splice, nz, Nat.reduceAdd, Nat.reduceMul, Int.reduceAdd, Int.reduceToNat, Int.reduceTMod] at h)))
  all_goals (refine k_ret1 rfl h rfl ⟨?_, hm.below⟩)
  all_goals first | rfl | exact absurd rfl hc
end Go.Proofs.Ytgoimincdbbafaa.St
namespace Go.Proofs.Ytgoimincdbbafaa.fnExactOptimize
open Go.ChangeShapes Go.WideShapes Go.ChangeAt Go.RowKit Go.Proofs.Ytgoimincdbbafaa.St
set_option linter.unusedVariables false
theorem own : ownKnob Try.prog.godebug = none := by kernel_rfl
theorem laid : laidOutB Try.prog = true := by kernel_rfl
set_option maxRecDepth 100000 in
theorem lifted (os : Os) (started : os.Started) (H : Type) (enc : TypeId × Value → H) :
    ReturnsInHanded {} Try.checked os 7 .any (Rows.fnExactOptimizeSpec.pre6 enc Try.prog Try.f7 Rows.fnExactOptimizeRow.domain false) (Rows.fnExactOptimizeSpec.post enc Try.prog Try.f7 false true false false) := by
  refine returnsInHanded_of_change (C := Try.checked) own started (by kernel_rfl) Try.func7
    (ChangeSpec.witness6 (enc := enc) (C := Try.checked) false ⟨#[], #[.agg #[.slice none 0 0, .slice none 0 0]], []⟩ 8 (by kernel_rfl) (by kernel_rfl) (by kernel_rfl) (by kernel_rfl)) ?_
  intro W base args ds gs before hval0 hW hcnd _
  have hval : ∀ (j : Nat) t v, Try.f7.params[j]? = some t → args[j]? = some v → Value.okWide Try.prog W .any base t v := hval0
  have hW1 := hW
  obtain ⟨p, q, hA0, hV, hbe, hfz, hnd⟩ := hW1
  have hA : DataW.TrodAll enc Try.prog W 0 (fun _ => true) true Try.f7.params.toList args.toList ds p := hA0
  rw [Try.params7] at hA hval
  obtain ⟨v0, vs0, d0, ds0, p0, q0, hg0, hd0, hp0, h0, r0⟩ := trodAll_cons hA
  obtain ⟨hgz, hdz, hpz⟩ := trodAll_nil r0
  rw [hgz] at hg0
  rw [hdz] at hd0
  obtain rfl : args = #[v0] := by cases args; simp_all
  subst hd0
  obtain ⟨cs0, rfl, f0⟩ := openAgg (n := 9) (ks := [.cell 88, .cell 89]) (by kernel_rfl) (by kernel_rfl) (hval 0 91 v0 rfl rfl) h0
  obtain ⟨a0_0, c0_0, rfl, ⟨u0_0, x0_0, g0_0⟩, f0_1⟩ := fits_cell f0
  obtain ⟨a0_1, c0_1, rfl, ⟨u0_1, x0_1, g0_1⟩, f0_2⟩ := fits_cell f0_1
  obtain rfl := fits_nil f0_2
  obtain ⟨p0, xs0, n0, rfl, hle0, hn0, hi0, hbd0⟩ := openInstructionS Try.underlying88 (by kernel_rfl) (by kernel_rfl) g0_0
  obtain ⟨p1, xs1, n1, rfl, hle1, hn1, hi1, hbd1⟩ := openStringS Try.underlying89 (by kernel_rfl) (by kernel_rfl) g0_1
  have hbd0' : smallI xs0 := fun x hx => (hbd0 x hx).2.1
  refine ((lwOptimize p0 p1 xs0 xs1 n0 n1 hbd0' hbd1 (by simp only [maxLen] at hn0; omega) (by simp only [maxLen] at hn1; omega)).out W ⟨hi0, hi1⟩).mono fun e W2 ⟨he, hx⟩ => ?_
  subst he
  exact ⟨_, rfl, law_post (t := 4) laid (by kernel_rfl) (by kernel_rfl) Try.underlying4 rfl hW rfl hx⟩
theorem closed : joinedFacts Try.prog 7 Try.f7 Rows.fnExactOptimizeSpec Rows.fnExactOptimizeRow = true := by
  rw [joinedFacts, Facts.mayEnter_t, Facts.lifts_t, Facts.make_t]
  kernel_rfl
theorem over : Rows.fnExactOptimizeRow.holds Try.pinned (OpenSpec.ofChange Rows.fnExactOptimizeSpec) :=
  OpenClaim.holds_of_wide_leaving 7 Try.f7 rfl rfl rfl rfl rfl rfl rfl ⟨rfl, rfl, rfl, rfl, rfl⟩ rfl rfl rfl rfl rfl (by kernel_rfl) Try.func7 closed
    (of_decide_eq_true (by kernel_rfl)) (by unfold Func.isWrapper; first | (rw [if_pos (by decide +kernel)]; kernel_rfl) | (rw [if_neg (by decide +kernel)]; exact ⟨rfl, rfl⟩))
    (fun os started H enc _ => leaving_of_handed (lifted os started H enc))
theorem proved : Rows.FnExactOptimizeSaid := over
#print axioms proved
end Go.Proofs.Ytgoimincdbbafaa.fnExactOptimize
