/-
  The program's FormatScene returns what the reference's returns, for all arguments, where the library's tables read as the program's text lays them (the card ties that to the text). No other condition.
-/
import Derived.Test.YtgmonjghbjaadaaGreatDoorLFss
import Derived.Test.YtgmonjghbjaadaaGreatDoorLFsi
import Derived.Test.YtgmonjghbjaadaaGreatDoorLShp
import Derived.Test.YtgmonjghbjaadaaGreatDoorJ1
import Derived.Test.YtgmonjghbjaadaaGreatDoorCards
import Derived.Test.YtgmonjghbjaadaaGreatDoorTie
import Derived.ProofKit
import Derived.Lay
import Derived.MakeChecks
import Derived.OpenShut
import Derived.SevenTiedAt
set_option linter.unusedSimpArgs false
set_option linter.unusedVariables false
namespace Go.Proofs.YtgmonjghbjaadaaGreatDoor.St
open Go.RowKit Go.WideShapes
set_option maxHeartbeats 8000000 in
theorem lwFormatScene (x : TScene) (hbx : bdSc x) : FunP Tryz.prog 3 [.agg (eSc x).toArray] (fun H => SceneH H x ∧ TabH H ∧ MaxH H) (.bool true) := by
  refine enterFunP Tryz.func3 rfl Tryz.ntmps3 rfl (fun W0 w a hp hm h => ?_)
  obtain ⟨hx, hT, hM⟩ := hp
  repeat' (first | refine c_seq ?_ | refine c_region ?_ | refine c_nil ?_ | refine k_then ?_ | refine k_thenR ?_ | refine c_skip ?_ | refine c_ret ?_ | (refine st_op (d := 1) rfl rfl h ?_; refine does_box hm rfl rfl ?_; clear h a hm; intro b_1 w hm a h; (try simp only [Value.cells, List.toList_toArray, splice, List.set_cons_zero, List.set_cons_succ, List.drop_zero, List.drop_succ_cons, List.take_succ_cons, List.take_zero, Nat.zero_add, Nat.reduceAdd, Nat.reduceMul, Int.reduceAdd, Int.reduceToNat, Int.reduceTMod, Nat.zero_mul, Nat.one_mul, Int.toNat_natCast] at h)) | ((refine st_op rfl rfl h ?_); clear h a; (first | (show Does _ (.call _) _ _ _ _; (((refine does_funVal hm en4 rfl (szScene_ok x _ hbx (by omega)) (hx.up hm) ?_; clear hm; rintro v w ⟨r1, rfl, hr1⟩ hm)))) | (show Does _ (.move _) _ _ _ _; refine does_move rfl ?_) | (show Does _ (.assign _) _ _ _ _; refine does_assign rfl ?_) | (show Does _ (.load _ _) _ _ _ _; (refine does_loadOA 0 hm rfl rfl rfl ?_)) | (show Does _ (.binOp _ _ _ _ _) _ _ _ _; (refine does_lss rfl rfl ?_))); intro a h; (try simp only [Value.cells, List.toList_toArray, splice, List.set_cons_zero, List.set_cons_succ, List.drop_zero, List.drop_succ_cons, List.take_succ_cons, List.take_zero, Nat.zero_add, Nat.reduceAdd, Nat.reduceMul, Int.reduceAdd, Int.reduceToNat, Int.reduceTMod, Nat.zero_mul, Nat.one_mul, Int.toNat_natCast] at h)) | ((refine c_condD h rfl ?_ ?_) <;> intro hc <;> (try (fail))))
  all_goals first | ((refine k_ret1 rfl h rfl ⟨?_, hm.below⟩); rfl) | skip
  have hsx := (hr1.resolve_left (by omega)).2
  clear hr1 hc
  refine st_op rfl rfl h ?_; clear h a; refine does_funR hm en6 rfl (toSceneC_ok x hsx) (by repeat' (exact SceneH.up (by assumption) hm)) ?_; clear hm; rintro v w N B HB HN ⟨⟨x1, rfl, ha1, hs1, hp1⟩⟩ hm a h; replace hp1 := hp1.mono HN; replace hx := hx.mono HB; replace hT := hT.mono HB; replace hM := hM.mono HB
  have hS := sFormatScene_ok x1 hs1 (bdS_of ha1 hbx.each)
  rw [ha1] at hS
  repeat' (first | refine c_seq ?_ | refine c_region ?_ | refine c_nil ?_ | refine k_then ?_ | ((refine st_op rfl rfl h ?_); clear h a; (first | (show Does _ (.call _) _ _ _ _; (((refine does_funP hm en5 rfl hS ⟨hp1.up hm, hT.mono hm.base⟩ ?_; clear hm; intro w hm)))) | (show Does _ (.assign _) _ _ _ _; refine does_assign rfl ?_) | (show Does _ (.load _ _) _ _ _ _; (refine does_loadOA 0 hm rfl rfl rfl ?_))); intro a h; (try simp only [Value.cells, List.toList_toArray, splice, List.set_cons_zero, List.set_cons_succ, List.drop_zero, List.drop_succ_cons, List.take_succ_cons, List.take_zero, Nat.zero_add, Nat.reduceAdd, Nat.reduceMul, Int.reduceAdd, Int.reduceToNat, Int.reduceTMod, Nat.zero_mul, Nat.one_mul, Int.toNat_natCast] at h)))
  clear hS hp1
  refine st_op rfl rfl h ?_; clear h a; refine does_funR hm en6 rfl (toSceneC_ok x hsx) (by repeat' (exact SceneH.up (by assumption) hm)) ?_; clear hm; rintro v w N B HB HN ⟨⟨x2, rfl, ha2, hs2, hp2⟩⟩ hm a h; replace hp2 := hp2.mono HN; replace hx := hx.mono HB; replace hT := hT.mono HB; replace hM := hM.mono HB
  have hI := iFormatScene_ok x2 hs2
  rw [ha2] at hI
  repeat' (first | refine c_seq ?_ | refine c_region ?_ | refine c_nil ?_ | refine k_then ?_ | refine c_skip ?_ | refine c_ret ?_ | refine c_condF h rfl ?_ | (refine st_op (d := 5) rfl rfl h ?_; refine does_alloc hm ?_; clear h a hm; intro b_5 w hm a h; (try simp only [Value.cells, List.toList_toArray, splice, List.set_cons_zero, List.set_cons_succ, List.drop_zero, List.drop_succ_cons, List.take_succ_cons, List.take_zero, Nat.zero_add, Nat.reduceAdd, Nat.reduceMul, Int.reduceAdd, Int.reduceToNat, Int.reduceTMod, Nat.zero_mul, Nat.one_mul, Int.toNat_natCast] at h)) | ((first | refine st_op rfl rfl h ?_ | refine st_opn rfl h ?_); clear h a; (first | (show Does _ (.call _) _ _ _ _; (first | ((refine does_funP hm en7 rfl hI ⟨hp2.up hm, hT.mono hm.base, hM.mono hm.base⟩ ?_; clear hm; intro w hm)) | ((refine does_funP hm en8 rfl (eqScene_same x2 x9 (by rw [ha2, ha9]) hs2) ⟨hp2.up hm, hp9⟩ ?_; clear hm; intro w hm)))) | (show Does _ (.store _ _ _) _ _ _ _; ((refine does_storeO 0 hm rfl rfl rfl rfl rfl rfl rfl ?_; clear hm; intro w hm; (try simp only [Value.cells, List.toList_toArray, List.set_cons_zero, List.set_cons_succ, splice, Nat.zero_add, Nat.reduceAdd, Nat.reduceMul, Int.reduceAdd, Int.reduceToNat, Nat.zero_mul, Nat.one_mul, Int.toNat_natCast] at hm)))) | (show Does _ (.move _) _ _ _ _; refine does_move rfl ?_) | (show Does _ (.assign _) _ _ _ _; refine does_assign rfl ?_) | (show Does _ (.load _ _) _ _ _ _; (refine does_loadOA 0 hm rfl rfl rfl ?_)) | (show Does _ (.binOp _ _ _ _ _) _ _ _ _; (refine does_neqStrS rfl rfl ?_)) | (show Does _ (.unOp _ _ _) _ _ _ _; (refine does_not rfl ?_))); intro a h; (try simp only [Value.cells, List.toList_toArray, splice, List.set_cons_zero, List.set_cons_succ, List.drop_zero, List.drop_succ_cons, List.take_succ_cons, List.take_zero, Nat.zero_add, Nat.reduceAdd, Nat.reduceMul, Int.reduceAdd, Int.reduceToNat, Int.reduceTMod, Nat.zero_mul, Nat.one_mul, Int.toNat_natCast] at h)) | (apply c_drawP (id := 10) 3 [.val _, .val _, heapP _] mixed (by kernel_rfl) (h := h) (hm := hm); (case vcs => (repeat' (first | exact vcs_nil | refine vcs_cons ?_ ?_ | (intro w hm; (repeat (first | refine dep_val ?_ | refine dep_nil ?_)); first | exact vc_skip rfl | exact vc_alloc rfl | exact vc_box rfl rfl rfl | exact vc_buildSlice rfl rfl rfl rfl | exact vc_makeSlice (by omega) (by omega) rfl rfl rfl | exact vc_store rfl rfl rfl rfl rfl rfl rfl rfl rfl rfl | (apply vc_heapP rfl; refine does_funRX en6 rfl (by repeat' (exact SceneH.up (by assumption) hm)) (toSceneC_ok _ (by assumption)) ?_; exact fun _ _ hx hr => ⟨hx, hr⟩) | (apply vc_run rfl; ((show Does _ (.load _ _) _ _ _ _; (first | refine does_loadOA 0 hm rfl rfl rfl ?_ | refine does_loadOA 1 hm rfl rfl rfl ?_))); (exact ⟨ext_refl _, rfl⟩)))))); (case hup => kernel_rfl); (case hown => kernel_rfl); (case hmono => (repeat constructor)); clear h hm a; intro  w hm; (try simp only [List.map_nil, List.nil_append] at hm); (repeat (first | refine dep_val ?_ | (refine dep_heapP ?_; rintro _ ⟨⟨x9, rfl, ha9, hs9, hp9⟩⟩) | refine dep_nil ?_)); intro a h; (try simp only [Value.cells, List.toList_toArray, splice, List.set_cons_zero, List.set_cons_succ, List.drop_zero, List.drop_succ_cons, List.take_succ_cons, List.take_zero, Nat.zero_add, Nat.reduceAdd, Nat.reduceMul, Int.reduceAdd, Int.reduceToNat, Int.reduceTMod, Nat.zero_mul, Nat.one_mul, Int.toNat_natCast] at h)))
  all_goals (refine k_ret1 rfl h rfl ⟨?_, hm.below⟩)
  all_goals first | rfl | exact absurd trivial hc | exact absurd rfl hc
end Go.Proofs.YtgmonjghbjaadaaGreatDoor.St
namespace Go.Proofs.YtgmonjghbjaadaaGreatDoor.fnExactFormatScene
open Go.ChangeShapes Go.WideShapes Go.ChangeAt Go.RowKit Go.Proofs.YtgmonjghbjaadaaGreatDoor.St
set_option linter.unusedVariables false
theorem own : ownKnob Tryz.prog.godebug = none := by kernel_rfl
theorem laid : laidOutB Tryz.prog = true := by kernel_rfl
theorem door_met (os : Os) (args : Array Value) : laidMetH Tryz.prog Rows.fnExactFormatSceneRow.laid ((World.laidAll Tryz.prog os Rows.fnExactFormatSceneRow.laid).forCall (fun _ _ => 0) ⟨#[], args, []⟩).memory :=
  (MakeChecks.laidMetH_plain _ _ _ (by kernel_rfl)).mpr (laidMet_laidAll _ (by kernel_rfl) (by kernel_rfl))
set_option maxRecDepth 100000 in
theorem lifted (os : Os) (started : os.Started) (H : Type) (enc : TypeId × Value → H) :
    ReturnsInHanded {} Tryz.checked os 3 .any (fun w args => (Rows.fnExactFormatSceneSpec.pre enc Tryz.prog Tryz.f3 [] false w args ∧ laidMetH Tryz.prog Rows.fnExactFormatSceneRow.laid w) ∧ sizedMet enc Tryz.prog Tryz.f3 (OpenSpec.ofChange Rows.fnExactFormatSceneSpec) false w args) (Rows.fnExactFormatSceneSpec.post enc Tryz.prog Tryz.f3 false true false false) := by
  refine handed_and_shaped (C := Tryz.checked) (X := fun w _ => laidMetH Tryz.prog Rows.fnExactFormatSceneRow.laid w) (fun _ _ _ hh h => h.of_heap hh) own started (by kernel_rfl) Tryz.func3
    (ChangeSpec.witness_shaped (enc := enc) (C := Tryz.checked) (os := os) (X := fun w _ => laidMetH Tryz.prog Rows.fnExactFormatSceneRow.laid w) false (World.laidAll Tryz.prog os Rows.fnExactFormatSceneRow.laid) #[.agg #[.int .i64 0, .int .i64 0, .int .i64 0, .int .i64 0, .bool false, .int .i64 0, .int .i64 0, .int .i64 0, .slice none 0 0, .slice none 0 0, .slice none 0 0, .int .i64 0]] 8 (World.laidAll_os _ _ _) (World.shaped_of_ZipB (by kernel_rfl) (by kernel_rfl)) (by kernel_rfl) (by kernel_rfl) (by kernel_rfl) (door_met os _)) ?_
  intro W base args ds gs before hval0 hW _ _ hL hSh _
  have hval : ∀ (j : Nat) t v, Tryz.f3.params[j]? = some t → args[j]? = some v → Value.okWide Tryz.prog W .any base t v := hval0
  have hW1 := hW
  obtain ⟨p, q, hA0, hV, hbe, hfz, hnd⟩ := hW1
  have hA : DataW.TrodAll enc Tryz.prog W 0 (fun _ => true) true Tryz.f3.params.toList args.toList ds p := hA0
  rw [Tryz.params3] at hA hval
  obtain ⟨v0, vs0, d0, ds0, p0, q0, hg0, hd0, hp0, h0, r0⟩ := trodAll_cons hA
  obtain ⟨hgz, hdz, hpz⟩ := trodAll_nil r0
  rw [hgz] at hg0
  rw [hdz] at hd0
  obtain rfl : args = #[v0] := by cases args; simp_all
  subst hd0
  obtain ⟨cs0, rfl, f0⟩ := openAgg (n := 9) (ks := [.int .i64, .int .i64, .int .i64, .int .i64, .bool, .int .i64, .int .i64, .int .i64, .cell 24, .cell 27, .cell 28, .int .i64]) (by kernel_rfl) (by kernel_rfl) (hval 0 30 v0 rfl rfl) h0
  obtain ⟨a0_0, c0_0, rfl, b0_0, f0_1⟩ := fits_i64 f0
  obtain ⟨a0_1, c0_1, rfl, b0_1, f0_2⟩ := fits_i64 f0_1
  obtain ⟨a0_2, c0_2, rfl, b0_2, f0_3⟩ := fits_i64 f0_2
  obtain ⟨a0_3, c0_3, rfl, b0_3, f0_4⟩ := fits_i64 f0_3
  obtain ⟨a0_4, c0_4, rfl, f0_5⟩ := fits_bool f0_4
  obtain ⟨a0_5, c0_5, rfl, b0_5, f0_6⟩ := fits_i64 f0_5
  obtain ⟨a0_6, c0_6, rfl, b0_6, f0_7⟩ := fits_i64 f0_6
  obtain ⟨a0_7, c0_7, rfl, b0_7, f0_8⟩ := fits_i64 f0_7
  obtain ⟨a0_8, c0_8, rfl, ⟨u0_8, x0_8, g0_8⟩, f0_9⟩ := fits_cell f0_8
  obtain ⟨a0_9, c0_9, rfl, ⟨u0_9, x0_9, g0_9⟩, f0_10⟩ := fits_cell f0_9
  obtain ⟨a0_10, c0_10, rfl, ⟨u0_10, x0_10, g0_10⟩, f0_11⟩ := fits_cell f0_10
  obtain ⟨a0_11, c0_11, rfl, b0_11, f0_12⟩ := fits_i64 f0_11
  obtain rfl := fits_nil f0_12
  obtain ⟨tp0, tx0, tc0, rfl, tl0, tn0, ti0, tb0⟩ := openIntN Tryz.underlying24 (by kernel_rfl) (by kernel_rfl) g0_8
  obtain ⟨sp0, sh0, sc0, rfl, sl0, sn0, si0, sb0⟩ := openProgramS Tryz.underlying27 (by kernel_rfl) (by kernel_rfl) Tryz.underlying76 (by kernel_rfl) (by kernel_rfl) Tryz.underlying24 (by kernel_rfl) (by kernel_rfl) Tryz.underlying77 (by kernel_rfl) (by kernel_rfl) g0_9
  obtain ⟨up0, su0, uc0, rfl, ul0, un0, ui0⟩ := openSurfaceS Tryz.underlying28 (by kernel_rfl) (by kernel_rfl) g0_10
  refine ((lwFormatScene ⟨a0_0, a0_1, a0_2, a0_3, a0_4, a0_5, a0_6, a0_7, tx0, tp0, tc0, sh0, sp0, sc0, su0, up0, uc0, a0_11⟩ ⟨by simp only [maxLen] at tn0 ⊢; omega, by simp only [maxLen] at sn0 ⊢; omega, sb0, by simp only [maxLen] at un0 ⊢; omega⟩).out W ⟨⟨ti0, si0, ui0⟩, tab_ofS hL, max_of hSh⟩).mono fun e W2 ⟨he, hx⟩ => ?_
  subst he
  exact ⟨_, rfl, law_post (t := 4) laid (by kernel_rfl) (by kernel_rfl) Tryz.underlying4 rfl hW rfl hx⟩
theorem closed : joinedFacts Tryz.prog 3 Tryz.f3 Rows.fnExactFormatSceneSpec Rows.fnExactFormatSceneRow = true := by
  rw [joinedFacts, Facts.mayEnter_t, Facts.lifts_t, Facts.make_t]
  kernel_rfl
theorem over : Rows.fnExactFormatSceneRow.holds Tryz.pinned (OpenSpec.ofChange Rows.fnExactFormatSceneSpec) :=
  OpenClaim.holds_of_wide 3 Tryz.f3 rfl rfl rfl rfl rfl rfl rfl ⟨rfl, rfl, rfl, rfl, rfl⟩ rfl rfl rfl rfl rfl (by kernel_rfl) Tryz.func3 closed
    (of_decide_eq_true (by kernel_rfl)) (by unfold Func.isWrapper; first | (rw [if_pos (by decide +kernel)]; kernel_rfl) | (rw [if_neg (by decide +kernel)]; exact ⟨rfl, rfl⟩))
    (fun os started H enc _ => lifted os started H enc)
theorem plain (f : FuncId) (fn : Func) (hf : Tryz.pinned.checked.prog.funcNamed "loop.example/g00809/laws.FnExactFormatScene" = some f) (hfn : Tryz.pinned.checked.prog.funcs[f]? = some fn) :
    true = Tryz.pinned.checked.prog.looks [] ∧ ∀ (j : Nat) t, fn.params[j]? = some t → Tryz.pinned.checked.prog.wantsStandIn t = false := by
  obtain rfl : f = 3 := Option.some.inj ((show Tryz.prog.funcNamed "loop.example/g00809/laws.FnExactFormatScene" = some 3 by kernel_rfl).symm.trans hf) |>.symm
  obtain rfl : fn = Tryz.f3 := (Option.some.inj (Tryz.func3.symm.trans hfn)).symm
  refine ⟨by kernel_rfl, fun j t ht => ?_⟩
  rw [Tryz.params3] at ht
  have hm : t ∈ (#[30] : Array TypeId) := Array.mem_of_getElem? ht
  simp only [List.mem_toArray, List.mem_cons, List.not_mem_nil, or_false] at hm
  rcases hm with rfl
  · exact (show Tryz.prog.wantsStandIn 30 = false by kernel_rfl)
theorem proved : Rows.FnExactFormatSceneCardSaid :=
  Claim7.holds_tied_plain_at .later [] _ _ _ _ (show Rows.FnExactFormatSceneSaid from over) (fun _ h => by cases h) (by kernel_rfl) (fun _ h => by cases h) fnExactFormatScene_row_tie rfl ⟨rfl, rfl⟩ (by kernel_rfl) rfl plain (by kernel_rfl)
#print axioms proved
end Go.Proofs.YtgmonjghbjaadaaGreatDoor.fnExactFormatScene
