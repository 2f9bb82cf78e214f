/-
  The program's Candidates returns what the reference's returns, for all arguments. No condition.
-/
import Derived.Test.YtbcboklmeifghaaGreatLCns
import Derived.Test.YtbcboklmeifghaaGreatJ1
import Derived.Test.YtbcboklmeifghaaGreatJ5
import Derived.Test.YtbcboklmeifghaaGreatJ3
set_option linter.unusedSimpArgs false
set_option linter.unusedVariables false
namespace Go.Proofs.YtbcboklmeifghaaGreat.St
open Go.RowKit
theorem candO_len (s : PScene) (bx by_ bw bh : Int) : (candO s bx by_ bw bh).length ≤ 5 := by
  unfold candO
  split
  · rename_i h
    have h1 := candL_len s bx by_ bw bh s.su.length
    have h2 := h.1.nsu
    omega
  · simp
set_option maxHeartbeats 16000000 in
theorem lwCandidates (x : TScene) (bx by_ bw bh : Int) (hbx : bdSc x) : FunP Tryz.prog 4 [.agg (eSc x).toArray, .agg #[I bx, I by_, I bw, I bh]] (fun H => SceneH H x) (.bool true) := by
  refine enterFunP Tryz.func4 rfl Tryz.ntmps4 rfl (fun W0 w a hp hm h => ?_)
  have hx := hp
  repeat' (first | refine c_seq ?_ | refine c_region ?_ | refine c_nil ?_ | refine k_then ?_ | refine k_thenR ?_ | refine c_skip ?_ | refine c_ret ?_ | ((first | (refine st_op (d := 2) rfl rfl h ?_; refine does_box hm rfl rfl ?_; clear h a hm; intro b_2 w hm a h) | (refine st_op (d := 3) rfl rfl h ?_; refine does_box hm rfl rfl ?_; clear h a hm; intro b_3 w hm a h)); (try simp only [Value.cells, splice, nz, Nat.reduceAdd, Nat.reduceMul, Int.reduceAdd, Int.reduceToNat, Int.reduceTMod] at h)) | ((refine st_op rfl rfl h ?_); clear h a; (first | (show Does _ (.call _) _ _ _ _; (((refine does_funVal hm en5 rfl (szScene_ok x _ hbx (by omega)) (hx.up hm) ?_; clear hm; rintro v w ⟨r1, rfl, hr1⟩ hm)))) | (show Does _ (.move _) _ _ _ _; refine does_move rfl ?_) | (show Does _ (.assign _) _ _ _ _; refine does_assign rfl ?_) | (show Does _ (.load _ _) _ _ _ _; (refine za hm rfl rfl ?_)) | (show Does _ (.binOp _ _ _ _ _) _ _ _ _; (refine zlss rfl rfl ?_))); intro a h; (try simp only [Value.cells, splice, nz, Nat.reduceAdd, Nat.reduceMul, Int.reduceAdd, Int.reduceToNat, Int.reduceTMod] at h)) | ((refine c_condD h rfl ?_ ?_) <;> intro hc <;> (try (fail))))
  all_goals first | ((refine k_ret1 rfl h rfl ⟨?_, hm.below⟩); rfl) | skip
  have hsx := (hr1.resolve_left (by omega)).2
  clear hr1 hc hp
  have hcl := candO_len (aSc x) bx by_ bw bh
  repeat' ((apply c_drawP (id := 5) 4 [.val _, heapP _, .val _, .val _] mixed (by kernel_rfl) (h := h) (hm := hm); (case vcs => (repeat' (first | exact vcs_nil | refine vcs_cons ?_ ?_ | (intro w hm; (repeat (first | refine dep_val ?_ | (refine dep_heapP ?_; rintro _ ⟨⟨x9, rfl, ha9, hs9, hp9⟩⟩) | refine dep_nil ?_)); first | exact vc_skip rfl | exact vc_alloc rfl | exact vc_box rfl rfl rfl | exact vc_buildSlice rfl rfl rfl rfl | exact vc_makeSlice (by omega) (by omega) rfl rfl rfl | exact vc_store rfl rfl rfl rfl rfl rfl rfl rfl rfl rfl | (apply vc_heapP rfl; refine does_funRX en7 rfl (by repeat' (exact SceneH.up (by assumption) hm)) (toSceneC_ok _ (by assumption)) ?_; exact fun _ _ hx hr => ⟨hx, hr⟩) | (apply vc_run rfl; (first | (show Does _ (.call _) _ _ _ _; (((refine does_funX en14 rfl (G.toBucket_ok bx by_ bw bh) ?_)))) | (show Does _ (.load _ _) _ _ _ _; (first | refine does_loadOA 0 hm rfl rfl rfl ?_ | refine does_loadOA 1 hm rfl rfl rfl ?_))); (first | exact ⟨ext_refl _, rfl⟩ | exact fun _ hx => ⟨hx, rfl⟩)))))); (case hup => kernel_rfl); (case hown => kernel_rfl); (case hmono => (repeat constructor)); clear h hm a; intro  w hm; (try simp only [List.map_nil, List.nil_append] at hm); (repeat (first | refine dep_val ?_ | (refine dep_heapP ?_; rintro _ ⟨⟨x9, rfl, ha9, hs9, hp9⟩⟩) | refine dep_nil ?_)); intro a h; (try simp only [Value.cells, List.toList_toArray, splice, List.set_cons_zero, List.set_cons_succ, List.drop_zero, List.drop_succ_cons, List.take_succ_cons, List.take_zero, Nat.zero_add, Nat.reduceAdd, Nat.reduceMul, Int.reduceAdd, Int.reduceToNat, Int.reduceTMod, Nat.zero_mul, Nat.one_mul, Int.toNat_natCast] at h)))
  have hS := sCand_ok x9 bx by_ bw bh hs9 (bdS_of ha9 hbx.each)
  rw [ha9] at hS
  refine st_op rfl rfl h ?_; clear h a; refine does_funN hm en13 rfl hS hp9 ?_; clear hm; intro v w hm a h
  obtain ⟨B1, p1, c1, hB1, hmx, rfl, hc1, hc2, hs1⟩ := hm.frozen (fun _ => rfl) (by omega)
  clear hm
  have hm := hmx
  clear hmx
  replace hx := hx.mono hB1
  repeat' (first | refine c_seq ?_ | refine c_region ?_ | refine c_nil ?_ | refine k_then ?_ | ((refine st_op rfl rfl h ?_); clear h a; (first | (show Does _ (.assign _) _ _ _ _; refine does_assign rfl ?_) | (show Does _ (.load _ _) _ _ _ _; (refine za hm rfl rfl ?_))); intro a h; (try simp only [Value.cells, splice, nz, Nat.reduceAdd, Nat.reduceMul, Int.reduceAdd, Int.reduceToNat, Int.reduceTMod] at h)))
  refine st_op rfl rfl h ?_; clear h a; refine does_funG hm en7 rfl (toSceneG_ok x hsx) (hx.up hm) ?_; clear hm; rintro v L1 w ⟨x3, rfl, ha3, rfl⟩ hm a h
  have hs3 := smSc_of ha3 hsx
  replace hm := hm.perm List.perm_append_comm
  simp only [List.cons_append, List.nil_append] at hm
  have hI := iCand_ok x3 bx by_ bw bh hs3
  rw [ha3] at hI
  repeat' (first | refine c_seq ?_ | refine c_nil ?_ | refine k_then ?_ | (((refine st_op (d := 7) rfl rfl h ?_; refine does_alloc hm ?_; clear h a hm; intro b_7 w hm a h)); (try simp only [Value.cells, splice, nz, Nat.reduceAdd, Nat.reduceMul, Int.reduceAdd, Int.reduceToNat, Int.reduceTMod] at h)) | ((first | refine st_op rfl rfl h ?_ | refine st_opn rfl h ?_); clear h a; ((show Does _ (.store _ _ _) _ _ _ _; ((refine zs hm rfl rfl rfl rfl rfl rfl ?_); clear hm; intro w hm; (try simp only [Value.cells, splice, nz, ns, Nat.reduceAdd, Nat.reduceMul, Int.reduceAdd, Int.reduceToNat] at hm)))); intro a h; (try simp only [Value.cells, splice, nz, Nat.reduceAdd, Nat.reduceMul, Int.reduceAdd, Int.reduceToNat, Int.reduceTMod] at h)) | (apply c_drawM (id := 7) 3 [.val _, .val _, .val _] mixed (by kernel_rfl) (h := h) (hm := hm); (case vcs => (repeat' (first | exact vcs_nil | refine vcs_cons ?_ ?_ | (intro w hm; (repeat (first | refine dep_val ?_ | refine dep_nil ?_)); first | exact vc_skip rfl | exact vc_alloc rfl | exact vc_box rfl rfl rfl | exact vc_buildSlice rfl rfl rfl rfl | exact vc_makeSlice (by omega) (by omega) rfl rfl rfl | exact vc_store rfl rfl rfl rfl rfl rfl rfl rfl rfl rfl | (apply vc_run rfl; (first | (show Does _ (.call _) _ _ _ _; (((refine does_funX en14 rfl (G.toBucket_ok bx by_ bw bh) ?_)))) | (show Does _ (.load _ _) _ _ _ _; (first | refine does_loadOA 0 hm rfl rfl rfl ?_ | refine does_loadOA 1 hm rfl rfl rfl ?_))); (first | exact ⟨ext_refl _, rfl⟩ | exact fun _ hx => ⟨hx, rfl⟩)))))); (case hup => kernel_rfl); (case hown => kernel_rfl); (case hnp => kernel_rfl); clear h hm a; intro  w hm; (try simp only [List.map_nil, List.nil_append] at hm); (repeat (first | refine dep_val ?_ | refine dep_nil ?_)); intro a h; (try simp only [Value.cells, List.toList_toArray, splice, List.set_cons_zero, List.set_cons_succ, List.drop_zero, List.drop_succ_cons, List.take_succ_cons, List.take_zero, Nat.zero_add, Nat.reduceAdd, Nat.reduceMul, Int.reduceAdd, Int.reduceToNat, Int.reduceTMod, Nat.zero_mul, Nat.one_mul, Int.toNat_natCast] at h)))
  refine st_op rfl rfl h ?_; clear h a; refine does_funN hm en15 rfl hI (own_sceneS hm (by repeat' (first | exact List.Sublist.refl _ | refine List.Sublist.cons _ ?_))) ?_; clear hm; intro v w hm a h
  obtain ⟨p4, c4, rfl, hc4, hcm4⟩ := row_slice (i := 0) hm rfl (fun _ => rfl) (by omega)
  repeat' (first | refine c_seq ?_ | refine c_region ?_ | refine c_nil ?_ | refine k_then ?_ | refine c_skip ?_ | refine c_condF h rfl ?_ | ((refine st_op rfl rfl h ?_); clear h a; (first | (show Does _ (.call _) _ _ _ _; (first | ((refine does_funP hm en16 rfl (FunP.yes (eqIntN_ok _ _ (candO (aSc x) bx by_ bw bh) (candO (aSc x) bx by_ bw bh) _ _ (by simp only [maxLen]; omega)) rfl) ⟨row_sl 0 hm rfl (fun _ => rfl) (by omega), by first | assumption | exact Sl.up (by assumption) hm⟩ ?_; clear hm; intro w hm)) | ((refine does_funP hm en10 rfl (eqScene_same x3 x9 (by rw [ha3, ha9]) hs3) ⟨own_sceneS hm (by repeat' (first | exact List.Sublist.refl _ | refine List.Sublist.cons _ ?_)), hp9⟩ ?_; clear hm; intro w hm)))) | (show Does _ (.move _) _ _ _ _; refine does_move rfl ?_) | (show Does _ (.assign _) _ _ _ _; refine does_assign rfl ?_) | (show Does _ (.load _ _) _ _ _ _; (refine za hm rfl rfl ?_)) | (show Does _ (.unOp _ _ _) _ _ _ _; (refine does_not rfl ?_))); intro a h; (try simp only [Value.cells, splice, nz, Nat.reduceAdd, Nat.reduceMul, Int.reduceAdd, Int.reduceToNat, Int.reduceTMod] at h)) | (apply c_drawP (id := 10) 3 [.val _, .val _, heapP _] mixed (by kernel_rfl) (h := h) (hm := hm); (case vcs => (repeat' (first | exact vcs_nil | refine vcs_cons ?_ ?_ | (intro w hm; (repeat (first | refine dep_val ?_ | refine dep_nil ?_)); first | exact vc_skip rfl | exact vc_alloc rfl | exact vc_box rfl rfl rfl | exact vc_buildSlice rfl rfl rfl rfl | exact vc_makeSlice (by omega) (by omega) rfl rfl rfl | exact vc_store rfl rfl rfl rfl rfl rfl rfl rfl rfl rfl | (apply vc_heapP rfl; refine does_funRX en7 rfl (by repeat' (exact SceneH.up (by assumption) hm)) (toSceneC_ok _ (by assumption)) ?_; exact fun _ _ hx hr => ⟨hx, hr⟩) | (apply vc_run rfl; ((show Does _ (.load _ _) _ _ _ _; (first | refine does_loadOA 1 hm rfl rfl rfl ?_ | refine does_loadOA 3 hm rfl rfl rfl ?_))); (exact ⟨ext_refl _, rfl⟩)))))); (case hup => kernel_rfl); (case hown => kernel_rfl); (case hmono => (repeat constructor)); clear h hm a; intro  w hm; (try simp only [List.map_nil, List.nil_append] at hm); (repeat (first | refine dep_val ?_ | (refine dep_heapP ?_; rintro _ ⟨⟨x9, rfl, ha9, hs9, hp9⟩⟩) | refine dep_nil ?_)); intro a h; (try simp only [Value.cells, List.toList_toArray, splice, List.set_cons_zero, List.set_cons_succ, List.drop_zero, List.drop_succ_cons, List.take_succ_cons, List.take_zero, Nat.zero_add, Nat.reduceAdd, Nat.reduceMul, Int.reduceAdd, Int.reduceToNat, Int.reduceTMod, Nat.zero_mul, Nat.one_mul, Int.toNat_natCast] at h)))
  replace hm := hm.perm (List.perm_append_comm (l₁ := [_, _, _, _]) (l₂ := scnL x3))
  refine st_op rfl rfl h ?_; clear h a; refine does_funL (L0 := scnL x3) hm en11 rfl (markScene_D x3 1 (by omega) hs3) trivial ?_; clear hm; rintro _ _ w ⟨rfl, m1, rfl, hm1, hm2⟩ hm a h; simp only [List.cons_append, List.nil_append] at hm
  repeat' (first | refine c_seq ?_ | refine c_region ?_ | refine c_nil ?_ | refine k_then ?_ | refine c_skip ?_ | refine c_condF h rfl ?_ | ((refine st_op rfl rfl h ?_); clear h a; (first | (show Does _ (.call _) _ _ _ _; (((refine does_funP hm en16 rfl (FunP.yes (eqIntN_ok _ _ (candO (aSc x) bx by_ bw bh) (candO (aSc x) bx by_ bw bh) _ _ (by simp only [maxLen]; omega)) rfl) ⟨row_sl 0 hm rfl (fun _ => rfl) (by omega), by first | assumption | exact Sl.up (by assumption) hm⟩ ?_; clear hm; intro w hm)))) | (show Does _ (.move _) _ _ _ _; refine does_move rfl ?_) | (show Does _ (.assign _) _ _ _ _; refine does_assign rfl ?_) | (show Does _ (.pick _ _ _) _ _ _ _; (refine does_pickF rfl rfl ?_)) | (show Does _ (.binOp _ _ _ _ _) _ _ _ _; (refine zlss rfl rfl ?_)) | (show Does _ (.unOp _ _ _) _ _ _ _; (refine does_not rfl ?_))); intro a h; (try simp only [Value.cells, splice, nz, Nat.reduceAdd, Nat.reduceMul, Int.reduceAdd, Int.reduceToNat, Int.reduceTMod] at h)))
  refine st_op rfl rfl h ?_; clear h a; refine does_funW 0 hm en17 rfl (markIntS_ok _ _ 1 (by omega) (by omega)) rfl ?_; clear hm; intro w hm a h; simp only [List.set_cons_zero, List.set_cons_succ] at hm
  repeat' (first | refine c_seq ?_ | refine c_region ?_ | refine c_nil ?_ | refine k_then ?_ | refine c_skip ?_ | refine c_condF h rfl ?_ | ((refine st_op rfl rfl h ?_); clear h a; (first | (show Does _ (.call _) _ _ _ _; (((refine does_funP hm en18 rfl (heldIntS_ok _ _ _ 1 (by omega) (by omega)) (row_sl 0 hm rfl (fun _ => rfl) (by omega)) ?_; clear hm; intro w hm)))) | (show Does _ (.move _) _ _ _ _; refine does_move rfl ?_) | (show Does _ (.assign _) _ _ _ _; refine does_assign rfl ?_) | (show Does _ (.binOp _ _ _ _ _) _ _ _ _; (first | refine zlss rfl rfl ?_ | refine zneq rfl rfl ?_))); intro a h; (try simp only [Value.cells, splice, nz, Nat.reduceAdd, Nat.reduceMul, Int.reduceAdd, Int.reduceToNat, Int.reduceTMod] at h)) | (apply c_drawP (id := 24) 4 [.val _, heapP _, .val _, .val _] mixed (by kernel_rfl) (h := h) (hm := hm); (case vcs => (repeat' (first | exact vcs_nil | refine vcs_cons ?_ ?_ | (intro w hm; (repeat (first | refine dep_val ?_ | (refine dep_heapP ?_; rintro _ ⟨⟨x9, rfl, ha9, hs9, hp9⟩⟩) | refine dep_nil ?_)); first | exact vc_skip rfl | exact vc_alloc rfl | exact vc_box rfl rfl rfl | exact vc_buildSlice rfl rfl rfl rfl | exact vc_makeSlice (by omega) (by omega) rfl rfl rfl | exact vc_store rfl rfl rfl rfl rfl rfl rfl rfl rfl rfl | (apply vc_heapP rfl; refine does_funRX en7 rfl (by repeat' (exact SceneH.up (by assumption) hm)) (toSceneC_ok _ (by assumption)) ?_; exact fun _ _ hx hr => ⟨hx, hr⟩) | (apply vc_run rfl; (first | (show Does _ (.call _) _ _ _ _; (((refine does_funX en14 rfl (G.toBucket_ok bx by_ bw bh) ?_)))) | (show Does _ (.load _ _) _ _ _ _; (first | refine does_loadOA 2 hm rfl rfl rfl ?_ | refine does_loadOA 3 hm rfl rfl rfl ?_))); (first | exact ⟨ext_refl _, rfl⟩ | exact fun _ hx => ⟨hx, rfl⟩)))))); (case hup => kernel_rfl); (case hown => kernel_rfl); (case hmono => (repeat constructor)); clear h hm a; intro  w hm; (try simp only [List.map_nil, List.nil_append] at hm); (repeat (first | refine dep_val ?_ | (refine dep_heapP ?_; rintro _ ⟨⟨x9, rfl, ha9, hs9, hp9⟩⟩) | refine dep_nil ?_)); intro a h; (try simp only [Value.cells, List.toList_toArray, splice, List.set_cons_zero, List.set_cons_succ, List.drop_zero, List.drop_succ_cons, List.take_succ_cons, List.take_zero, Nat.zero_add, Nat.reduceAdd, Nat.reduceMul, Int.reduceAdd, Int.reduceToNat, Int.reduceTMod, Nat.zero_mul, Nat.one_mul, Int.toNat_natCast] at h)))
  have hI9 := iCand_ok x9 bx by_ bw bh hs9
  rw [ha9] at hI9
  refine st_op rfl rfl h ?_; clear h a; refine does_funN hm en15 rfl hI9 hp9 ?_; clear hm; intro v w hm a h
  obtain ⟨p5, c5, rfl, hc5, hcm5⟩ := row_slice (i := 0) hm rfl (fun _ => rfl) (by omega)
  repeat' (first | refine c_seq ?_ | refine c_region ?_ | refine c_nil ?_ | refine k_then ?_ | refine c_skip ?_ | refine c_ret ?_ | refine c_condF h rfl ?_ | ((refine st_op rfl rfl h ?_); clear h a; (first | (show Does _ (.call _) _ _ _ _; (first | ((refine does_funP hm en16 rfl (FunP.yes (eqIntN_ok _ _ (candO (aSc x) bx by_ bw bh) (candO (aSc x) bx by_ bw bh) _ _ (by simp only [maxLen]; omega)) rfl) ⟨row_sl 0 hm rfl (fun _ => rfl) (by omega), by first | assumption | exact Sl.up (by assumption) hm⟩ ?_; clear hm; intro w hm)) | ((refine does_funP hm en18 rfl (heldIntS_ok _ _ _ 1 (by omega) (by omega)) (row_sl 1 hm rfl (fun _ => rfl) (by omega)) ?_; clear hm; intro w hm)))) | (show Does _ (.move _) _ _ _ _; refine does_move rfl ?_) | (show Does _ (.assign _) _ _ _ _; refine does_assign rfl ?_) | (show Does _ (.binOp _ _ _ _ _) _ _ _ _; (first | refine zlss rfl rfl ?_ | refine zneq rfl rfl ?_)) | (show Does _ (.unOp _ _ _) _ _ _ _; (refine does_not rfl ?_))); intro a h; (try simp only [Value.cells, splice, nz, Nat.reduceAdd, Nat.reduceMul, Int.reduceAdd, Int.reduceToNat, Int.reduceTMod] at h)))
  all_goals (refine k_ret1 rfl h rfl ⟨?_, hm.below⟩)
  all_goals first | rfl | exact absurd rfl hc
end Go.Proofs.YtbcboklmeifghaaGreat.St
namespace Go.Proofs.YtbcboklmeifghaaGreat.fnExactCandidates
open Go.ChangeShapes Go.WideShapes Go.ChangeAt Go.RowKit Go.Proofs.YtbcboklmeifghaaGreat.St
set_option linter.unusedVariables false
theorem own : ownKnob Tryz.prog.godebug = none := by kernel_rfl
theorem laid : laidOutB Tryz.prog = true := by kernel_rfl
set_option maxRecDepth 100000 in
theorem lifted (os : Os) (started : os.Started) (H : Type) (enc : TypeId × Value → H) :
    ReturnsInHanded {} Tryz.checked os 4 .any (Rows.fnExactCandidatesSpec.pre6 enc Tryz.prog Tryz.f4 Rows.fnExactCandidatesRow.domain false) (Rows.fnExactCandidatesSpec.post enc Tryz.prog Tryz.f4 false true false false) := by
  refine returnsInHanded_of_change (C := Tryz.checked) own started (by kernel_rfl) Tryz.func4
    (ChangeSpec.witness6 (enc := enc) (C := Tryz.checked) false ⟨#[], #[.agg #[.int .i64 0, .int .i64 0, .int .i64 0, .int .i64 0, .bool false, .int .i64 0, .int .i64 0, .int .i64 0, .slice none 0 0, .slice none 0 0, .slice none 0 0, .int .i64 0], .agg #[.int .i64 0, .int .i64 0, .int .i64 0, .int .i64 0]], []⟩ 8 (by kernel_rfl) (by kernel_rfl) (by kernel_rfl) (by kernel_rfl)) ?_
  intro W base args ds gs before hval0 hW hcnd _
  have hval : ∀ (j : Nat) t v, Tryz.f4.params[j]? = some t → args[j]? = some v → Value.okWide Tryz.prog W .any base t v := hval0
  have hW1 := hW
  obtain ⟨p, q, hA0, hV, hbe, hfz, hnd⟩ := hW1
  have hA : DataW.TrodAll enc Tryz.prog W 0 (fun _ => true) true Tryz.f4.params.toList args.toList ds p := hA0
  rw [Tryz.params4] at hA hval
  obtain ⟨v0, vs0, d0, ds0, p0, q0, hg0, hd0, hp0, h0, r0⟩ := trodAll_cons hA
  obtain ⟨v1, vs1, d1, ds1, p1, q1, hg1, hd1, hp1, h1, r1⟩ := trodAll_cons r0
  obtain ⟨hgz, hdz, hpz⟩ := trodAll_nil r1
  rw [hgz] at hg1
  rw [hdz] at hd1
  rw [hg1] at hg0
  rw [hd1] at hd0
  obtain rfl : args = #[v0, v1] := by cases args; simp_all
  subst hd0
  obtain ⟨cs0, rfl, f0⟩ := openAgg (n := 9) (ks := [.int .i64, .int .i64, .int .i64, .int .i64, .bool, .int .i64, .int .i64, .int .i64, .cell 24, .cell 27, .cell 28, .int .i64]) (by kernel_rfl) (by kernel_rfl) (hval 0 30 v0 rfl rfl) h0
  obtain ⟨a0_0, c0_0, rfl, b0_0, f0_1⟩ := fits_i64 f0
  obtain ⟨a0_1, c0_1, rfl, b0_1, f0_2⟩ := fits_i64 f0_1
  obtain ⟨a0_2, c0_2, rfl, b0_2, f0_3⟩ := fits_i64 f0_2
  obtain ⟨a0_3, c0_3, rfl, b0_3, f0_4⟩ := fits_i64 f0_3
  obtain ⟨a0_4, c0_4, rfl, f0_5⟩ := fits_bool f0_4
  obtain ⟨a0_5, c0_5, rfl, b0_5, f0_6⟩ := fits_i64 f0_5
  obtain ⟨a0_6, c0_6, rfl, b0_6, f0_7⟩ := fits_i64 f0_6
  obtain ⟨a0_7, c0_7, rfl, b0_7, f0_8⟩ := fits_i64 f0_7
  obtain ⟨a0_8, c0_8, rfl, ⟨u0_8, x0_8, g0_8⟩, f0_9⟩ := fits_cell f0_8
  obtain ⟨a0_9, c0_9, rfl, ⟨u0_9, x0_9, g0_9⟩, f0_10⟩ := fits_cell f0_9
  obtain ⟨a0_10, c0_10, rfl, ⟨u0_10, x0_10, g0_10⟩, f0_11⟩ := fits_cell f0_10
  obtain ⟨a0_11, c0_11, rfl, b0_11, f0_12⟩ := fits_i64 f0_11
  obtain rfl := fits_nil f0_12
  obtain ⟨cs1, rfl, f1⟩ := openAgg (n := 9) (ks := [.int .i64, .int .i64, .int .i64, .int .i64]) (by kernel_rfl) (by kernel_rfl) (hval 1 59 v1 rfl rfl) h1
  obtain ⟨a1_0, c1_0, rfl, b1_0, f1_1⟩ := fits_i64 f1
  obtain ⟨a1_1, c1_1, rfl, b1_1, f1_2⟩ := fits_i64 f1_1
  obtain ⟨a1_2, c1_2, rfl, b1_2, f1_3⟩ := fits_i64 f1_2
  obtain ⟨a1_3, c1_3, rfl, b1_3, f1_4⟩ := fits_i64 f1_3
  obtain rfl := fits_nil f1_4
  obtain ⟨tp0, tx0, tc0, rfl, tl0, tn0, ti0, tb0⟩ := openIntN Tryz.underlying24 (by kernel_rfl) (by kernel_rfl) g0_8
  obtain ⟨sp0, sh0, sc0, rfl, sl0, sn0, si0, sb0⟩ := openProgramS Tryz.underlying27 (by kernel_rfl) (by kernel_rfl) Tryz.underlying95 (by kernel_rfl) (by kernel_rfl) Tryz.underlying24 (by kernel_rfl) (by kernel_rfl) Tryz.underlying96 (by kernel_rfl) (by kernel_rfl) g0_9
  obtain ⟨up0, su0, uc0, rfl, ul0, un0, ui0⟩ := openSurfaceS Tryz.underlying28 (by kernel_rfl) (by kernel_rfl) g0_10
  refine ((lwCandidates ⟨a0_0, a0_1, a0_2, a0_3, a0_4, a0_5, a0_6, a0_7, tx0, tp0, tc0, sh0, sp0, sc0, su0, up0, uc0, a0_11⟩ a1_0 a1_1 a1_2 a1_3 ⟨by simp only [maxLen] at tn0 ⊢; omega, by simp only [maxLen] at sn0 ⊢; omega, sb0, by simp only [maxLen] at un0 ⊢; omega⟩).out W ⟨ti0, si0, ui0⟩).mono fun e W2 ⟨he, hx⟩ => ?_
  subst he
  exact ⟨_, rfl, law_post (t := 4) laid (by kernel_rfl) (by kernel_rfl) Tryz.underlying4 rfl hW rfl hx⟩
theorem closed : joinedFacts Tryz.prog 4 Tryz.f4 Rows.fnExactCandidatesSpec Rows.fnExactCandidatesRow = true := by
  rw [joinedFacts, Facts.mayEnter_t, Facts.lifts_t, Facts.make_t]
  kernel_rfl
theorem over : Rows.fnExactCandidatesRow.holds Tryz.pinned (OpenSpec.ofChange Rows.fnExactCandidatesSpec) :=
  OpenClaim.holds_of_wide 4 Tryz.f4 rfl rfl rfl rfl rfl rfl rfl ⟨rfl, rfl, rfl, rfl, rfl⟩ rfl rfl rfl rfl rfl (by kernel_rfl) Tryz.func4 closed
    (of_decide_eq_true (by kernel_rfl)) (by unfold Func.isWrapper; first | (rw [if_pos (by decide +kernel)]; kernel_rfl) | (rw [if_neg (by decide +kernel)]; exact ⟨rfl, rfl⟩))
    (fun os started H enc _ => lifted os started H enc)
theorem proved : Rows.FnExactCandidatesSaid := over
#print axioms proved
end Go.Proofs.YtbcboklmeifghaaGreat.fnExactCandidates
