/-
  The program's DepthOrder returns what the reference's returns, for all arguments. No condition.
-/
import Derived.Test.YtaiiiendfcglmaaLDos
import Derived.Test.YtaiiiendfcglmaaLMkS
import Derived.Test.YtaiiiendfcglmaaJ4
import Derived.Test.YtaiiiendfcglmaaJ1
import Derived.Test.YtaiiiendfcglmaaStCat
import Derived.Test.YtaiiiendfcglmaaStZip
set_option linter.unusedSimpArgs false
set_option linter.unusedVariables false
namespace Go.Proofs.Ytaiiiendfcglmaa.St
open Go.RowKit
theorem su_of {x y : TScene} (h : aSc x = aSc y) : x.su = y.su := congrArg PScene.su h
set_option maxHeartbeats 16000000 in
theorem lwDepthOrder (x : TScene) (p : Option Addr) (l : List Int) (c : Nat) (hbx : bdSc x) (hl9 : l.length ≤ 9223372036854775807) : FunP Try.prog 3 [.agg (eSc x).toArray, .slice p l.length c] (fun H => SceneH H x ∧ Sl H p eI 1 l) (.bool true) := by
  refine enterFunP Try.func3 rfl Try.ntmps3 rfl (fun W0 w a hp hm h => ?_)
  obtain ⟨hx, hy⟩ := hp
  by_cases hl : l.length ≤ 1048576
  · repeat' (first | refine c_seq ?_ | refine c_region ?_ | refine c_nil ?_ | refine k_then ?_ | refine k_thenR ?_ | refine c_skip ?_ | refine c_ret ?_ | refine c_condF h rfl ?_ | (((refine st_op (d := 2) rfl rfl h ?_; refine does_box hm rfl rfl ?_; clear h a hm; intro b_2 w hm a h)); (try simp only [Value.cells, splice, nz, Nat.reduceAdd, Nat.reduceMul, Int.reduceAdd, Int.reduceToNat, Int.reduceTMod] at h)) | ((refine st_op rfl rfl h ?_); clear h a; (first | (show Does _ (.call _) _ _ _ _; (first | ((refine does_funVal hm en4 rfl (szScene_ok x _ hbx (by omega)) (hx.up hm) ?_; clear hm; rintro v w ⟨r1, rfl, hr1⟩ hm)) | refine does_lenS (SliceT.out) rfl ?_)) | (show Does _ (.move _) _ _ _ _; refine does_move rfl ?_) | (show Does _ (.assign _) _ _ _ _; refine does_assign rfl ?_) | (show Does _ (.load _ _) _ _ _ _; (refine za hm rfl rfl ?_)) | (show Does _ (.binOp _ _ _ _ _) _ _ _ _; (first | refine zlss rfl rfl ?_ | refine zgtr rfl rfl ?_))); intro a h; (try simp only [Value.cells, splice, nz, Nat.reduceAdd, Nat.reduceMul, Int.reduceAdd, Int.reduceToNat, Int.reduceTMod] at h)) | ((refine c_condD h rfl ?_ ?_) <;> intro hc <;> (try (fail))))
    all_goals first | ((refine k_ret1 rfl h rfl ⟨?_, hm.below⟩); rfl) | skip
    have hsx := (hr1.resolve_left (by omega)).2
    clear hr1 hc
    refine st_op rfl rfl h ?_; clear h a; refine does_funR hm en6 rfl (toSceneC_ok x hsx) (hx.up hm) ?_; clear hm; rintro v w N B1 hB1 hN1 ⟨⟨x1, rfl, ha1, hs1, hp1⟩⟩ hm a h
    replace hp1 := hp1.mono hN1
    replace hx := hx.mono hB1
    replace hy := hy.mono hB1
    repeat' (((refine st_op rfl rfl h ?_); clear h a; ((show Does _ (.move _) _ _ _ _; refine does_move rfl ?_)); intro a h; (try simp only [Value.cells, splice, nz, Nat.reduceAdd, Nat.reduceMul, Int.reduceAdd, Int.reduceToNat, Int.reduceTMod] at h)))
    refine st_op rfl rfl h ?_; clear h a; refine does_funN hm en7 rfl (toIntN_ok p l c (by omega)) (hy.up hm) ?_; clear hm; intro v w hm a h
    obtain ⟨B2, p1, c1, hB2, hmx, hveq, hc11, hc12, hl1⟩ := hm.frozen (xs := l) (fun _ => rfl) (by omega)
    clear hm
    have hm := hmx
    clear hmx
    subst hveq
    replace hp1 := hp1.mono hB2
    replace hx := hx.mono hB2
    replace hy := hy.mono hB2
    repeat' (fail)
    refine st_op rfl rfl h ?_; clear h a; refine does_funG hm en5 rfl (sDepthOrder_ok x1 p1 l c1 hs1.surf hl) ⟨hp1.up hm, hl1.up hm⟩ ?_; clear hm; rintro v L1 w ⟨C, pC, cC, hd1, rfl, rfl⟩ hm a h; simp only [List.cons_append, List.nil_append] at hm
    obtain ⟨B3, pD, cD, hB3, hmx, hveq, hcD1, hcD2, hsC⟩ := hm.frozen (xs := C) (fun _ => rfl) (by omega)
    clear hm
    have hm := hmx
    clear hmx
    simp only [Value.slice.injEq, true_and] at hveq
    obtain ⟨rfl, rfl⟩ := hveq
    replace hx := hx.mono hB3
    replace hy := hy.mono hB3
    rw [su_of ha1] at hd1
    have hCl := dpP_len hd1
    repeat' (first | refine c_seq ?_ | refine c_region ?_ | refine c_nil ?_ | refine k_then ?_ | ((refine st_op rfl rfl h ?_); clear h a; (first | (show Does _ (.assign _) _ _ _ _; refine does_assign rfl ?_) | (show Does _ (.load _ _) _ _ _ _; (refine za hm rfl rfl ?_))); intro a h; (try simp only [Value.cells, splice, nz, Nat.reduceAdd, Nat.reduceMul, Int.reduceAdd, Int.reduceToNat, Int.reduceTMod] at h)))
    refine st_op rfl rfl h ?_; clear h a; refine does_funG hm en6 rfl (toSceneG_ok x hsx) (hx.up hm) ?_; clear hm; rintro v L1 w ⟨x3, rfl, ha3, rfl⟩ hm a h
    have hs3 := smSc_of ha3 hsx
    replace hm := hm.perm List.perm_append_comm
    simp only [List.cons_append, List.nil_append] at hm
    repeat' (first | refine c_seq ?_ | refine c_region ?_ | refine c_nil ?_ | refine k_then ?_ | (((refine st_op (d := 7) rfl rfl h ?_; refine does_alloc hm ?_; clear h a hm; intro b_7 w hm a h)); (try simp only [Value.cells, splice, nz, Nat.reduceAdd, Nat.reduceMul, Int.reduceAdd, Int.reduceToNat, Int.reduceTMod] at h)) | ((first | refine st_op rfl rfl h ?_ | refine st_opn rfl h ?_); clear h a; (first | (show Does _ (.store _ _ _) _ _ _ _; ((refine zs hm rfl rfl rfl rfl rfl rfl ?_); clear hm; intro w hm; (try simp only [Value.cells, splice, nz, ns, Nat.reduceAdd, Nat.reduceMul, Int.reduceAdd, Int.reduceToNat] at hm))) | (show Does _ (.move _) _ _ _ _; refine does_move rfl ?_)); intro a h; (try simp only [Value.cells, splice, nz, Nat.reduceAdd, Nat.reduceMul, Int.reduceAdd, Int.reduceToNat, Int.reduceTMod] at h)))
    refine st_op rfl rfl h ?_; clear h a; refine does_funN hm en7 rfl (toIntN_ok p l c (by omega)) (hy.up hm) ?_; clear hm; intro v w hm a h
    obtain ⟨p8, c8, rfl, hc81, hc82⟩ := row_slice (i := 0) hm rfl (fun _ => rfl) (by omega)
    repeat' (first | refine c_seq ?_ | refine c_region ?_ | refine c_nil ?_ | refine k_then ?_ | ((refine st_op rfl rfl h ?_); clear h a; (first | (show Does _ (.move _) _ _ _ _; refine does_move rfl ?_) | (show Does _ (.assign _) _ _ _ _; refine does_assign rfl ?_) | (show Does _ (.load _ _) _ _ _ _; (refine za hm rfl rfl ?_))); intro a h; (try simp only [Value.cells, splice, nz, Nat.reduceAdd, Nat.reduceMul, Int.reduceAdd, Int.reduceToNat, Int.reduceTMod] at h)))
    refine st_op rfl rfl h ?_; clear h a; refine does_funG hm en8 rfl (iDepthOrder_ok x3 p8 l c8 hs3.surf hl) ⟨own_sceneS hm (by repeat' (first | exact List.Sublist.refl _ | refine List.Sublist.cons _ ?_)), row_sl 0 hm rfl (fun _ => rfl) (by omega)⟩ ?_; clear hm; rintro v L1 w ⟨C2, p9, c9, hd2, rfl, rfl⟩ hm a h; simp only [List.cons_append, List.nil_append] at hm
    rw [su_of ha3] at hd2
    obtain rfl := dpP_inj hd1 hd2
    clear hd2
    repeat' (first | refine c_seq ?_ | refine c_region ?_ | refine c_nil ?_ | refine k_then ?_ | refine c_skip ?_ | refine c_condF h rfl ?_ | ((refine st_op rfl rfl h ?_); clear h a; (first | (show Does _ (.call _) _ _ _ _; (first | ((refine does_funP hm en9 rfl (FunP.yes (eqIntN_ok _ _ C C _ _ (by simp only [maxLen]; omega)) rfl) ⟨row_sl 0 hm rfl (fun _ => rfl) (by omega), hsC.up hm⟩ ?_; clear hm; intro w hm)) | ((refine does_funP hm en10 rfl (eqScene_same x3 x9 (ha3.trans ha9.symm) hs3) ⟨own_sceneS hm (by repeat' (first | exact List.Sublist.refl _ | refine List.Sublist.cons _ ?_)), hp9⟩ ?_; clear hm; intro w hm)) | ((refine does_funN hm en7 rfl (toIntN_ok p l c (by omega)) (hy.up hm) ?_; clear hm; intro v w hm; obtain ⟨p15, c15, rfl, hc151, hc152⟩ := row_slice (i := 0) hm rfl (fun _ => rfl) (by omega))) | ((refine does_funP hm en9 rfl (FunP.yes (eqIntN_ok _ _ l l _ _ (by simp only [maxLen]; omega)) rfl) ⟨row_sl 2 hm rfl (fun _ => rfl) (by omega), row_sl 0 hm rfl (fun _ => rfl) (by omega)⟩ ?_; clear hm; intro w hm)))) | (show Does _ (.move _) _ _ _ _; refine does_move rfl ?_) | (show Does _ (.assign _) _ _ _ _; refine does_assign rfl ?_) | (show Does _ (.load _ _) _ _ _ _; (refine za hm rfl rfl ?_)) | (show Does _ (.unOp _ _ _) _ _ _ _; (refine does_not rfl ?_))); intro a h; (try simp only [Value.cells, splice, nz, Nat.reduceAdd, Nat.reduceMul, Int.reduceAdd, Int.reduceToNat, Int.reduceTMod] at h)) | (apply c_drawP (id := 13) 3 [.val _, .val _, heapP _] mixed (by kernel_rfl) (h := h) (hm := hm); (case vcs => (repeat' (first | exact vcs_nil | refine vcs_cons ?_ ?_ | (intro w hm; (repeat (first | refine dep_val ?_ | refine dep_nil ?_)); first | exact vc_skip rfl | exact vc_alloc rfl | exact vc_box rfl rfl rfl | exact vc_buildSlice rfl rfl rfl rfl | exact vc_makeSlice (by omega) (by omega) rfl rfl rfl | exact vc_store rfl rfl rfl rfl rfl rfl rfl rfl rfl rfl | (apply vc_heapP rfl; refine does_funRX en6 rfl (by repeat' (exact SceneH.up (by assumption) hm)) (toSceneC_ok _ (by assumption)) ?_; exact fun _ _ hx hr => ⟨hx, hr⟩) | (apply vc_run rfl; ((show Does _ (.load _ _) _ _ _ _; (first | refine does_loadOA 2 hm rfl rfl rfl ?_ | refine does_loadOA 3 hm rfl rfl rfl ?_))); (exact ⟨ext_refl _, rfl⟩)))))); (case hup => kernel_rfl); (case hown => kernel_rfl); (case hmono => (repeat constructor)); clear h hm a; intro  w hm; (try simp only [List.map_nil, List.nil_append] at hm); (repeat (first | refine dep_val ?_ | (refine dep_heapP ?_; rintro _ ⟨⟨x9, rfl, ha9, hs9, hp9⟩⟩) | refine dep_nil ?_)); intro a h; (try simp only [Value.cells, List.toList_toArray, splice, List.set_cons_zero, List.set_cons_succ, List.drop_zero, List.drop_succ_cons, List.take_succ_cons, List.take_zero, Nat.zero_add, Nat.reduceAdd, Nat.reduceMul, Int.reduceAdd, Int.reduceToNat, Int.reduceTMod, Nat.zero_mul, Nat.one_mul, Int.toNat_natCast] at h)))
    replace hm := hm.perm (List.perm_append_comm (l₁ := [_, _, _, _, _]) (l₂ := scnL x3))
    refine st_op rfl rfl h ?_; clear h a; refine does_funL (L0 := scnL x3) hm en11 rfl (markScene_D x3 1 (by omega) hs3) trivial ?_; clear hm; rintro _ _ w ⟨rfl, m1, rfl, hm1, hm2⟩ hm a h; simp only [List.cons_append, List.nil_append] at hm
    repeat' (first | refine c_seq ?_ | refine c_region ?_ | refine c_nil ?_ | refine k_then ?_ | ((refine st_op rfl rfl h ?_); clear h a; (first | (show Does _ (.move _) _ _ _ _; refine does_move rfl ?_) | (show Does _ (.assign _) _ _ _ _; refine does_assign rfl ?_)); intro a h; (try simp only [Value.cells, splice, nz, Nat.reduceAdd, Nat.reduceMul, Int.reduceAdd, Int.reduceToNat, Int.reduceTMod] at h)))
    refine st_op rfl rfl h ?_; clear h a; refine does_funW 2 hm en12 rfl (markIntS_ok _ _ m1 (by omega) (by omega)) rfl ?_; clear hm; intro w hm a h; simp only [List.set_cons_zero, List.set_cons_succ] at hm
    repeat' (first | refine c_seq ?_ | refine c_region ?_ | refine c_nil ?_ | refine k_then ?_ | refine c_skip ?_ | refine c_condF h rfl ?_ | ((refine st_op rfl rfl h ?_); clear h a; (first | (show Does _ (.call _) _ _ _ _; (((refine does_funP hm en9 rfl (FunP.yes (eqIntN_ok _ _ C C _ _ (by simp only [maxLen]; omega)) rfl) ⟨row_sl 1 hm rfl (fun _ => rfl) (by omega), hsC.up hm⟩ ?_; clear hm; intro w hm)))) | (show Does _ (.move _) _ _ _ _; refine does_move rfl ?_) | (show Does _ (.assign _) _ _ _ _; refine does_assign rfl ?_) | (show Does _ (.pick _ _ _) _ _ _ _; (refine does_pickF rfl rfl ?_)) | (show Does _ (.binOp _ _ _ _ _) _ _ _ _; (refine zlss rfl rfl ?_)) | (show Does _ (.unOp _ _ _) _ _ _ _; (refine does_not rfl ?_))); intro a h; (try simp only [Value.cells, splice, nz, Nat.reduceAdd, Nat.reduceMul, Int.reduceAdd, Int.reduceToNat, Int.reduceTMod] at h)))
    refine st_op rfl rfl h ?_; clear h a; refine does_funW 1 hm en12 rfl (markIntS_ok _ _ 1 (by omega) (by omega)) rfl ?_; clear hm; intro w hm a h; simp only [List.set_cons_zero, List.set_cons_succ] at hm
    repeat' (first | refine c_seq ?_ | refine c_region ?_ | refine c_nil ?_ | refine k_then ?_ | refine c_skip ?_ | refine c_condF h rfl ?_ | ((refine st_op rfl rfl h ?_); clear h a; (first | (show Does _ (.call _) _ _ _ _; (((refine does_funP hm en13 rfl (heldIntS_ok _ _ _ 1 (by omega) (by omega)) (row_sl 1 hm rfl (fun _ => rfl) (by omega)) ?_; clear hm; intro w hm)))) | (show Does _ (.move _) _ _ _ _; refine does_move rfl ?_) | (show Does _ (.assign _) _ _ _ _; refine does_assign rfl ?_) | (show Does _ (.load _ _) _ _ _ _; (refine za hm rfl rfl ?_)) | (show Does _ (.binOp _ _ _ _ _) _ _ _ _; (first | refine zlss rfl rfl ?_ | refine zneq rfl rfl ?_))); intro a h; (try simp only [Value.cells, splice, nz, Nat.reduceAdd, Nat.reduceMul, Int.reduceAdd, Int.reduceToNat, Int.reduceTMod] at h)))
    refine st_op rfl rfl h ?_; clear h a; refine does_funR hm en6 rfl (toSceneC_ok x hsx) (hx.up hm) ?_; clear hm; rintro v w N B4 hB4 hN4 ⟨⟨x5, rfl, ha5, hs5, hp5⟩⟩ hm a h
    replace hp5 := hp5.mono hN4
    replace hy := hy.mono hB4
    replace hsC := hsC.mono hB4
    repeat' (((refine st_op rfl rfl h ?_); clear h a; ((show Does _ (.move _) _ _ _ _; refine does_move rfl ?_)); intro a h; (try simp only [Value.cells, splice, nz, Nat.reduceAdd, Nat.reduceMul, Int.reduceAdd, Int.reduceToNat, Int.reduceTMod] at h)))
    refine st_op rfl rfl h ?_; clear h a; refine does_funN hm en7 rfl (toIntN_ok p l c (by omega)) (hy.up hm) ?_; clear hm; intro v w hm a h
    obtain ⟨B5, p30, c30, hB5, hmx, hveq, hc301, hc302, hl30⟩ := hm.frozen (xs := l) (fun _ => rfl) (by omega)
    clear hm
    have hm := hmx
    clear hmx
    subst hveq
    replace hp5 := hp5.mono hB5
    replace hsC := hsC.mono hB5
    repeat' (fail)
    refine st_op rfl rfl h ?_; clear h a; refine does_funG hm en8 rfl (iDepthOrder_ok x5 p30 l c30 hs5.surf hl) ⟨hp5.up hm, hl30.up hm⟩ ?_; clear hm; rintro v L1 w ⟨C3, p31, c31, hd3, rfl, rfl⟩ hm a h; simp only [List.cons_append, List.nil_append] at hm
    rw [su_of ha5] at hd3
    obtain rfl := dpP_inj hd1 hd3
    clear hd3
    repeat' (first | refine c_seq ?_ | refine c_region ?_ | refine c_nil ?_ | refine k_then ?_ | refine c_skip ?_ | refine c_ret ?_ | refine c_condF h rfl ?_ | ((refine st_op rfl rfl h ?_); clear h a; (first | (show Does _ (.call _) _ _ _ _; (first | ((refine does_funP hm en9 rfl (FunP.yes (eqIntN_ok _ _ C C _ _ (by simp only [maxLen]; omega)) rfl) ⟨row_sl 0 hm rfl (fun _ => rfl) (by omega), hsC.up hm⟩ ?_; clear hm; intro w hm)) | ((refine does_funP hm en13 rfl (heldIntS_ok _ _ _ 1 (by omega) (by omega)) (row_sl 2 hm rfl (fun _ => rfl) (by omega)) ?_; clear hm; intro w hm)))) | (show Does _ (.move _) _ _ _ _; refine does_move rfl ?_) | (show Does _ (.assign _) _ _ _ _; refine does_assign rfl ?_) | (show Does _ (.binOp _ _ _ _ _) _ _ _ _; (first | refine zlss rfl rfl ?_ | refine zneq rfl rfl ?_)) | (show Does _ (.unOp _ _ _) _ _ _ _; (refine does_not rfl ?_))); intro a h; (try simp only [Value.cells, splice, nz, Nat.reduceAdd, Nat.reduceMul, Int.reduceAdd, Int.reduceToNat, Int.reduceTMod] at h)))
    all_goals (refine k_ret1 rfl h rfl ⟨?_, hm.below⟩)
    all_goals first | rfl | exact absurd rfl hc
  · repeat' (first | refine c_seq ?_ | refine c_region ?_ | refine c_nil ?_ | refine k_then ?_ | refine k_thenR ?_ | refine c_ret ?_ | refine c_condT h rfl ?_ | ((refine st_op rfl rfl h ?_); clear h a; (first | (show Does _ (.box _ _) _ _ _ _; (refine does_box hm rfl rfl ?_; clear hm; intro b w hm)) | (show Does _ (.call _) _ _ _ _; (refine does_lenS (SliceT.out) rfl ?_)) | (show Does _ (.move _) _ _ _ _; refine does_move rfl ?_) | (show Does _ (.assign _) _ _ _ _; refine does_assign rfl ?_) | (show Does _ (.binOp _ _ _ _ _) _ _ _ _; (refine zgtr rfl rfl ?_))); intro a h; (try simp only [Value.cells, splice, nz, Nat.reduceAdd, Nat.reduceMul, Int.reduceAdd, Int.reduceToNat, Int.reduceTMod] at h)))
    all_goals (refine k_ret1 rfl h rfl ⟨?_, hm.below⟩)
    all_goals rfl
end Go.Proofs.Ytaiiiendfcglmaa.St
namespace Go.Proofs.Ytaiiiendfcglmaa.fnExactDepthOrder
open Go.ChangeShapes Go.WideShapes Go.ChangeAt Go.RowKit Go.Proofs.Ytaiiiendfcglmaa.St
set_option linter.unusedVariables false
theorem own : ownKnob Try.prog.godebug = none := by kernel_rfl
theorem laid : laidOutB Try.prog = true := by kernel_rfl
set_option maxRecDepth 100000 in
theorem lifted (os : Os) (started : os.Started) (H : Type) (enc : TypeId × Value → H) :
    ReturnsInHanded {} Try.checked os 3 .any (Rows.fnExactDepthOrderSpec.pre6 enc Try.prog Try.f3 Rows.fnExactDepthOrderRow.domain false) (Rows.fnExactDepthOrderSpec.post enc Try.prog Try.f3 false true false false) := by
  refine returnsInHanded_of_change (C := Try.checked) own started (by kernel_rfl) Try.func3
    (ChangeSpec.witness6 (enc := enc) (C := Try.checked) false ⟨#[], #[.agg #[.int .i64 0, .int .i64 0, .int .i64 0, .int .i64 0, .bool false, .int .i64 0, .int .i64 0, .int .i64 0, .slice none 0 0, .slice none 0 0, .slice none 0 0, .int .i64 0], .slice none 0 0], []⟩ 8 (by kernel_rfl) (by kernel_rfl) (by kernel_rfl) (by kernel_rfl)) ?_
  intro W base args ds gs before hval0 hW hcnd _
  have hval : ∀ (j : Nat) t v, Try.f3.params[j]? = some t → args[j]? = some v → Value.okWide Try.prog W .any base t v := hval0
  have hW1 := hW
  obtain ⟨p, q, hA0, hV, hbe, hfz, hnd⟩ := hW1
  have hA : DataW.TrodAll enc Try.prog W 0 (fun _ => true) true Try.f3.params.toList args.toList ds p := hA0
  rw [Try.params3] at hA hval
  obtain ⟨v0, vs0, d0, ds0, p0, q0, hg0, hd0, hp0, h0, r0⟩ := trodAll_cons hA
  obtain ⟨v1, vs1, d1, ds1, p1, q1, hg1, hd1, hp1, h1, r1⟩ := trodAll_cons r0
  obtain ⟨hgz, hdz, hpz⟩ := trodAll_nil r1
  rw [hgz] at hg1
  rw [hdz] at hd1
  rw [hg1] at hg0
  rw [hd1] at hd0
  obtain rfl : args = #[v0, v1] := by cases args; simp_all
  subst hd0
  obtain ⟨cs0, rfl, f0⟩ := openAgg (n := 9) (ks := [.int .i64, .int .i64, .int .i64, .int .i64, .bool, .int .i64, .int .i64, .int .i64, .cell 24, .cell 27, .cell 28, .int .i64]) (by kernel_rfl) (by kernel_rfl) (hval 0 30 v0 rfl rfl) h0
  obtain ⟨a0_0, c0_0, rfl, b0_0, f0_1⟩ := fits_i64 f0
  obtain ⟨a0_1, c0_1, rfl, b0_1, f0_2⟩ := fits_i64 f0_1
  obtain ⟨a0_2, c0_2, rfl, b0_2, f0_3⟩ := fits_i64 f0_2
  obtain ⟨a0_3, c0_3, rfl, b0_3, f0_4⟩ := fits_i64 f0_3
  obtain ⟨a0_4, c0_4, rfl, f0_5⟩ := fits_bool f0_4
  obtain ⟨a0_5, c0_5, rfl, b0_5, f0_6⟩ := fits_i64 f0_5
  obtain ⟨a0_6, c0_6, rfl, b0_6, f0_7⟩ := fits_i64 f0_6
  obtain ⟨a0_7, c0_7, rfl, b0_7, f0_8⟩ := fits_i64 f0_7
  obtain ⟨a0_8, c0_8, rfl, ⟨u0_8, x0_8, g0_8⟩, f0_9⟩ := fits_cell f0_8
  obtain ⟨a0_9, c0_9, rfl, ⟨u0_9, x0_9, g0_9⟩, f0_10⟩ := fits_cell f0_9
  obtain ⟨a0_10, c0_10, rfl, ⟨u0_10, x0_10, g0_10⟩, f0_11⟩ := fits_cell f0_10
  obtain ⟨a0_11, c0_11, rfl, b0_11, f0_12⟩ := fits_i64 f0_11
  obtain rfl := fits_nil f0_12
  have f1 := open_scal (n := 9) (ks := [.cell 24]) (by kernel_rfl) (by kernel_rfl) (hval 1 24 v1 rfl rfl) h1
  obtain ⟨a1_0, c1_0, e1, ⟨u1_0, x1_0, g1_0⟩, f1⟩ := fits_cell f1
  obtain ⟨rfl, rfl⟩ : v1 = a1_0 ∧ c1_0 = [] := by simpa [eq_comm] using e1
  obtain ⟨tp0, tx0, tc0, rfl, tl0, tn0, ti0, tb0⟩ := openIntN Try.underlying24 (by kernel_rfl) (by kernel_rfl) g0_8
  obtain ⟨sp0, sh0, sc0, rfl, sl0, sn0, si0, sb0⟩ := openProgramS Try.underlying27 (by kernel_rfl) (by kernel_rfl) Try.underlying75 (by kernel_rfl) (by kernel_rfl) Try.underlying24 (by kernel_rfl) (by kernel_rfl) Try.underlying76 (by kernel_rfl) (by kernel_rfl) g0_9
  obtain ⟨up0, su0, uc0, rfl, ul0, un0, ui0⟩ := openSurfaceS Try.underlying28 (by kernel_rfl) (by kernel_rfl) g0_10
  obtain ⟨p1, xs1, n1, rfl, hle1, hn1, hi1, hbd1⟩ := openIntN Try.underlying24 (by kernel_rfl) (by kernel_rfl) g1_0
  refine ((lwDepthOrder ⟨a0_0, a0_1, a0_2, a0_3, a0_4, a0_5, a0_6, a0_7, tx0, tp0, tc0, sh0, sp0, sc0, su0, up0, uc0, a0_11⟩ p1 xs1 n1 ⟨by simp only [maxLen] at tn0 ⊢; omega, by simp only [maxLen] at sn0 ⊢; omega, sb0, by simp only [maxLen] at un0 ⊢; omega⟩ (by simp only [maxLen] at hn1; omega)).out W ⟨⟨ti0, si0, ui0⟩, hi1⟩).mono fun e W2 ⟨he, hx⟩ => ?_
  subst he
  exact ⟨_, rfl, law_post (t := 4) laid (by kernel_rfl) (by kernel_rfl) Try.underlying4 rfl hW rfl hx⟩
theorem closed : joinedFacts Try.prog 3 Try.f3 Rows.fnExactDepthOrderSpec Rows.fnExactDepthOrderRow = true := by
  rw [joinedFacts, Facts.mayEnter_t, Facts.lifts_t, Facts.make_t]
  kernel_rfl
theorem over : Rows.fnExactDepthOrderRow.holds Try.pinned (OpenSpec.ofChange Rows.fnExactDepthOrderSpec) :=
  OpenClaim.holds_of_wide 3 Try.f3 rfl rfl rfl rfl rfl rfl rfl ⟨rfl, rfl, rfl, rfl, rfl⟩ rfl rfl rfl rfl rfl (by kernel_rfl) Try.func3 closed
    (of_decide_eq_true (by kernel_rfl)) (by unfold Func.isWrapper; first | (rw [if_pos (by decide +kernel)]; kernel_rfl) | (rw [if_neg (by decide +kernel)]; exact ⟨rfl, rfl⟩))
    (fun os started H enc _ => lifted os started H enc)
theorem proved : Rows.FnExactDepthOrderSaid := over
#print axioms proved
end Go.Proofs.Ytaiiiendfcglmaa.fnExactDepthOrder
