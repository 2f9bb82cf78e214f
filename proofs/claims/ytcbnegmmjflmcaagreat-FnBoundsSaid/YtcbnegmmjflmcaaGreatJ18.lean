/-
  Contracts of the functions that make one sample.
-/
import Derived.Test.YtcbnegmmjflmcaaGreatLSmp
import Derived.Test.YtcbnegmmjflmcaaGreatLLerp

section
set_option linter.unusedSimpArgs false
set_option linter.unusedVariables false
namespace Go.Proofs.YtcbnegmmjflmcaaGreat.St
open Go.RowKit
abbrev saV (v : Value) : Prop := ∃ x : TSa, v = .agg (eSa x).toArray ∧ goodA x
set_option maxHeartbeats 16000000 in
theorem l11Draw_ok (bc : Nat) (p : Option Addr) (bs : List Int) (c i : Nat) (h cw ch z ne : Int) (dd : Bool) (lf ff : Int) (hbs : bytesOk bs) (hl : bs.length ≤ 1048576) (hi : i ≤ bs.length) (hc : G.vCm cw ch z ne lf ff) :
    FunU Tryz.prog 14 [.pointer (some ⟨bc, 0, none⟩), .agg (caC cw ch z ne dd lf ff).toArray] bc curT (curC p bs.length c i h) (fun H => Sl H p eB 1 bs) (curR p bs.length c saV) := by
  have hcc := hc
  unfold G.vCm at hcc
  refine enterFunU Tryz.func14 rfl Tryz.ntmps14 rfl (fun W0 w a hp hm h => ?_)
  repeat' (first | refine c_seq ?_ | refine c_region ?_ | refine c_nil ?_ | refine k_then ?_ | (refine st_op (d := 3) rfl rfl h ?_; refine does_box hm rfl rfl ?_; clear h a hm; intro b_3 w hm a h) | (refine st_op (d := 4) rfl rfl h ?_; refine does_alloc hm ?_; clear h a hm; intro b_4 w hm a h))
  refine cw_cutN (fun a w => ∃ (pp : Option Addr) (cp : Nat) (ss : List TSa) (i1 : Nat) (h1 : Int), (ss.length = 4 ∧ (∀ s ∈ ss, goodA s) ∧ i1 ≤ bs.length) ∧ Mem W0 [bc] (hole W0 bc) (.row (.slice pp ss.length cp) 34 5 (ss.map eSa).flatten :: [.blk b_4 (.cells [I 0, I 0, I 0, I 0, I 0].toArray 34), .blk b_3 (.cells (caC cw ch z ne dd lf ff).toArray 24), .blk bc (.cells (curC p bs.length c i1 h1).toArray curT)]) w ∧ Holds [(5, .slice pp ss.length cp), (0, .pointer (some ⟨bc, 0, none⟩)), (4, .pointer (some ⟨b_4, 0, none⟩))] 27 a) ?_ ?_
  · skip
    refine hw_region ([.blk b_3 (.cells (caC cw ch z ne dd lf ff).toArray 24)]) mixed hm ?_; clear hm; intro w hm
    refine hw_take 0 rfl (by kernel_rfl) (by kernel_rfl) (by kernel_rfl) rfl rfl rfl h (hm.sub (by repeat' (first | refine slc ?_ | exact sln | refine sld ?_))) (fun w hm => by (refine does_loadOA 0 hm rfl rfl rfl ?_) <;> exact ⟨rfl, rfl⟩) ?_; clear h a; intro a h; (simp only [Value.cells, splice, nqq, Nat.reduceAdd, Nat.reduceMul, Int.reduceAdd, Int.reduceToNat, Int.reduceTMod] at h)
    refine hw_take 1 rfl (by kernel_rfl) (by kernel_rfl) (by kernel_rfl) rfl rfl rfl h (hm.sub (by repeat' (first | refine slc ?_ | exact sln | refine sld ?_))) (fun w hm => by refine does_move rfl ?_ <;> exact ⟨rfl, rfl⟩) ?_; clear h a; intro a h
    refine hw_take 2 rfl (by kernel_rfl) (by kernel_rfl) (by kernel_rfl) rfl rfl rfl h (hm.sub (by repeat' (first | refine slc ?_ | exact sln | refine sld ?_))) (fun w hm => by (refine does_fieldAddrL rfl ?_) <;> exact ⟨rfl, rfl⟩) ?_; clear h a; intro a h; (simp only [Value.cells, splice, nqq, Nat.reduceAdd, Nat.reduceMul, Int.reduceAdd, Int.reduceToNat, Int.reduceTMod] at h)
    refine hw_take 3 rfl (by kernel_rfl) (by kernel_rfl) (by kernel_rfl) rfl rfl rfl h (hm.sub (by repeat' (first | refine slc ?_ | exact sln | refine sld ?_))) (fun w hm => by (refine does_loadO 0 hm rfl rfl rfl ?_) <;> exact ⟨rfl, rfl⟩) ?_; clear h a; intro a h
    refine hw_take 5 rfl (by kernel_rfl) (by kernel_rfl) (by kernel_rfl) rfl rfl rfl h (hm.sub (by repeat' (first | refine slc ?_ | exact sln | refine sld ?_))) (fun w hm => by refine does_move rfl ?_ <;> exact ⟨rfl, rfl⟩) ?_; clear h a; intro a h
    refine hw_take 6 rfl (by kernel_rfl) (by kernel_rfl) (by kernel_rfl) rfl rfl rfl h (hm.sub (by repeat' (first | refine slc ?_ | exact sln | refine sld ?_))) (fun w hm => by (refine does_fieldAddrL rfl ?_) <;> exact ⟨rfl, rfl⟩) ?_; clear h a; intro a h; (simp only [Value.cells, splice, nqq, Nat.reduceAdd, Nat.reduceMul, Int.reduceAdd, Int.reduceToNat, Int.reduceTMod] at h)
    refine hw_take 7 rfl (by kernel_rfl) (by kernel_rfl) (by kernel_rfl) rfl rfl rfl h (hm.sub (by repeat' (first | refine slc ?_ | exact sln | refine sld ?_))) (fun w hm => by (refine does_loadO 0 hm rfl rfl rfl ?_) <;> exact ⟨rfl, rfl⟩) ?_; clear h a; intro a h
    refine hw1 4 (by decide +kernel) ?_
    (refine ho_op rfl rfl rfl h ?_); clear h a; ((refine does_funU 2 hm en28 rfl rfl (l01Below_ok _ _ _ _ _ _ _ hbs hl (by omega) (by omega)) (Sl.mono hp (le_hole (i := 2) hm rfl)) ?_; clear hm; rintro v cs1 L1 w ⟨⟨x, rfl, hx1, hx2⟩, ⟨i1, h1, rfl, hi1⟩, rfl⟩ hm; simp only [List.cons_append, List.nil_append, List.set_cons_zero, List.set_cons_succ] at hm)); intro a h; refine ⟨hm.sub (by repeat' (first | refine slc ?_ | exact sln | refine sld ?_)), ?_⟩
    refine hw1 8 (by decide +kernel) ?_
    (refine ho_op rfl rfl rfl h ?_); clear h a; ((refine does_funU 2 hm en28 rfl rfl (l01Below_ok _ _ _ _ _ _ _ hbs hl (by omega) (by omega)) (Sl.mono hp (le_hole (i := 2) hm rfl)) ?_; clear hm; rintro v cs1 L1 w ⟨⟨x, rfl, hx1, hx2⟩, ⟨i1, h1, rfl, hi1⟩, rfl⟩ hm; simp only [List.cons_append, List.nil_append, List.set_cons_zero, List.set_cons_succ] at hm)); intro a h; refine ⟨hm.sub (by repeat' (first | refine slc ?_ | exact sln | refine sld ?_)), ?_⟩
    refine hw1 9 (by decide +kernel) ?_
    (refine ho_op rfl rfl rfl h ?_); clear h a; ((refine does_funG hm en27 rfl (pixelSamples_ok _ _ _ _ _ _ _ _ _ hc (by omega) (by omega)) trivial ?_; clear hm; rintro v L1 w ⟨pp, cp, ss, rfl, rfl, hs4, hss⟩ hm; simp only [List.cons_append, List.nil_append, List.set_cons_zero, List.set_cons_succ] at hm)); intro a h; refine ⟨hm.sub (by repeat' (first | refine slc ?_ | exact sln | refine sld ?_)), ?_⟩
    refine hw_take 10 rfl (by kernel_rfl) (by kernel_rfl) (by kernel_rfl) rfl rfl rfl h (hm.sub (by repeat' (first | refine slc ?_ | exact sln | refine sld ?_))) (fun w hm => by refine does_assign rfl ?_ <;> exact ⟨rfl, rfl⟩) ?_; clear h a; intro a h
    refine hw0 (by decide +kernel) ?_
    exact ⟨rfl, _, _, _, _, _, ⟨hs4, hss, hi1⟩, hm, h.keep ⟨rfl, rfl, rfl, trivial⟩⟩
  clear h hm
  rintro a w ⟨pp, cp, ss, i1, h1, ⟨hs4, hss, hi1⟩, hm, h⟩
  have hfl := flat_len (enc := eSa) (sz := 5) (fun _ => rfl) ss
  have hm0 := hm
  clear hm
  obtain ⟨B1, p1, n1, c1, hle, hm, he, hl4, _, _, hA4⟩ := hm0.freeze
  clear hm0
  cases he
  have hsl : Sl B1 pp eSa 5 ss := sl_of_flat (fun _ => rfl) rfl hA4
  replace hp := hp.mono hle
  clear hA4
  repeat' (first | refine c_seq ?_ | refine c_region ?_ | refine c_nil ?_ | refine k_then ?_ | refine c_skip ?_ | refine c_condF h rfl ?_ | ((refine st_op rfl rfl h ?_); clear h a; (first | (show Does _ (.call _) _ _ _ _; (first | ((refine does_funU 2 hm en28 rfl rfl (l01Below_ok _ _ _ _ _ _ _ hbs hl (by omega) (by omega)) (Sl.mono hp (le_hole (i := 2) hm rfl)) ?_; clear hm; rintro v cs1 L1 w ⟨⟨x, rfl, hx1, hx2⟩, ⟨i1, h1, rfl, hi1⟩, rfl⟩ hm; simp only [List.cons_append, List.nil_append, List.set_cons_zero, List.set_cons_succ] at hm)) | refine does_lenS (SliceT.out) rfl ?_)) | (show Does _ (.move _) _ _ _ _; refine does_move rfl ?_) | (show Does _ (.binOp _ _ _ _ _) _ _ _ _; (refine does_eqlF rfl rfl (by omega) ?_))); intro a h))
  obtain ⟨m, rfl⟩ : ∃ m : Nat, x = m := ⟨x.toNat, by omega⟩
  have hlt : m < ss.length := by omega
  obtain ⟨q1, rfl, hat⟩ := hsl.at hlt
  repeat' (first | refine c_nil ?_ | refine k_then ?_ | refine c_ret ?_ | ((first | refine st_op rfl rfl h ?_ | refine st_opn rfl h ?_); clear h a; (first | (show Does _ (.store _ _ _) _ _ _ _; ((refine does_storeO 0 hm rfl rfl rfl rfl rfl rfl rfl ?_; clear hm; intro w hm; (simp only [Value.cells, splice, nqq, Nat.reduceAdd, Nat.reduceMul, Int.reduceAdd, Int.reduceToNat] at hm)))) | (show Does _ (.load _ _) _ _ _ _; (refine does_loadBA hm rfl (by assumption) rfl ?_)) | (show Does _ (.indexAddr _ _ _) _ _ _ _; (refine does_indexSn (by omega) rfl rfl ?_))); intro a h))
  exact k_ret (vs := [_]) rfl h ⟨rv_cellA (i := 0) hm rfl rfl rfl, trivial⟩ ⟨_, [], ⟨⟨_, rfl, hss _ (List.getElem_mem hlt)⟩, ⟨_, _, rfl, hi1⟩, rfl⟩, Mem.sub (hm.lower hle) (by repeat' (first | exact slr | refine sld ?_))⟩
set_option maxHeartbeats 8000000 in
theorem makeSample_ok (p : Option Addr) (bs : List Int) (c : Nat) (cw ch z ne : Int) (dd : Bool) (lf ff : Int) (hbs : bytesOk bs) (hl : bs.length ≤ 1048576) (hc : G.vCm cw ch z ne lf ff) :
    FunV Tryz.prog 5 [.slice p bs.length c, .agg (caC cw ch z ne dd lf ff).toArray] (fun H => Sl H p eB 1 bs) saV := by
  refine enterFunV Tryz.func5 rfl Tryz.ntmps5 rfl (fun W0 w a hp hm h => ?_)
  repeat' (first | refine c_seq ?_ | refine c_region ?_ | refine c_nil ?_ | refine k_then ?_ | (refine st_op (d := 3) rfl rfl h ?_; refine does_box hm rfl rfl ?_; clear h a hm; intro b_3 w hm a h) | (refine st_op (d := 4) rfl rfl h ?_; refine does_alloc hm ?_; clear h a hm; intro b_4 w hm a h))
  refine cw_cutN (fun a w => ∃ x : TSa, goodA x ∧ Mem W0 [] (fun b => W0.heap[b]?) [.blk b_4 (.cells (eSa x).toArray 34)] w ∧ Holds [(4, .pointer (some ⟨b_4, 0, none⟩))] 9 a) ?_ ?_
  · skip
    refine hw_region ([.blk b_3 (.cells (caC cw ch z ne dd lf ff).toArray 24)]) mixed hm ?_; clear hm; intro w hm
    refine hw_take 0 rfl (by kernel_rfl) (by kernel_rfl) (by kernel_rfl) rfl rfl rfl h (hm.sub (by repeat' (first | exact slr | refine sld ?_))) (fun w hm => by refine does_move rfl ?_ <;> exact ⟨rfl, rfl⟩) ?_; clear h a; intro a h
    refine hw_take 2 rfl (by kernel_rfl) (by kernel_rfl) (by kernel_rfl) rfl rfl rfl h (hm.sub (by repeat' (first | exact slr | refine sld ?_))) (fun w hm => by (refine does_loadOA 0 hm rfl rfl rfl ?_) <;> exact ⟨rfl, rfl⟩) ?_; clear h a; intro a h; (simp only [Value.cells, splice, nqq, Nat.reduceAdd, Nat.reduceMul, Int.reduceAdd, Int.reduceToNat, Int.reduceTMod] at h)
    refine hw1 1 (by decide +kernel) ?_
    (refine ho_op rfl rfl rfl h ?_); clear h a; ((refine does_funG hm en15 rfl (l32New_ok _ _ _ _ hbs hl (by omega)) (hp.up hm) ?_; clear hm; rintro v L1 w ⟨bc, i, h0, rfl, hi, rfl⟩ hm; simp only [List.cons_append, List.nil_append, List.set_cons_zero, List.set_cons_succ] at hm)); intro a h; refine ⟨hm.sub (by repeat' (first | exact slr | refine sld ?_)), ?_⟩
    refine hw1 3 (by decide +kernel) ?_
    (refine ho_op rfl rfl rfl h ?_); clear h a; ((refine does_funU 0 hm en14 rfl rfl (l11Draw_ok _ _ _ _ _ _ _ _ _ _ _ _ _ hbs hl hi hc) (Sl.mono hp (le_hole (i := 0) hm rfl)) ?_; clear hm; rintro v cs1 L1 w ⟨⟨x, rfl, hg⟩, ⟨i1, h1, rfl, hi1⟩, rfl⟩ hm; simp only [List.cons_append, List.nil_append, List.set_cons_zero, List.set_cons_succ] at hm)); intro a h; refine ⟨hm.sub (by repeat' (first | exact slr | refine sld ?_)), ?_⟩
    refine hw1 4 (by decide +kernel) ?_
    (refine ho_opn rfl rfl h ?_); clear h a; ((refine does_storeO 1 hm rfl rfl rfl rfl rfl rfl rfl ?_; clear hm; intro w hm; (simp only [Value.cells, splice, nqq, Nat.reduceAdd, Nat.reduceMul, Int.reduceAdd, Int.reduceToNat] at hm))); intro a h; refine ⟨hm.sub (by repeat' (first | exact slr | refine sld ?_)), ?_⟩
    refine hw0 (by decide +kernel) ?_
    exact ⟨rfl, _, hg, hm.sub (by repeat' (first | refine slc ?_ | exact sln | refine sld ?_)), h.keep ⟨rfl, trivial⟩⟩
  clear h hm
  rintro a w ⟨x, hg, hm, h⟩
  repeat' (first | refine k_then ?_ | refine c_ret ?_)
  exact k_ret (vs := [_]) rfl h ⟨rv_cellA (i := 0) hm rfl rfl rfl, trivial⟩ ⟨⟨x, rfl, hg⟩, hm.below⟩
end Go.Proofs.YtcbnegmmjflmcaaGreat.St
end

section
/-
  Contracts of the functions that interpolate patches.
-/
set_option linter.unusedSimpArgs false
set_option linter.unusedVariables false
namespace Go.Proofs.YtcbnegmmjflmcaaGreat.St
open Go.RowKit
abbrev ippC (x0 y0 z0 x1 y1 z1 x2 y2 z2 x3 y3 z3 u0 v0 w0 u1 v1 w1 u2 v2 w2 u3 v3 w3 t : Int) : Value := .agg #[I (lrp x0 u0 t 16), I (lrp y0 v0 t 16), I (lrp z0 w0 t 16), I (lrp x1 u1 t 16), I (lrp y1 v1 t 16), I (lrp z1 w1 t 16), I (lrp x2 u2 t 16), I (lrp y2 v2 t 16), I (lrp z2 w2 t 16), I (lrp x3 u3 t 16), I (lrp y3 v3 t 16), I (lrp z3 w3 t 16)]
set_option maxHeartbeats 2000000 in
theorem ipp_yes (x0 y0 z0 x1 y1 z1 x2 y2 z2 x3 y3 z3 u0 v0 w0 u1 v1 w1 u2 v2 w2 u3 v3 w3 t : Int) (ht : 0 ≤ t ∧ t ≤ 16) : Fun Tryz.prog 22 [.agg #[I x0, I y0, I z0, I x1, I y1, I z1, I x2, I y2, I z2, I x3, I y3, I z3], .agg #[I u0, I v0, I w0, I u1, I v1, I w1, I u2, I v2, I w2, I u3, I v3, I w3], I t] (ippC x0 y0 z0 x1 y1 z1 x2 y2 z2 x3 y3 z3 u0 v0 w0 u1 v1 w1 u2 v2 w2 u3 v3 w3 t) := by
  refine enterFun Tryz.func22 rfl Tryz.ntmps22 rfl (fun W0 w a hm h => ?_)
  repeat' (first | refine c_seq ?_ | refine c_region ?_ | refine c_nil ?_ | refine k_then ?_ | refine k_thenL ?_ | refine k_thenE ?_ | refine k_inN ?_ | refine k_inE ?_ | refine c_skip ?_ | refine c_ret ?_ | refine c_exit ?_ | refine c_block ?_ | refine r_succ ?_ | refine c_condT h rfl ?_ | refine c_condF h rfl ?_ | (refine c_rounds 5 ?_) | ((first | refine st_op rfl rfl h ?_ | refine st_opn rfl h ?_); clear h a; (first | (show Does _ (.call _) _ _ _ _; (((refine does_funM hm en30 rfl (within_yes _ _ _ (by omega)) ?_; clear hm; intro w hm)))) | (show Does _ (.box _ _) _ _ _ _; (refine does_box hm rfl rfl ?_; clear hm; intro b w hm)) | (show Does _ (.alloc _) _ _ _ _; (refine does_alloc hm ?_; clear hm; intro b w hm)) | (show Does _ (.store _ _ _) _ _ _ _; (first | (refine does_storeO 0 hm rfl rfl rfl rfl rfl rfl rfl ?_; clear hm; intro w hm; (simp only [Value.cells, splice, nqq, Nat.reduceAdd, Nat.reduceMul, Int.reduceAdd, Int.reduceToNat] at hm)) | (refine does_storeO 3 hm rfl rfl rfl rfl rfl rfl rfl ?_; clear hm; intro w hm; (simp only [Value.cells, splice, nqq, Nat.reduceAdd, Nat.reduceMul, Int.reduceAdd, Int.reduceToNat] at hm)) | (refine does_storeO 4 hm rfl rfl rfl rfl rfl rfl rfl ?_; clear hm; intro w hm; (simp only [Value.cells, splice, nqq, Nat.reduceAdd, Nat.reduceMul, Int.reduceAdd, Int.reduceToNat] at hm)) | (refine does_storeO 5 hm rfl rfl rfl rfl rfl rfl rfl ?_; clear hm; intro w hm; (simp only [Value.cells, splice, nqq, Nat.reduceAdd, Nat.reduceMul, Int.reduceAdd, Int.reduceToNat] at hm)) | (refine does_storeO 6 hm rfl rfl rfl rfl rfl rfl rfl ?_; clear hm; intro w hm; (simp only [Value.cells, splice, nqq, Nat.reduceAdd, Nat.reduceMul, Int.reduceAdd, Int.reduceToNat] at hm)))) | (show Does _ (.move _) _ _ _ _; refine does_move rfl ?_) | (show Does _ (.assign _) _ _ _ _; refine does_assign rfl ?_) | (show Does _ (.fieldAddr _ _ _) _ _ _ _; (refine does_fieldAddrL rfl ?_)) | (show Does _ (.load _ _) _ _ _ _; (first | refine does_loadOA 2 hm rfl rfl rfl ?_ | refine does_loadOA 6 hm rfl rfl rfl ?_)) | (show Does _ (.binOp _ _ _ _ _) _ _ _ _; (first | refine does_lssT rfl rfl (by omega) ?_ | refine does_lssF rfl rfl (by omega) ?_ | refine does_add rfl rfl (by omega) ?_)) | (show Does _ (.unOp _ _ _) _ _ _ _; (refine does_not rfl ?_)) | (show Does _ (.index _ _ _) _ _ _ _; (refine does_indexVA (by omega) rfl rfl ?_))); intro a h; (first | simp only [Value.cells, splice, nqq, Nat.reduceAdd, Nat.reduceMul, Int.reduceAdd, Int.reduceToNat, Int.reduceTMod] at h | skip)) | (apply c_drawM (id := 6) 10 [.val _, .val _, .val _, .val _, .val _, .val _, .val _, .val _, .val _, .val _] mixed (by kernel_rfl) (h := h) (hm := hm); (case vcs => (repeat' (first | exact vcs_nil | refine vcs_cons ?_ ?_ | (intro w hm; (repeat (first | refine dep_val ?_ | refine dep_nil ?_)); first | exact vc_skip rfl | exact vc_alloc rfl | exact vc_box rfl rfl rfl | exact vc_buildSlice rfl rfl rfl rfl | exact vc_makeSlice (by omega) (by omega) rfl rfl rfl | exact vc_store rfl rfl rfl rfl rfl rfl rfl rfl rfl rfl | (apply vc_run rfl; (first | (show Does _ (.call _) _ _ _ _; ((refine does_funX en43 rfl (lerp_ok _ _ _ _ _ _ _ _ (by first | assumption | omega) (by first | assumption | omega)) ?_))) | (show Does _ (.move _) _ _ _ _; refine does_move rfl ?_) | (show Does _ (.fieldAddr _ _ _) _ _ _ _; (refine does_fieldAddrL rfl ?_)) | (show Does _ (.load _ _) _ _ _ _; (first | refine does_loadOA 0 hm rfl rfl rfl ?_ | refine does_loadOA 2 hm rfl rfl rfl ?_ | refine does_loadOA 3 hm rfl rfl rfl ?_ | refine does_loadOA 4 hm rfl rfl rfl ?_ | refine does_loadOA 5 hm rfl rfl rfl ?_)) | (show Does _ (.indexAddr _ _ _) _ _ _ _; (refine does_indexPL (by omega) rfl rfl ?_))); (first | exact ⟨ext_refl _, rfl⟩ | exact fun _ hx => ⟨hx, rfl⟩)))))); (case hup => kernel_rfl); (case hown => kernel_rfl); (case hnp => kernel_rfl); clear h hm a; intro  w hm; (simp only [List.map_nil, List.nil_append] at hm); (repeat (first | refine dep_val ?_ | refine dep_nil ?_)); intro a h; (simp only [Value.cells, splice, nqq, Nat.reduceAdd, Nat.reduceMul, Int.reduceAdd, Int.reduceToNat, Int.reduceTMod] at h)))
  all_goals (refine k_ret (vs := [_]) rfl h ⟨rv_cellA (i := 4) hm rfl rfl rfl, trivial⟩ ⟨?_, hm.below⟩)
  all_goals (rfl)
set_option maxHeartbeats 2000000 in
theorem surfaceAt_yes (x0 y0 z0 x1 y1 z1 x2 y2 z2 x3 y3 z3 u0 v0 w0 u1 v1 w1 u2 v2 w2 u3 v3 w3 sh ra t : Int) (ht : 0 ≤ t ∧ t ≤ 16) : Fun Tryz.prog 9 [.agg #[I x0, I y0, I z0, I x1, I y1, I z1, I x2, I y2, I z2, I x3, I y3, I z3, I u0, I v0, I w0, I u1, I v1, I w1, I u2, I v2, I w2, I u3, I v3, I w3, I sh, I ra], I t] (ippC x0 y0 z0 x1 y1 z1 x2 y2 z2 x3 y3 z3 u0 v0 w0 u1 v1 w1 u2 v2 w2 u3 v3 w3 t) := by
  refine enterFun Tryz.func9 rfl Tryz.ntmps9 rfl (fun W0 w a hm h => ?_)
  repeat' (first | refine c_seq ?_ | refine c_region ?_ | refine c_nil ?_ | refine k_then ?_ | refine c_ret ?_ | ((first | refine st_op rfl rfl h ?_ | refine st_opn rfl h ?_); clear h a; (first | (show Does _ (.box _ _) _ _ _ _; (refine does_box hm rfl rfl ?_; clear hm; intro b w hm)) | (show Does _ (.alloc _) _ _ _ _; (refine does_alloc hm ?_; clear hm; intro b w hm)) | (show Does _ (.store _ _ _) _ _ _ _; ((refine does_storeO 0 hm rfl rfl rfl rfl rfl rfl rfl ?_; clear hm; intro w hm; (simp only [Value.cells, splice, nqq, Nat.reduceAdd, Nat.reduceMul, Int.reduceAdd, Int.reduceToNat] at hm)))) | (show Does _ (.call _) _ _ _ _; ((refine does_funM hm en22 rfl (ipp_yes _ _ _ _ _ _ _ _ _ _ _ _ _ _ _ _ _ _ _ _ _ _ _ _ _ (by first | assumption | omega)) ?_; clear hm; intro w hm))) | (show Does _ (.move _) _ _ _ _; refine does_move rfl ?_) | (show Does _ (.fieldAddr _ _ _) _ _ _ _; (refine does_fieldAddrL rfl ?_)) | (show Does _ (.load _ _) _ _ _ _; (refine does_loadOA 1 hm rfl rfl rfl ?_))); intro a h; (first | simp only [Value.cells, splice, nqq, Nat.reduceAdd, Nat.reduceMul, Int.reduceAdd, Int.reduceToNat, Int.reduceTMod] at h | skip)))
  all_goals (refine k_ret (vs := [_]) rfl h ⟨rv_cellA (i := 0) hm rfl rfl rfl, trivial⟩ ⟨?_, hm.below⟩)
  all_goals (rfl)
end Go.Proofs.YtcbnegmmjflmcaaGreat.St
end
