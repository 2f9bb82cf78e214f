/-
  Contracts of the functions that draw surfaces.
-/
import Derived.Test.YtcbnegmmjflmcaaGreatLMks
import Derived.Test.YtcbnegmmjflmcaaGreatJ7
set_option linter.unusedSimpArgs false
set_option linter.unusedVariables false
namespace Go.Proofs.YtcbnegmmjflmcaaGreat.St
open Go.RowKit
structure TSf where
  x0 : Int
  y0 : Int
  z0 : Int
  x1 : Int
  y1 : Int
  z1 : Int
  x2 : Int
  y2 : Int
  z2 : Int
  x3 : Int
  y3 : Int
  z3 : Int
  u0 : Int
  v0 : Int
  w0 : Int
  u1 : Int
  v1 : Int
  w1 : Int
  u2 : Int
  v2 : Int
  w2 : Int
  u3 : Int
  v3 : Int
  w3 : Int
  sh : Int
  ra : Int
abbrev eSf (s : TSf) : List Value := [I s.x0, I s.y0, I s.z0, I s.x1, I s.y1, I s.z1, I s.x2, I s.y2, I s.z2, I s.x3, I s.y3, I s.z3, I s.u0, I s.v0, I s.w0, I s.u1, I s.v1, I s.w1, I s.u2, I s.v2, I s.w2, I s.u3, I s.v3, I s.w3, I s.sh, I s.ra]
abbrev goodS (s : TSf) : Prop := 1 ≤ s.ra ∧ s.ra ≤ 8
abbrev sfV (v : Value) : Prop := ∃ s : TSf, v = .agg (eSf s).toArray ∧ goodS s
set_option maxHeartbeats 16000000 in
theorem l20Surf_ok (bc : Nat) (p : Option Addr) (bs : List Int) (c i : Nat) (h : Int) (k : Int) (hbs : bytesOk bs) (hl : bs.length ≤ 1048576) (hi : i ≤ bs.length) (hk : 1 ≤ k ∧ k ≤ 1000) :
    FunU Tryz.prog 26 [.pointer (some ⟨bc, 0, none⟩), I k] bc curT (curC p bs.length c i h) (fun H => Sl H p eB 1 bs) (curR p bs.length c sfV) := by
  refine enterFunU Tryz.func26 rfl Tryz.ntmps26 rfl (fun W0 w a hp hm h => ?_)
  repeat' ((fail_if_success (refine c_isReg 2 ?_)); first | refine c_seq ?_ | refine c_region ?_ | refine c_nil ?_ | refine k_then ?_ | refine k_thenL ?_ | refine k_thenR ?_ | refine k_thenE ?_ | refine k_inN ?_ | refine k_inR ?_ | refine k_inE ?_ | refine k_inO rfl ?_ | refine c_skip ?_ | refine c_ret ?_ | refine c_exit ?_ | refine c_block ?_ | refine r_succ ?_ | refine c_condT h rfl ?_ | refine c_condF h rfl ?_ | (refine st_op (d := 4) rfl rfl h ?_; refine does_alloc hm ?_; clear h a hm; intro b_4 w hm a h) | (refine st_op (d := 5) rfl rfl h ?_; refine does_alloc hm ?_; clear h a hm; intro b_5 w hm a h) | ((first | refine st_op rfl rfl h ?_ | refine st_opn rfl h ?_); clear h a; (first | (show Does _ (.call _) _ _ _ _; (first | ((refine does_funU 1 hm en48 rfl rfl (l05Draw_ok _ _ _ _ _ _ hbs hl (by omega)) (Sl.mono hp (le_hole (i := 1) hm rfl)) ?_; clear hm; rintro v cs1 L1 w ⟨⟨x0, y0, z0, x1, y1, z1, x2, y2, z2, x3, y3, z3, rfl⟩, ⟨i1, h1, rfl, hi1⟩, rfl⟩ hm; simp only [List.cons_append, List.nil_append, List.set_cons_zero, List.set_cons_succ] at hm)) | ((refine does_funU 1 hm en28 rfl rfl (l01Below_ok _ _ _ _ _ _ _ hbs hl (by omega) (by omega)) (Sl.mono hp (le_hole (i := 1) hm rfl)) ?_; clear hm; rintro v cs1 L1 w ⟨⟨x, rfl, hx1, hx2⟩, ⟨i1, h1, rfl, hi1⟩, rfl⟩ hm; simp only [List.cons_append, List.nil_append, List.set_cons_zero, List.set_cons_succ] at hm)) | ((refine does_funU 2 hm en46 rfl rfl (l01PickI_ok _ _ _ _ _ _ _ [1, 2, 2, 4] hbs hl (by omega) ⟨by simp, by simp⟩) ⟨Sl.mono hp (le_hole (i := 2) hm rfl), sl_holeI (i := 2) (j := 0) hm rfl rfl (by omega)⟩ ?_; clear hm; rintro v cs1 L1 w ⟨⟨xv, hxv, rfl⟩, ⟨i1, h1, rfl, hi1⟩, rfl⟩ hm; simp only [List.cons_append, List.nil_append, List.set_cons_zero, List.set_cons_succ] at hm)))) | (show Does _ (.buildSlice _ _ _) _ _ _ _; (refine does_buildSlice hm rfl rfl rfl ?_; clear hm; intro b w hm; (simp only [rep, nqr, Value.cells, splice, nqq, Nat.reduceAdd, Nat.reduceMul, Int.reduceAdd, Int.reduceToNat] at hm))) | (show Does _ (.store _ _ _) _ _ _ _; ((refine does_storeO 0 hm rfl rfl rfl rfl rfl rfl rfl ?_; clear hm; intro w hm; (simp only [Value.cells, splice, nqq, Nat.reduceAdd, Nat.reduceMul, Int.reduceAdd, Int.reduceToNat] at hm)))) | (show Does _ (.move _) _ _ _ _; refine does_move rfl ?_) | (show Does _ (.fieldAddr _ _ _) _ _ _ _; (refine does_fieldAddrL rfl ?_)) | (show Does _ (.load _ _) _ _ _ _; (refine does_loadOA 0 hm rfl rfl rfl ?_)) | (show Does _ (.build _ _) _ _ _ _; refine does_build rfl rfl ?_)); intro a h; (first | simp only [Value.cells, splice, nqq, Nat.reduceAdd, Nat.reduceMul, Int.reduceAdd, Int.reduceToNat, Int.reduceTMod] at h | skip)) | ((fail); clear h a; intro a h) | ((fail) <;> intro hc <;> (fail)) | (refine st_guardD rfl rfl h ?_ ?_ <;> clear h <;> intro hc h))
  have hra : 1 ≤ xv ∧ xv ≤ 4 := by
    simp only [List.mem_cons, List.not_mem_nil, or_false] at hxv
    omega
  clear hxv
  repeat' (first | refine c_seq ?_ | refine c_region ?_ | refine c_nil ?_ | refine k_then ?_ | refine c_skip ?_ | refine c_ret ?_ | ((first | refine st_op rfl rfl h ?_ | refine st_opn rfl h ?_); clear h a; (first | (show Does _ (.call _) _ _ _ _; (((refine does_funU 3 hm en49 rfl rfl (l01Once_ok _ _ _ _ _ _ _ hbs hl (by omega) (by omega)) (Sl.mono hp (le_hole (i := 3) hm rfl)) ?_; clear hm; rintro v cs1 L1 w ⟨⟨zb, rfl⟩, ⟨i1, h1, rfl, hi1⟩, rfl⟩ hm; simp only [List.cons_append, List.nil_append, List.set_cons_zero, List.set_cons_succ] at hm)))) | (show Does _ (.store _ _ _) _ _ _ _; ((refine does_storeO 2 hm rfl rfl rfl rfl rfl rfl rfl ?_; clear hm; intro w hm; (simp only [Value.cells, splice, nqq, Nat.reduceAdd, Nat.reduceMul, Int.reduceAdd, Int.reduceToNat] at hm)))) | (show Does _ (.load _ _) _ _ _ _; (refine does_loadOA 0 hm rfl rfl rfl ?_))); intro a h; (first | simp only [Value.cells, splice, nqq, Nat.reduceAdd, Nat.reduceMul, Int.reduceAdd, Int.reduceToNat, Int.reduceTMod] at h | skip)) | ((refine c_cond h rfl ?_ ?_) <;> intro hc <;> (skip)))
  · refine cw_cutN (fun a w => ∃ (s : TSf) (i1 : Nat) (h1 : Int), (goodS s ∧ i1 ≤ bs.length) ∧ Mem W0 [bc] (hole W0 bc) [.blk b_5 (.cells (eSf s).toArray 42), .blk b_4 (.cells [I 0, I 0, I 0, I 0, I 0, I 0, I 0, I 0, I 0, I 0, I 0, I 0, I 0, I 0, I 0, I 0, I 0, I 0, I 0, I 0, I 0, I 0, I 0, I 0, I 0, I 0].toArray 42), .blk bc (.cells (curC p bs.length c i1 h1).toArray curT)] w ∧ Holds [(5, .pointer (some ⟨b_5, 0, none⟩)), (4, .pointer (some ⟨b_4, 0, none⟩))] 36 a) ?_ ?_
    · skip
      refine hw_region ([]) mixed hm ?_; clear hm; intro w hm
      refine hw_take 0 rfl (by kernel_rfl) (by kernel_rfl) (by kernel_rfl) rfl rfl rfl h (hm.sub (by repeat' (exact sln))) (fun w hm => by refine does_move rfl ?_ <;> exact ⟨rfl, rfl⟩) ?_; clear h a; intro a h
      refine hw_take 3 rfl (by kernel_rfl) (by kernel_rfl) (by kernel_rfl) rfl rfl rfl h (hm.sub (by repeat' (exact sln))) (fun w hm => by refine does_move rfl ?_ <;> exact ⟨rfl, rfl⟩) ?_; clear h a; intro a h
      refine hw_take 6 rfl (by kernel_rfl) (by kernel_rfl) (by kernel_rfl) rfl rfl rfl h (hm.sub (by repeat' (exact sln))) (fun w hm => by refine does_move rfl ?_ <;> exact ⟨rfl, rfl⟩) ?_; clear h a; intro a h
      refine hw_take 11 rfl (by kernel_rfl) (by kernel_rfl) (by kernel_rfl) rfl rfl rfl h (hm.sub (by repeat' (exact sln))) (fun w hm => by (refine does_fieldAddrL rfl ?_) <;> exact ⟨rfl, rfl⟩) ?_; clear h a; intro a h; (simp only [Value.cells, splice, nqq, Nat.reduceAdd, Nat.reduceMul, Int.reduceAdd, Int.reduceToNat, Int.reduceTMod] at h)
      refine hw2 1 12 (by decide +kernel) ?_ ?_
      · (refine ho_op rfl rfl rfl h ?_); clear h a; (((refine does_funU 3 hm en28 rfl rfl (l01Below_ok _ _ _ _ _ _ _ hbs hl (by omega) (by omega)) (Sl.mono hp (le_hole (i := 3) hm rfl)) ?_; clear hm; rintro v cs1 L1 w ⟨⟨x, rfl, hx1, hx2⟩, ⟨i1, h1, rfl, hi1⟩, rfl⟩ hm; simp only [List.cons_append, List.nil_append, List.set_cons_zero, List.set_cons_succ] at hm))); intro a h; refine ⟨hm.sub (by repeat' (exact sln)), ?_⟩
        refine hw_take 2 rfl (by kernel_rfl) (by kernel_rfl) (by kernel_rfl) rfl rfl rfl h (hm.sub (by repeat' (exact sln))) (fun w hm => by refine does_sub rfl rfl (by omega) ?_ <;> exact ⟨rfl, rfl⟩) ?_; clear h a; intro a h
        refine hw2 4 12 (by decide +kernel) ?_ ?_
        · (refine ho_op rfl rfl rfl h ?_); clear h a; (((refine does_funU 3 hm en28 rfl rfl (l01Below_ok _ _ _ _ _ _ _ hbs hl (by omega) (by omega)) (Sl.mono hp (le_hole (i := 3) hm rfl)) ?_; clear hm; rintro v cs1 L1 w ⟨⟨x, rfl, hx1, hx2⟩, ⟨i1, h1, rfl, hi1⟩, rfl⟩ hm; simp only [List.cons_append, List.nil_append, List.set_cons_zero, List.set_cons_succ] at hm))); intro a h; refine ⟨hm.sub (by repeat' (exact sln)), ?_⟩
          refine hw_take 5 rfl (by kernel_rfl) (by kernel_rfl) (by kernel_rfl) rfl rfl rfl h (hm.sub (by repeat' (exact sln))) (fun w hm => by refine does_sub rfl rfl (by omega) ?_ <;> exact ⟨rfl, rfl⟩) ?_; clear h a; intro a h
          refine hw2 7 12 (by decide +kernel) ?_ ?_
          · (refine ho_op rfl rfl rfl h ?_); clear h a; (((refine does_funU 3 hm en28 rfl rfl (l01Below_ok _ _ _ _ _ _ _ hbs hl (by omega) (by omega)) (Sl.mono hp (le_hole (i := 3) hm rfl)) ?_; clear hm; rintro v cs1 L1 w ⟨⟨x, rfl, hx1, hx2⟩, ⟨i1, h1, rfl, hi1⟩, rfl⟩ hm; simp only [List.cons_append, List.nil_append, List.set_cons_zero, List.set_cons_succ] at hm))); intro a h; refine ⟨hm.sub (by repeat' (exact sln)), ?_⟩
            refine hw_take 8 rfl (by kernel_rfl) (by kernel_rfl) (by kernel_rfl) rfl rfl rfl h (hm.sub (by repeat' (exact sln))) (fun w hm => by refine does_build rfl rfl ?_ <;> exact ⟨rfl, rfl⟩) ?_; clear h a; intro a h; (simp only [Value.cells, splice, nqq, Nat.reduceAdd, Nat.reduceMul, Int.reduceAdd, Int.reduceToNat, Int.reduceTMod] at h)
            refine hw2 9 12 (by decide +kernel) ?_ ?_
            · (refine ho_op rfl rfl rfl h ?_); clear h a; (((refine does_funM hm en51 rfl (translation_ok _ _ _ ⟨by omega, by omega, by omega⟩) ?_; clear hm; intro w hm))); intro a h; refine ⟨hm.sub (by repeat' (exact sln)), ?_⟩
              refine hw2 10 12 (by decide +kernel) ?_ ?_
              · (refine ho_op rfl rfl rfl h ?_); clear h a; (refine does_buildSlice hm rfl rfl rfl ?_; clear hm; intro b w hm; (simp only [rep, nqr, Value.cells, splice, nqq, Nat.reduceAdd, Nat.reduceMul, Int.reduceAdd, Int.reduceToNat] at hm)); intro a h; refine ⟨hm.sub (by repeat' (exact sln)), ?_⟩
                refine hw1 12 (by decide +kernel) ?_
                (refine ho_op rfl rfl rfl h ?_); clear h a; (refine does_loadOA 1 hm rfl rfl rfl ?_); intro a h; (simp only [Value.cells, splice, nqq, Nat.reduceAdd, Nat.reduceMul, Int.reduceAdd, Int.reduceToNat, Int.reduceTMod] at h); refine ⟨hm.sub (by repeat' (exact sln)), ?_⟩
                refine hw1 13 (by decide +kernel) ?_
                (refine ho_op rfl rfl rfl h ?_); clear h a; ((refine does_funVal hm en50 rfl (sTransformPatch_ok _ _ _ _ _ _ _ _ _ _ _ _ _ _ _ _ ?_) (at_own (i := 0) hm rfl (fun j v hv => (by rw [Nat.zero_add]; exact hv))) ?_; exact ⟨by omega, by omega, by omega⟩; clear hm; rintro v w ⟨q0, q1, q2, q3, q4, q5, q6, q7, q8, q9, q10, q11, rfl⟩ hm)); intro a h; refine ⟨hm.sub (by repeat' (exact sln)), ?_⟩
                refine hw_take 14 rfl (by kernel_rfl) (by kernel_rfl) (by kernel_rfl) rfl rfl rfl h (hm.sub (by repeat' (exact sln))) (fun w hm => by (refine does_fieldAddrL rfl ?_) <;> exact ⟨rfl, rfl⟩) ?_; clear h a; intro a h; (simp only [Value.cells, splice, nqq, Nat.reduceAdd, Nat.reduceMul, Int.reduceAdd, Int.reduceToNat, Int.reduceTMod] at h)
                refine hw1 15 (by decide +kernel) ?_
                (refine ho_opn rfl rfl h ?_); clear h a; ((refine does_storeO 1 hm rfl rfl rfl rfl rfl rfl rfl ?_; clear hm; intro w hm; (simp only [Value.cells, splice, nqq, Nat.reduceAdd, Nat.reduceMul, Int.reduceAdd, Int.reduceToNat] at hm))); intro a h; refine ⟨hm.sub (by repeat' (exact sln)), ?_⟩
                refine hw0 (by decide +kernel) ?_
                exact ⟨rfl, ⟨_, _, _, _, _, _, _, _, _, _, _, _, _, _, _, _, _, _, _, _, _, _, _, _, _, _⟩, _, _, ⟨⟨by (show 1 ≤ xv; omega), by (show xv ≤ 8; omega)⟩, hi1⟩, hm.sub (by repeat' (first | exact slr | refine slc ?_ | refine sld ?_)), h.keep ⟨rfl, rfl, trivial⟩⟩
              · (refine ho_op rfl rfl rfl h ?_); clear h a; (refine does_loadOA 0 hm rfl rfl rfl ?_); intro a h; (simp only [Value.cells, splice, nqq, Nat.reduceAdd, Nat.reduceMul, Int.reduceAdd, Int.reduceToNat, Int.reduceTMod] at h); refine ⟨hm.sub (by repeat' (exact sln)), ?_⟩
                refine hw1 10 (by decide +kernel) ?_
                (refine ho_op rfl rfl rfl h ?_); clear h a; (refine does_buildSlice hm rfl rfl rfl ?_; clear hm; intro b w hm; (simp only [rep, nqr, Value.cells, splice, nqq, Nat.reduceAdd, Nat.reduceMul, Int.reduceAdd, Int.reduceToNat] at hm)); intro a h; refine ⟨hm.sub (by repeat' (exact sln)), ?_⟩
                refine hw1 13 (by decide +kernel) ?_
                (refine ho_op rfl rfl rfl h ?_); clear h a; ((refine does_funVal hm en50 rfl (sTransformPatch_ok _ _ _ _ _ _ _ _ _ _ _ _ _ _ _ _ ?_) (at_own (i := 0) hm rfl (fun j v hv => (by rw [Nat.zero_add]; exact hv))) ?_; exact ⟨by omega, by omega, by omega⟩; clear hm; rintro v w ⟨q0, q1, q2, q3, q4, q5, q6, q7, q8, q9, q10, q11, rfl⟩ hm)); intro a h; refine ⟨hm.sub (by repeat' (exact sln)), ?_⟩
                refine hw_take 14 rfl (by kernel_rfl) (by kernel_rfl) (by kernel_rfl) rfl rfl rfl h (hm.sub (by repeat' (exact sln))) (fun w hm => by (refine does_fieldAddrL rfl ?_) <;> exact ⟨rfl, rfl⟩) ?_; clear h a; intro a h; (simp only [Value.cells, splice, nqq, Nat.reduceAdd, Nat.reduceMul, Int.reduceAdd, Int.reduceToNat, Int.reduceTMod] at h)
                refine hw1 15 (by decide +kernel) ?_
                (refine ho_opn rfl rfl h ?_); clear h a; ((refine does_storeO 1 hm rfl rfl rfl rfl rfl rfl rfl ?_; clear hm; intro w hm; (simp only [Value.cells, splice, nqq, Nat.reduceAdd, Nat.reduceMul, Int.reduceAdd, Int.reduceToNat] at hm))); intro a h; refine ⟨hm.sub (by repeat' (exact sln)), ?_⟩
                refine hw0 (by decide +kernel) ?_
                exact ⟨rfl, ⟨_, _, _, _, _, _, _, _, _, _, _, _, _, _, _, _, _, _, _, _, _, _, _, _, _, _⟩, _, _, ⟨⟨by (show 1 ≤ xv; omega), by (show xv ≤ 8; omega)⟩, hi1⟩, hm.sub (by repeat' (first | exact slr | refine slc ?_ | refine sld ?_)), h.keep ⟨rfl, rfl, trivial⟩⟩
            · (refine ho_op rfl rfl rfl h ?_); clear h a; (refine does_loadOA 0 hm rfl rfl rfl ?_); intro a h; (simp only [Value.cells, splice, nqq, Nat.reduceAdd, Nat.reduceMul, Int.reduceAdd, Int.reduceToNat, Int.reduceTMod] at h); refine ⟨hm.sub (by repeat' (exact sln)), ?_⟩
              refine hw1 9 (by decide +kernel) ?_
              (refine ho_op rfl rfl rfl h ?_); clear h a; (((refine does_funM hm en51 rfl (translation_ok _ _ _ ⟨by omega, by omega, by omega⟩) ?_; clear hm; intro w hm))); intro a h; refine ⟨hm.sub (by repeat' (exact sln)), ?_⟩
              refine hw1 10 (by decide +kernel) ?_
              (refine ho_op rfl rfl rfl h ?_); clear h a; (refine does_buildSlice hm rfl rfl rfl ?_; clear hm; intro b w hm; (simp only [rep, nqr, Value.cells, splice, nqq, Nat.reduceAdd, Nat.reduceMul, Int.reduceAdd, Int.reduceToNat] at hm)); intro a h; refine ⟨hm.sub (by repeat' (exact sln)), ?_⟩
              refine hw1 13 (by decide +kernel) ?_
              (refine ho_op rfl rfl rfl h ?_); clear h a; ((refine does_funVal hm en50 rfl (sTransformPatch_ok _ _ _ _ _ _ _ _ _ _ _ _ _ _ _ _ ?_) (at_own (i := 0) hm rfl (fun j v hv => (by rw [Nat.zero_add]; exact hv))) ?_; exact ⟨by omega, by omega, by omega⟩; clear hm; rintro v w ⟨q0, q1, q2, q3, q4, q5, q6, q7, q8, q9, q10, q11, rfl⟩ hm)); intro a h; refine ⟨hm.sub (by repeat' (exact sln)), ?_⟩
              refine hw_take 14 rfl (by kernel_rfl) (by kernel_rfl) (by kernel_rfl) rfl rfl rfl h (hm.sub (by repeat' (exact sln))) (fun w hm => by (refine does_fieldAddrL rfl ?_) <;> exact ⟨rfl, rfl⟩) ?_; clear h a; intro a h; (simp only [Value.cells, splice, nqq, Nat.reduceAdd, Nat.reduceMul, Int.reduceAdd, Int.reduceToNat, Int.reduceTMod] at h)
              refine hw1 15 (by decide +kernel) ?_
              (refine ho_opn rfl rfl h ?_); clear h a; ((refine does_storeO 1 hm rfl rfl rfl rfl rfl rfl rfl ?_; clear hm; intro w hm; (simp only [Value.cells, splice, nqq, Nat.reduceAdd, Nat.reduceMul, Int.reduceAdd, Int.reduceToNat] at hm))); intro a h; refine ⟨hm.sub (by repeat' (exact sln)), ?_⟩
              refine hw0 (by decide +kernel) ?_
              exact ⟨rfl, ⟨_, _, _, _, _, _, _, _, _, _, _, _, _, _, _, _, _, _, _, _, _, _, _, _, _, _⟩, _, _, ⟨⟨by (show 1 ≤ xv; omega), by (show xv ≤ 8; omega)⟩, hi1⟩, hm.sub (by repeat' (first | exact slr | refine slc ?_ | refine sld ?_)), h.keep ⟨rfl, rfl, trivial⟩⟩
          · (refine ho_op rfl rfl rfl h ?_); clear h a; (refine does_loadOA 0 hm rfl rfl rfl ?_); intro a h; (simp only [Value.cells, splice, nqq, Nat.reduceAdd, Nat.reduceMul, Int.reduceAdd, Int.reduceToNat, Int.reduceTMod] at h); refine ⟨hm.sub (by repeat' (exact sln)), ?_⟩
            refine hw1 7 (by decide +kernel) ?_
            (refine ho_op rfl rfl rfl h ?_); clear h a; (((refine does_funU 3 hm en28 rfl rfl (l01Below_ok _ _ _ _ _ _ _ hbs hl (by omega) (by omega)) (Sl.mono hp (le_hole (i := 3) hm rfl)) ?_; clear hm; rintro v cs1 L1 w ⟨⟨x, rfl, hx1, hx2⟩, ⟨i1, h1, rfl, hi1⟩, rfl⟩ hm; simp only [List.cons_append, List.nil_append, List.set_cons_zero, List.set_cons_succ] at hm))); intro a h; refine ⟨hm.sub (by repeat' (exact sln)), ?_⟩
            refine hw_take 8 rfl (by kernel_rfl) (by kernel_rfl) (by kernel_rfl) rfl rfl rfl h (hm.sub (by repeat' (exact sln))) (fun w hm => by refine does_build rfl rfl ?_ <;> exact ⟨rfl, rfl⟩) ?_; clear h a; intro a h; (simp only [Value.cells, splice, nqq, Nat.reduceAdd, Nat.reduceMul, Int.reduceAdd, Int.reduceToNat, Int.reduceTMod] at h)
            refine hw1 9 (by decide +kernel) ?_
            (refine ho_op rfl rfl rfl h ?_); clear h a; (((refine does_funM hm en51 rfl (translation_ok _ _ _ ⟨by omega, by omega, by omega⟩) ?_; clear hm; intro w hm))); intro a h; refine ⟨hm.sub (by repeat' (exact sln)), ?_⟩
            refine hw1 10 (by decide +kernel) ?_
            (refine ho_op rfl rfl rfl h ?_); clear h a; (refine does_buildSlice hm rfl rfl rfl ?_; clear hm; intro b w hm; (simp only [rep, nqr, Value.cells, splice, nqq, Nat.reduceAdd, Nat.reduceMul, Int.reduceAdd, Int.reduceToNat] at hm)); intro a h; refine ⟨hm.sub (by repeat' (exact sln)), ?_⟩
            refine hw1 13 (by decide +kernel) ?_
            (refine ho_op rfl rfl rfl h ?_); clear h a; ((refine does_funVal hm en50 rfl (sTransformPatch_ok _ _ _ _ _ _ _ _ _ _ _ _ _ _ _ _ ?_) (at_own (i := 0) hm rfl (fun j v hv => (by rw [Nat.zero_add]; exact hv))) ?_; exact ⟨by omega, by omega, by omega⟩; clear hm; rintro v w ⟨q0, q1, q2, q3, q4, q5, q6, q7, q8, q9, q10, q11, rfl⟩ hm)); intro a h; refine ⟨hm.sub (by repeat' (exact sln)), ?_⟩
            refine hw_take 14 rfl (by kernel_rfl) (by kernel_rfl) (by kernel_rfl) rfl rfl rfl h (hm.sub (by repeat' (exact sln))) (fun w hm => by (refine does_fieldAddrL rfl ?_) <;> exact ⟨rfl, rfl⟩) ?_; clear h a; intro a h; (simp only [Value.cells, splice, nqq, Nat.reduceAdd, Nat.reduceMul, Int.reduceAdd, Int.reduceToNat, Int.reduceTMod] at h)
            refine hw1 15 (by decide +kernel) ?_
            (refine ho_opn rfl rfl h ?_); clear h a; ((refine does_storeO 1 hm rfl rfl rfl rfl rfl rfl rfl ?_; clear hm; intro w hm; (simp only [Value.cells, splice, nqq, Nat.reduceAdd, Nat.reduceMul, Int.reduceAdd, Int.reduceToNat] at hm))); intro a h; refine ⟨hm.sub (by repeat' (exact sln)), ?_⟩
            refine hw0 (by decide +kernel) ?_
            exact ⟨rfl, ⟨_, _, _, _, _, _, _, _, _, _, _, _, _, _, _, _, _, _, _, _, _, _, _, _, _, _⟩, _, _, ⟨⟨by (show 1 ≤ xv; omega), by (show xv ≤ 8; omega)⟩, hi1⟩, hm.sub (by repeat' (first | exact slr | refine slc ?_ | refine sld ?_)), h.keep ⟨rfl, rfl, trivial⟩⟩
        · (refine ho_op rfl rfl rfl h ?_); clear h a; (refine does_loadOA 0 hm rfl rfl rfl ?_); intro a h; (simp only [Value.cells, splice, nqq, Nat.reduceAdd, Nat.reduceMul, Int.reduceAdd, Int.reduceToNat, Int.reduceTMod] at h); refine ⟨hm.sub (by repeat' (exact sln)), ?_⟩
          refine hw1 4 (by decide +kernel) ?_
          (refine ho_op rfl rfl rfl h ?_); clear h a; (((refine does_funU 3 hm en28 rfl rfl (l01Below_ok _ _ _ _ _ _ _ hbs hl (by omega) (by omega)) (Sl.mono hp (le_hole (i := 3) hm rfl)) ?_; clear hm; rintro v cs1 L1 w ⟨⟨x, rfl, hx1, hx2⟩, ⟨i1, h1, rfl, hi1⟩, rfl⟩ hm; simp only [List.cons_append, List.nil_append, List.set_cons_zero, List.set_cons_succ] at hm))); intro a h; refine ⟨hm.sub (by repeat' (exact sln)), ?_⟩
          refine hw_take 5 rfl (by kernel_rfl) (by kernel_rfl) (by kernel_rfl) rfl rfl rfl h (hm.sub (by repeat' (exact sln))) (fun w hm => by refine does_sub rfl rfl (by omega) ?_ <;> exact ⟨rfl, rfl⟩) ?_; clear h a; intro a h
          refine hw1 7 (by decide +kernel) ?_
          (refine ho_op rfl rfl rfl h ?_); clear h a; (((refine does_funU 3 hm en28 rfl rfl (l01Below_ok _ _ _ _ _ _ _ hbs hl (by omega) (by omega)) (Sl.mono hp (le_hole (i := 3) hm rfl)) ?_; clear hm; rintro v cs1 L1 w ⟨⟨x, rfl, hx1, hx2⟩, ⟨i1, h1, rfl, hi1⟩, rfl⟩ hm; simp only [List.cons_append, List.nil_append, List.set_cons_zero, List.set_cons_succ] at hm))); intro a h; refine ⟨hm.sub (by repeat' (exact sln)), ?_⟩
          refine hw_take 8 rfl (by kernel_rfl) (by kernel_rfl) (by kernel_rfl) rfl rfl rfl h (hm.sub (by repeat' (exact sln))) (fun w hm => by refine does_build rfl rfl ?_ <;> exact ⟨rfl, rfl⟩) ?_; clear h a; intro a h; (simp only [Value.cells, splice, nqq, Nat.reduceAdd, Nat.reduceMul, Int.reduceAdd, Int.reduceToNat, Int.reduceTMod] at h)
          refine hw1 9 (by decide +kernel) ?_
          (refine ho_op rfl rfl rfl h ?_); clear h a; (((refine does_funM hm en51 rfl (translation_ok _ _ _ ⟨by omega, by omega, by omega⟩) ?_; clear hm; intro w hm))); intro a h; refine ⟨hm.sub (by repeat' (exact sln)), ?_⟩
          refine hw1 10 (by decide +kernel) ?_
          (refine ho_op rfl rfl rfl h ?_); clear h a; (refine does_buildSlice hm rfl rfl rfl ?_; clear hm; intro b w hm; (simp only [rep, nqr, Value.cells, splice, nqq, Nat.reduceAdd, Nat.reduceMul, Int.reduceAdd, Int.reduceToNat] at hm)); intro a h; refine ⟨hm.sub (by repeat' (exact sln)), ?_⟩
          refine hw1 13 (by decide +kernel) ?_
          (refine ho_op rfl rfl rfl h ?_); clear h a; ((refine does_funVal hm en50 rfl (sTransformPatch_ok _ _ _ _ _ _ _ _ _ _ _ _ _ _ _ _ ?_) (at_own (i := 0) hm rfl (fun j v hv => (by rw [Nat.zero_add]; exact hv))) ?_; exact ⟨by omega, by omega, by omega⟩; clear hm; rintro v w ⟨q0, q1, q2, q3, q4, q5, q6, q7, q8, q9, q10, q11, rfl⟩ hm)); intro a h; refine ⟨hm.sub (by repeat' (exact sln)), ?_⟩
          refine hw_take 14 rfl (by kernel_rfl) (by kernel_rfl) (by kernel_rfl) rfl rfl rfl h (hm.sub (by repeat' (exact sln))) (fun w hm => by (refine does_fieldAddrL rfl ?_) <;> exact ⟨rfl, rfl⟩) ?_; clear h a; intro a h; (simp only [Value.cells, splice, nqq, Nat.reduceAdd, Nat.reduceMul, Int.reduceAdd, Int.reduceToNat, Int.reduceTMod] at h)
          refine hw1 15 (by decide +kernel) ?_
          (refine ho_opn rfl rfl h ?_); clear h a; ((refine does_storeO 1 hm rfl rfl rfl rfl rfl rfl rfl ?_; clear hm; intro w hm; (simp only [Value.cells, splice, nqq, Nat.reduceAdd, Nat.reduceMul, Int.reduceAdd, Int.reduceToNat] at hm))); intro a h; refine ⟨hm.sub (by repeat' (exact sln)), ?_⟩
          refine hw0 (by decide +kernel) ?_
          exact ⟨rfl, ⟨_, _, _, _, _, _, _, _, _, _, _, _, _, _, _, _, _, _, _, _, _, _, _, _, _, _⟩, _, _, ⟨⟨by (show 1 ≤ xv; omega), by (show xv ≤ 8; omega)⟩, hi1⟩, hm.sub (by repeat' (first | exact slr | refine slc ?_ | refine sld ?_)), h.keep ⟨rfl, rfl, trivial⟩⟩
      · (refine ho_op rfl rfl rfl h ?_); clear h a; (refine does_loadOA 0 hm rfl rfl rfl ?_); intro a h; (simp only [Value.cells, splice, nqq, Nat.reduceAdd, Nat.reduceMul, Int.reduceAdd, Int.reduceToNat, Int.reduceTMod] at h); refine ⟨hm.sub (by repeat' (exact sln)), ?_⟩
        refine hw1 1 (by decide +kernel) ?_
        (refine ho_op rfl rfl rfl h ?_); clear h a; (((refine does_funU 3 hm en28 rfl rfl (l01Below_ok _ _ _ _ _ _ _ hbs hl (by omega) (by omega)) (Sl.mono hp (le_hole (i := 3) hm rfl)) ?_; clear hm; rintro v cs1 L1 w ⟨⟨x, rfl, hx1, hx2⟩, ⟨i1, h1, rfl, hi1⟩, rfl⟩ hm; simp only [List.cons_append, List.nil_append, List.set_cons_zero, List.set_cons_succ] at hm))); intro a h; refine ⟨hm.sub (by repeat' (exact sln)), ?_⟩
        refine hw_take 2 rfl (by kernel_rfl) (by kernel_rfl) (by kernel_rfl) rfl rfl rfl h (hm.sub (by repeat' (exact sln))) (fun w hm => by refine does_sub rfl rfl (by omega) ?_ <;> exact ⟨rfl, rfl⟩) ?_; clear h a; intro a h
        refine hw1 4 (by decide +kernel) ?_
        (refine ho_op rfl rfl rfl h ?_); clear h a; (((refine does_funU 3 hm en28 rfl rfl (l01Below_ok _ _ _ _ _ _ _ hbs hl (by omega) (by omega)) (Sl.mono hp (le_hole (i := 3) hm rfl)) ?_; clear hm; rintro v cs1 L1 w ⟨⟨x, rfl, hx1, hx2⟩, ⟨i1, h1, rfl, hi1⟩, rfl⟩ hm; simp only [List.cons_append, List.nil_append, List.set_cons_zero, List.set_cons_succ] at hm))); intro a h; refine ⟨hm.sub (by repeat' (exact sln)), ?_⟩
        refine hw_take 5 rfl (by kernel_rfl) (by kernel_rfl) (by kernel_rfl) rfl rfl rfl h (hm.sub (by repeat' (exact sln))) (fun w hm => by refine does_sub rfl rfl (by omega) ?_ <;> exact ⟨rfl, rfl⟩) ?_; clear h a; intro a h
        refine hw1 7 (by decide +kernel) ?_
        (refine ho_op rfl rfl rfl h ?_); clear h a; (((refine does_funU 3 hm en28 rfl rfl (l01Below_ok _ _ _ _ _ _ _ hbs hl (by omega) (by omega)) (Sl.mono hp (le_hole (i := 3) hm rfl)) ?_; clear hm; rintro v cs1 L1 w ⟨⟨x, rfl, hx1, hx2⟩, ⟨i1, h1, rfl, hi1⟩, rfl⟩ hm; simp only [List.cons_append, List.nil_append, List.set_cons_zero, List.set_cons_succ] at hm))); intro a h; refine ⟨hm.sub (by repeat' (exact sln)), ?_⟩
        refine hw_take 8 rfl (by kernel_rfl) (by kernel_rfl) (by kernel_rfl) rfl rfl rfl h (hm.sub (by repeat' (exact sln))) (fun w hm => by refine does_build rfl rfl ?_ <;> exact ⟨rfl, rfl⟩) ?_; clear h a; intro a h; (simp only [Value.cells, splice, nqq, Nat.reduceAdd, Nat.reduceMul, Int.reduceAdd, Int.reduceToNat, Int.reduceTMod] at h)
        refine hw1 9 (by decide +kernel) ?_
        (refine ho_op rfl rfl rfl h ?_); clear h a; (((refine does_funM hm en51 rfl (translation_ok _ _ _ ⟨by omega, by omega, by omega⟩) ?_; clear hm; intro w hm))); intro a h; refine ⟨hm.sub (by repeat' (exact sln)), ?_⟩
        refine hw1 10 (by decide +kernel) ?_
        (refine ho_op rfl rfl rfl h ?_); clear h a; (refine does_buildSlice hm rfl rfl rfl ?_; clear hm; intro b w hm; (simp only [rep, nqr, Value.cells, splice, nqq, Nat.reduceAdd, Nat.reduceMul, Int.reduceAdd, Int.reduceToNat] at hm)); intro a h; refine ⟨hm.sub (by repeat' (exact sln)), ?_⟩
        refine hw1 13 (by decide +kernel) ?_
        (refine ho_op rfl rfl rfl h ?_); clear h a; ((refine does_funVal hm en50 rfl (sTransformPatch_ok _ _ _ _ _ _ _ _ _ _ _ _ _ _ _ _ ?_) (at_own (i := 0) hm rfl (fun j v hv => (by rw [Nat.zero_add]; exact hv))) ?_; exact ⟨by omega, by omega, by omega⟩; clear hm; rintro v w ⟨q0, q1, q2, q3, q4, q5, q6, q7, q8, q9, q10, q11, rfl⟩ hm)); intro a h; refine ⟨hm.sub (by repeat' (exact sln)), ?_⟩
        refine hw_take 14 rfl (by kernel_rfl) (by kernel_rfl) (by kernel_rfl) rfl rfl rfl h (hm.sub (by repeat' (exact sln))) (fun w hm => by (refine does_fieldAddrL rfl ?_) <;> exact ⟨rfl, rfl⟩) ?_; clear h a; intro a h; (simp only [Value.cells, splice, nqq, Nat.reduceAdd, Nat.reduceMul, Int.reduceAdd, Int.reduceToNat, Int.reduceTMod] at h)
        refine hw1 15 (by decide +kernel) ?_
        (refine ho_opn rfl rfl h ?_); clear h a; ((refine does_storeO 1 hm rfl rfl rfl rfl rfl rfl rfl ?_; clear hm; intro w hm; (simp only [Value.cells, splice, nqq, Nat.reduceAdd, Nat.reduceMul, Int.reduceAdd, Int.reduceToNat] at hm))); intro a h; refine ⟨hm.sub (by repeat' (exact sln)), ?_⟩
        refine hw0 (by decide +kernel) ?_
        exact ⟨rfl, ⟨_, _, _, _, _, _, _, _, _, _, _, _, _, _, _, _, _, _, _, _, _, _, _, _, _, _⟩, _, _, ⟨⟨by (show 1 ≤ xv; omega), by (show xv ≤ 8; omega)⟩, hi1⟩, hm.sub (by repeat' (first | exact slr | refine slc ?_ | refine sld ?_)), h.keep ⟨rfl, rfl, trivial⟩⟩
    clear h hm hi1 i1 h1
    rintro a w ⟨s, i1, h1, ⟨hg, hi1⟩, hm, h⟩
    repeat' (first | refine c_seq ?_ | refine c_region ?_ | refine c_nil ?_ | refine k_then ?_ | refine c_ret ?_ | ((first | refine st_op rfl rfl h ?_ | refine st_opn rfl h ?_); clear h a; (first | (show Does _ (.store _ _ _) _ _ _ _; ((refine does_storeO 1 hm rfl rfl rfl rfl rfl rfl rfl ?_; clear hm; intro w hm; (simp only [Value.cells, splice, nqq, Nat.reduceAdd, Nat.reduceMul, Int.reduceAdd, Int.reduceToNat] at hm)))) | (show Does _ (.load _ _) _ _ _ _; (refine does_loadOA 0 hm rfl rfl rfl ?_))); intro a h; (first | simp only [Value.cells, splice, nqq, Nat.reduceAdd, Nat.reduceMul, Int.reduceAdd, Int.reduceToNat, Int.reduceTMod] at h | skip)))
    exact k_ret (vs := [_]) rfl h ⟨rv_cellA (i := 1) hm rfl rfl rfl, trivial⟩ ⟨_, [], ⟨⟨s, rfl, hg⟩, ⟨_, _, rfl, hi1⟩, rfl⟩, hm.sub (by repeat' (first | exact slr | refine sld ?_))⟩
  · exact k_ret (vs := [_]) rfl h ⟨rv_cellA (i := 2) hm rfl rfl rfl, trivial⟩ ⟨_, [], ⟨⟨⟨_, _, _, _, _, _, _, _, _, _, _, _, _, _, _, _, _, _, _, _, _, _, _, _, _, _⟩, rfl, ⟨by (show 1 ≤ xv; omega), by (show xv ≤ 8; omega)⟩⟩, ⟨_, _, rfl, hi1⟩, rfl⟩, hm.sub (by repeat' (first | exact slr | refine sld ?_))⟩
end Go.Proofs.YtcbnegmmjflmcaaGreat.St
