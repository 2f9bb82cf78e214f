/-
  Contracts of the functions that draw scenes.
-/
import Derived.Test.YtcbnegmmjflmcaaGreatLMkv
import Derived.Test.YtcbnegmmjflmcaaGreatLGod
import Derived.Test.YtcbnegmmjflmcaaGreatLDcl
set_option linter.unusedSimpArgs false
set_option linter.unusedVariables false
namespace Go.Proofs.YtcbnegmmjflmcaaGreat.St
open Go.RowKit
abbrev prV (v : Value) : Prop := ∃ (q1 : Option Addr) (n1 c1 : Nat) (q2 : Option Addr) (n2 c2 : Nat), v = .agg #[.slice q1 n1 c1, .slice q2 n2 c2]
theorem l14GoodU_ok (b : Nat) (p : Option Addr) (bs : List Int) (c i : Nat) (hz : Int) (hbs : bytesOk bs) (hl : bs.length ≤ 1048576) (hi : i ≤ bs.length) :
    FunU Tryz.prog 47 [.pointer (some ⟨b, 0, none⟩)] b curT (curC p bs.length c i hz) (fun H => Sl H p eB 1 bs) (curR p bs.length c prV) :=
  ⟨fun w hb hp => ((l14Good_ok b p bs c i hz hbs hl hi).out w [b] (hole w b) [] w hp (Mem.startU hb)).mono fun _ _ ⟨v, L', B', he, hB, ⟨⟨i1, h1, hL, hi1⟩, p1, q1, xs, ys, c1, d1, hv, _⟩, hm⟩ => by
    subst hL
    exact ⟨v, _, [], he, ⟨⟨_, _, _, _, _, _, hv⟩, ⟨_, _, rfl, hi1⟩, rfl⟩, hm.lower hB⟩⟩
structure TSn where
  cw : Int
  ch : Int
  z : Int
  ne : Int
  dd : Bool
  l : Int
  f : Int
  g : Int
  q : Option Addr
  n : Nat
  d : Nat
  sm : Int
abbrev eSn (S : TSn) (sv uv : Value) : List Value := [I S.cw, I S.ch, I S.z, I S.ne, .bool S.dd, I S.l, I S.f, I S.g, .slice S.q S.n S.d, sv, uv, I S.sm]
/-- what a maker of scenes leaves -/
def snR (v : Value) (L' : List Own) : Prop := ∃ (S : TSn) (sp : Option Addr) (k1 c1 : Nat) (up : Option Addr) (us : List TSf) (c2 : Nat), v = .agg (eSn S (.slice sp k1 c1) (.slice up us.length c2)).toArray ∧ (G.vCm S.cw S.ch S.z S.ne S.l S.f ∧ (1 ≤ k1 ∧ k1 ≤ 2) ∧ us.length ≤ 4 ∧ ∀ s ∈ us, goodS s) ∧ L' = [.row (.slice up us.length c2) 42 26 (us.map eSf).flatten]
set_option maxHeartbeats 16000000 in
theorem l20Draw_ok (bc : Nat) (p : Option Addr) (bs : List Int) (c i : Nat) (h : Int) (hbs : bytesOk bs) (hl : bs.length ≤ 1048576) (hi : i ≤ bs.length) :
    FunU Tryz.prog 25 [.pointer (some ⟨bc, 0, none⟩)] bc curT (curC p bs.length c i h) (fun H => Sl H p eB 1 bs) (fun v cs' L' => snR v L' ∧ ∃ i h, cs' = curC p bs.length c i h ∧ i ≤ bs.length) := by
  refine enterFunU Tryz.func25 rfl Tryz.ntmps25 rfl (fun W0 w a hp hm h => ?_)
  repeat' (first | refine c_seq ?_ | refine c_region ?_ | refine c_nil ?_ | refine k_then ?_ | refine c_block ?_ | (refine st_op (d := 2) rfl rfl h ?_; refine does_alloc hm ?_; clear h a hm; intro b_2 w hm a h) | (refine st_op (d := 3) rfl rfl h ?_; refine does_alloc hm ?_; clear h a hm; intro b_3 w hm a h) | ((first | refine st_op rfl rfl h ?_ | refine st_opn rfl h ?_); clear h a; (first | (show Does _ (.call _) _ _ _ _; (first | ((refine does_funU 1 hm en44 rfl rfl (l08Draw_ok _ _ _ _ _ _ hbs hl (by omega)) (Sl.mono hp (le_hole (i := 1) hm rfl)) ?_; clear hm; rintro v cs1 L1 w ⟨⟨cw, ch, z, ne, dd, lf, ff, rfl, hcam⟩, ⟨i1, h1, rfl, hi1⟩, rfl⟩ hm; simp only [List.cons_append, List.nil_append, List.set_cons_zero, List.set_cons_succ] at hm)) | ((refine does_funU 1 hm en45 rfl rfl (l15Draw_ok _ _ _ _ _ _ hbs hl (by omega)) (Sl.mono hp (le_hole (i := 1) hm rfl)) ?_; clear hm; rintro v cs1 L1 w ⟨⟨g, q, nq, dq, rfl⟩, ⟨i1, h1, rfl, hi1⟩, rfl⟩ hm; simp only [List.cons_append, List.nil_append, List.set_cons_zero, List.set_cons_succ] at hm)) | ((refine does_funU 2 hm en46 rfl rfl (l01PickI_ok _ _ _ _ _ _ _ [1, 1, 2] hbs hl (by omega) ⟨by simp, by simp⟩) ⟨Sl.mono hp (le_hole (i := 2) hm rfl), sl_holeI (i := 2) (j := 0) hm rfl rfl (by omega)⟩ ?_; clear hm; rintro v cs1 L1 w ⟨⟨xv, hxv, rfl⟩, ⟨i1, h1, rfl, hi1⟩, rfl⟩ hm; simp only [List.cons_append, List.nil_append, List.set_cons_zero, List.set_cons_succ] at hm)) | ((refine does_funU 3 hm en28 rfl rfl (l01Below_ok _ _ _ _ _ _ _ hbs hl (by omega) (by omega)) (Sl.mono hp (le_hole (i := 3) hm rfl)) ?_; clear hm; rintro v cs1 L1 w ⟨⟨x, rfl, hx1, hx2⟩, ⟨i1, h1, rfl, hi1⟩, rfl⟩ hm; simp only [List.cons_append, List.nil_append, List.set_cons_zero, List.set_cons_succ] at hm)))) | (show Does _ (.buildSlice _ _ _) _ _ _ _; (refine does_buildSlice hm rfl rfl rfl ?_; clear hm; intro b w hm; (simp only [rep, nqr, Value.cells, splice, nqq, Nat.reduceAdd, Nat.reduceMul, Int.reduceAdd, Int.reduceToNat] at hm))) | (show Does _ (.store _ _ _) _ _ _ _; ((refine does_storeO 0 hm rfl rfl rfl rfl rfl rfl rfl ?_; clear hm; intro w hm; (simp only [Value.cells, splice, nqq, Nat.reduceAdd, Nat.reduceMul, Int.reduceAdd, Int.reduceToNat] at hm)))) | (show Does _ (.move _) _ _ _ _; refine does_move rfl ?_) | (show Does _ (.assign _) _ _ _ _; refine does_assign rfl ?_) | (show Does _ (.binOp _ _ _ _ _) _ _ _ _; (refine does_add rfl rfl (by omega) ?_)) | (show Does _ (.build _ _) _ _ _ _; refine does_build rfl rfl ?_)); intro a h; (first | simp only [Value.cells, splice, nqq, Nat.reduceAdd, Nat.reduceMul, Int.reduceAdd, Int.reduceToNat, Int.reduceTMod] at h | skip)))
  obtain ⟨sm, rfl⟩ : ∃ sm, sm = xv := ⟨_, rfl⟩
  obtain ⟨m0, hm0⟩ : ∃ m0 : Int, m0 = 1 + x := ⟨_, rfl⟩
  have hm1 : 1 ≤ m0 ∧ m0 ≤ 2 := by omega
  rw [← hm0] at h
  clear hm0 hx1 hx2 hxv
  replace hm := (hm.sub (L' := [.blk b_3 (.cells [I cw, I ch, I z, I ne, .bool dd, I lf, I ff, I g, .slice q nq dq, .slice none 0 0, .slice none 0 0, I sm].toArray 31), .blk b_2 (.cells [I 0, I 0, I 0, I 0, .bool false, I 0, I 0, I 0, .slice none 0 0, .slice none 0 0, .slice none 0 0, I 0].toArray 31), .blk bc (.cells (curC p bs.length c i1 h1).toArray curT)]) (by repeat' (first | exact slr | refine slc ?_ | refine sld ?_))).addNil 108 2
  refine c_loop (σ := Int) (fun m a w => (0 ≤ m ∧ m ≤ 2) ∧ ∃ (sp : Option Addr) (c4 k : Nat) (cs : List Value) (i1 : Nat) (h1 : Int), (k + m = m0 ∧ (k ≤ c4 ∧ c4 ≤ maxLen) ∧ cs.length = k * 2 ∧ i1 ≤ bs.length) ∧ Mem W0 [bc] (hole W0 bc) (.row (.slice sp k c4) 108 2 cs :: .blk b_3 (.cells [I cw, I ch, I z, I ne, .bool dd, I lf, I ff, I g, .slice q nq dq, .slice sp k c4, .slice none 0 0, I sm].toArray 31) :: [.blk b_2 (.cells [I 0, I 0, I 0, I 0, .bool false, I 0, I 0, I 0, .slice none 0 0, .slice none 0 0, .slice none 0 0, I 0].toArray 31), .blk bc (.cells (curC p bs.length c i1 h1).toArray curT)]) w ∧ Holds [(4, I m), (0, .pointer (some ⟨bc, 0, none⟩)), (2, .pointer (some ⟨b_2, 0, none⟩)), (3, .pointer (some ⟨b_3, 0, none⟩))] 45 a) (fun m => m.toNat) m0 ⟨⟨by omega, by omega⟩, none, 0, 0, [], _, _, ⟨by omega, ⟨Nat.le_refl _, by simp only [maxLen]; omega⟩, rfl, hi1⟩, hm, h.keep ⟨rfl, rfl, rfl, rfl, trivial⟩⟩ ?_
  clear h hm hi1 i1 h1 a w
  rintro m a w ⟨⟨hk0, hk1⟩, sp, c4, k, cs, i1, h1, ⟨hxl, ⟨hc1, hc2⟩, hcs, hi1⟩, hm, h⟩
  by_cases hlt : 0 < m
  · repeat' (first | refine c_seq ?_ | refine c_region ?_ | refine c_nil ?_ | refine k_then ?_ | refine c_skip ?_ | refine c_block ?_ | refine c_condT h rfl ?_ | ((refine st_op rfl rfl h ?_); clear h a; (first | (show Does _ (.move _) _ _ _ _; refine does_move rfl ?_) | (show Does _ (.binOp _ _ _ _ _) _ _ _ _; (refine does_gtrT rfl rfl (by omega) ?_))); intro a h))
    refine cw_cutN (fun a w => ∃ (sp : Option Addr) (c4 k : Nat) (cs : List Value) (i1 : Nat) (h1 : Int), (k + m = m0 + 1 ∧ (k ≤ c4 ∧ c4 ≤ maxLen) ∧ cs.length = k * 2 ∧ i1 ≤ bs.length) ∧ Mem W0 [bc] (hole W0 bc) (.row (.slice sp k c4) 108 2 cs :: .blk b_3 (.cells [I cw, I ch, I z, I ne, .bool dd, I lf, I ff, I g, .slice q nq dq, .slice sp k c4, .slice none 0 0, I sm].toArray 31) :: [.blk b_2 (.cells [I 0, I 0, I 0, I 0, .bool false, I 0, I 0, I 0, .slice none 0 0, .slice none 0 0, .slice none 0 0, I 0].toArray 31), .blk bc (.cells (curC p bs.length c i1 h1).toArray curT)]) w ∧ Holds [(4, I m), (0, .pointer (some ⟨bc, 0, none⟩)), (2, .pointer (some ⟨b_2, 0, none⟩)), (3, .pointer (some ⟨b_3, 0, none⟩))] 45 a) ?_ ?_
    · skip
      refine hw_region ([]) mixed hm ?_; clear hm; intro w hm
      refine hw_take 0 rfl (by kernel_rfl) (by kernel_rfl) (by kernel_rfl) rfl rfl rfl h (hm.sub (by repeat' (exact sln))) (fun w hm => by (refine does_fieldAddrL rfl ?_) <;> exact ⟨rfl, rfl⟩) ?_; clear h a; intro a h; (simp only [Value.cells, splice, nqq, Nat.reduceAdd, Nat.reduceMul, Int.reduceAdd, Int.reduceToNat, Int.reduceTMod] at h)
      refine hw_take 2 rfl (by kernel_rfl) (by kernel_rfl) (by kernel_rfl) rfl rfl rfl h (hm.sub (by repeat' (exact sln))) (fun w hm => by refine does_move rfl ?_ <;> exact ⟨rfl, rfl⟩) ?_; clear h a; intro a h
      refine hw2 1 3 (by decide +kernel) ?_ ?_
      · (refine ho_op rfl rfl rfl h ?_); clear h a; (refine does_loadO 1 hm rfl rfl rfl ?_); intro a h; refine ⟨hm.sub (by repeat' (exact sln)), ?_⟩
        refine hw1 3 (by decide +kernel) ?_
        (refine ho_op rfl rfl rfl h ?_); clear h a; ((refine does_funU 3 hm en47 rfl rfl (l14GoodU_ok _ _ _ _ _ _ hbs hl (by omega)) (Sl.mono hp (le_hole (i := 3) hm rfl)) ?_; clear hm; rintro v cs1 L1 w ⟨⟨q1, n1, c1, q2, n2, c2, rfl⟩, ⟨i2, h2, rfl, hi2⟩, rfl⟩ hm; simp only [List.cons_append, List.nil_append, List.set_cons_zero, List.set_cons_succ] at hm)); intro a h; refine ⟨hm.sub (by repeat' (exact sln)), ?_⟩
        refine hw1 4 (by decide +kernel) ?_
        (refine ho_op rfl rfl rfl h ?_); clear h a; (refine does_buildSlice hm rfl rfl rfl ?_; clear hm; intro b w hm; (simp only [rep, nqr, Value.cells, splice, nqq, Nat.reduceAdd, Nat.reduceMul, Int.reduceAdd, Int.reduceToNat] at hm)); intro a h; refine ⟨hm.sub (by repeat' (exact sln)), ?_⟩
        refine hw1 5 (by decide +kernel) ?_
        (refine ho_op rfl rfl rfl h ?_); clear h a; (((refine does_appX 1 (n := k) (news := [.slice q1 n1 c1, .slice q2 n2 c2]) hm rfl rfl rfl (by omega) hcs rfl (.inr ⟨_, rfl, at_own (i := 0) hm rfl (fun j v hv => (by rw [Nat.zero_add]; exact hv))⟩) (oneCells_mem rfl) (by omega) (by simp only [maxLen]; omega) ?_; clear hm; intro pp2 c3 w hc8 hc9 hm; simp only [List.set_cons_zero, List.set_cons_succ] at hm))); intro a h; refine ⟨hm.sub (by repeat' (exact sln)), ?_⟩
        refine hw_take 6 rfl (by kernel_rfl) (by kernel_rfl) (by kernel_rfl) rfl rfl rfl h (hm.sub (by repeat' (exact sln))) (fun w hm => by (refine does_fieldAddrL rfl ?_) <;> exact ⟨rfl, rfl⟩) ?_; clear h a; intro a h; (simp only [Value.cells, splice, nqq, Nat.reduceAdd, Nat.reduceMul, Int.reduceAdd, Int.reduceToNat, Int.reduceTMod] at h)
        refine hw1 7 (by decide +kernel) ?_
        (refine ho_opn rfl rfl h ?_); clear h a; ((refine does_storeO 2 hm rfl rfl rfl rfl rfl rfl rfl ?_; clear hm; intro w hm; (simp only [Value.cells, splice, nqq, Nat.reduceAdd, Nat.reduceMul, Int.reduceAdd, Int.reduceToNat] at hm))); intro a h; refine ⟨hm.sub (by repeat' (exact sln)), ?_⟩
        refine hw0 (by decide +kernel) ?_
        exact ⟨rfl, _, _, k + 1, _, _, _, ⟨by omega, ⟨by omega, hc9⟩, by (rw [List.length_append, hcs]; simp only [List.length_cons, List.length_nil]; omega), hi2⟩, hm.drop, h.keep ⟨rfl, rfl, rfl, rfl, trivial⟩⟩
      · (refine ho_op rfl rfl rfl h ?_); clear h a; ((refine does_funU 3 hm en47 rfl rfl (l14GoodU_ok _ _ _ _ _ _ hbs hl (by omega)) (Sl.mono hp (le_hole (i := 3) hm rfl)) ?_; clear hm; rintro v cs1 L1 w ⟨⟨q1, n1, c1, q2, n2, c2, rfl⟩, ⟨i2, h2, rfl, hi2⟩, rfl⟩ hm; simp only [List.cons_append, List.nil_append, List.set_cons_zero, List.set_cons_succ] at hm)); intro a h; refine ⟨hm.sub (by repeat' (exact sln)), ?_⟩
        refine hw2 1 4 (by decide +kernel) ?_ ?_
        · (refine ho_op rfl rfl rfl h ?_); clear h a; (refine does_loadO 1 hm rfl rfl rfl ?_); intro a h; refine ⟨hm.sub (by repeat' (exact sln)), ?_⟩
          refine hw1 4 (by decide +kernel) ?_
          (refine ho_op rfl rfl rfl h ?_); clear h a; (refine does_buildSlice hm rfl rfl rfl ?_; clear hm; intro b w hm; (simp only [rep, nqr, Value.cells, splice, nqq, Nat.reduceAdd, Nat.reduceMul, Int.reduceAdd, Int.reduceToNat] at hm)); intro a h; refine ⟨hm.sub (by repeat' (exact sln)), ?_⟩
          refine hw1 5 (by decide +kernel) ?_
          (refine ho_op rfl rfl rfl h ?_); clear h a; (((refine does_appX 1 (n := k) (news := [.slice q1 n1 c1, .slice q2 n2 c2]) hm rfl rfl rfl (by omega) hcs rfl (.inr ⟨_, rfl, at_own (i := 0) hm rfl (fun j v hv => (by rw [Nat.zero_add]; exact hv))⟩) (oneCells_mem rfl) (by omega) (by simp only [maxLen]; omega) ?_; clear hm; intro pp2 c3 w hc8 hc9 hm; simp only [List.set_cons_zero, List.set_cons_succ] at hm))); intro a h; refine ⟨hm.sub (by repeat' (exact sln)), ?_⟩
          refine hw_take 6 rfl (by kernel_rfl) (by kernel_rfl) (by kernel_rfl) rfl rfl rfl h (hm.sub (by repeat' (exact sln))) (fun w hm => by (refine does_fieldAddrL rfl ?_) <;> exact ⟨rfl, rfl⟩) ?_; clear h a; intro a h; (simp only [Value.cells, splice, nqq, Nat.reduceAdd, Nat.reduceMul, Int.reduceAdd, Int.reduceToNat, Int.reduceTMod] at h)
          refine hw1 7 (by decide +kernel) ?_
          (refine ho_opn rfl rfl h ?_); clear h a; ((refine does_storeO 2 hm rfl rfl rfl rfl rfl rfl rfl ?_; clear hm; intro w hm; (simp only [Value.cells, splice, nqq, Nat.reduceAdd, Nat.reduceMul, Int.reduceAdd, Int.reduceToNat] at hm))); intro a h; refine ⟨hm.sub (by repeat' (exact sln)), ?_⟩
          refine hw0 (by decide +kernel) ?_
          exact ⟨rfl, _, _, k + 1, _, _, _, ⟨by omega, ⟨by omega, hc9⟩, by (rw [List.length_append, hcs]; simp only [List.length_cons, List.length_nil]; omega), hi2⟩, hm.drop, h.keep ⟨rfl, rfl, rfl, rfl, trivial⟩⟩
        · (refine ho_op rfl rfl rfl h ?_); clear h a; (refine does_buildSlice hm rfl rfl rfl ?_; clear hm; intro b w hm; (simp only [rep, nqr, Value.cells, splice, nqq, Nat.reduceAdd, Nat.reduceMul, Int.reduceAdd, Int.reduceToNat] at hm)); intro a h; refine ⟨hm.sub (by repeat' (exact sln)), ?_⟩
          refine hw1 1 (by decide +kernel) ?_
          (refine ho_op rfl rfl rfl h ?_); clear h a; (refine does_loadO 2 hm rfl rfl rfl ?_); intro a h; refine ⟨hm.sub (by repeat' (exact sln)), ?_⟩
          refine hw1 5 (by decide +kernel) ?_
          (refine ho_op rfl rfl rfl h ?_); clear h a; (((refine does_appX 1 (n := k) (news := [.slice q1 n1 c1, .slice q2 n2 c2]) hm rfl rfl rfl (by omega) hcs rfl (.inr ⟨_, rfl, at_own (i := 0) hm rfl (fun j v hv => (by rw [Nat.zero_add]; exact hv))⟩) (oneCells_mem rfl) (by omega) (by simp only [maxLen]; omega) ?_; clear hm; intro pp2 c3 w hc8 hc9 hm; simp only [List.set_cons_zero, List.set_cons_succ] at hm))); intro a h; refine ⟨hm.sub (by repeat' (exact sln)), ?_⟩
          refine hw_take 6 rfl (by kernel_rfl) (by kernel_rfl) (by kernel_rfl) rfl rfl rfl h (hm.sub (by repeat' (exact sln))) (fun w hm => by (refine does_fieldAddrL rfl ?_) <;> exact ⟨rfl, rfl⟩) ?_; clear h a; intro a h; (simp only [Value.cells, splice, nqq, Nat.reduceAdd, Nat.reduceMul, Int.reduceAdd, Int.reduceToNat, Int.reduceTMod] at h)
          refine hw1 7 (by decide +kernel) ?_
          (refine ho_opn rfl rfl h ?_); clear h a; ((refine does_storeO 2 hm rfl rfl rfl rfl rfl rfl rfl ?_; clear hm; intro w hm; (simp only [Value.cells, splice, nqq, Nat.reduceAdd, Nat.reduceMul, Int.reduceAdd, Int.reduceToNat] at hm))); intro a h; refine ⟨hm.sub (by repeat' (exact sln)), ?_⟩
          refine hw0 (by decide +kernel) ?_
          exact ⟨rfl, _, _, k + 1, _, _, _, ⟨by omega, ⟨by omega, hc9⟩, by (rw [List.length_append, hcs]; simp only [List.length_cons, List.length_nil]; omega), hi2⟩, hm.drop, h.keep ⟨rfl, rfl, rfl, rfl, trivial⟩⟩
    clear h hm hi1 i1 h1 hcs hxl hc1 hc2 cs k c4 sp
    rintro a w ⟨sp, c4, k, cs, i1, h1, ⟨hxl, ⟨hc1, hc2⟩, hcs, hi1⟩, hm, h⟩
    repeat' (first | refine c_region ?_ | refine c_nil ?_ | refine k_then ?_ | refine k_inN ?_ | ((refine st_op rfl rfl h ?_); clear h a; (first | (show Does _ (.move _) _ _ _ _; refine does_move rfl ?_) | (show Does _ (.assign _) _ _ _ _; refine does_assign rfl ?_) | (show Does _ (.binOp _ _ _ _ _) _ _ _ _; (refine does_sub rfl rfl (by omega) ?_))); intro a h))
    exact k_thenN ⟨m - 1, ⟨⟨by omega, by omega⟩, sp, c4, k, cs, i1, h1, ⟨by omega, ⟨hc1, hc2⟩, hcs, hi1⟩, hm, h.keep ⟨rfl, rfl, rfl, rfl, trivial⟩⟩, by omega⟩
  · obtain ⟨hk2, hk3⟩ : 1 ≤ k ∧ k ≤ 2 := by omega
    repeat' (first | refine c_seq ?_ | refine c_region ?_ | refine c_nil ?_ | refine k_then ?_ | refine k_thenE ?_ | refine k_inE ?_ | refine c_exit ?_ | refine c_block ?_ | refine c_condF h rfl ?_ | ((refine st_op rfl rfl h ?_); clear h a; (first | (show Does _ (.call _) _ _ _ _; (((refine does_funU 3 hm en28 rfl rfl (l01Below_ok _ _ _ _ _ _ _ hbs hl (by omega) (by omega)) (Sl.mono hp (le_hole (i := 3) hm rfl)) ?_; clear hm; rintro v cs1 L1 w ⟨⟨x, rfl, hx1, hx2⟩, ⟨i1, h1, rfl, hi1⟩, rfl⟩ hm; simp only [List.cons_append, List.nil_append, List.set_cons_zero, List.set_cons_succ] at hm)))) | (show Does _ (.move _) _ _ _ _; refine does_move rfl ?_) | (show Does _ (.assign _) _ _ _ _; refine does_assign rfl ?_) | (show Does _ (.binOp _ _ _ _ _) _ _ _ _; (refine does_gtrF rfl rfl (by omega) ?_))); intro a h))
    replace hm := hm.drop.addNil 42 26
    clear hcs hxl hlt hk0 hk1
    refine c_loop (σ := Int) (fun m a w => (0 ≤ m ∧ m ≤ 3) ∧ ∃ (up : Option Addr) (c5 : Nat) (us : List TSf) (i1 : Nat) (h1 : Int), (us.length + m ≤ 3 ∧ (us.length ≤ c5 ∧ c5 ≤ maxLen) ∧ (∀ s ∈ us, goodS s) ∧ i1 ≤ bs.length) ∧ Mem W0 [bc] (hole W0 bc) (.row (.slice up us.length c5) 42 26 (us.map eSf).flatten :: .blk b_3 (.cells [I cw, I ch, I z, I ne, .bool dd, I lf, I ff, I g, .slice q nq dq, .slice sp k c4, .slice up us.length c5, I sm].toArray 31) :: [.blk b_2 (.cells [I 0, I 0, I 0, I 0, .bool false, I 0, I 0, I 0, .slice none 0 0, .slice none 0 0, .slice none 0 0, I 0].toArray 31), .blk bc (.cells (curC p bs.length c i1 h1).toArray curT)]) w ∧ Holds [(5, I m), (0, .pointer (some ⟨bc, 0, none⟩)), (2, .pointer (some ⟨b_2, 0, none⟩)), (3, .pointer (some ⟨b_3, 0, none⟩))] 45 a) (fun m => m.toNat) x ⟨⟨by omega, by omega⟩, none, 0, [], _, _, ⟨by (simp only [List.length_nil]; omega), ⟨Nat.le_refl _, by simp only [maxLen]; omega⟩, by simp, hi1⟩, hm, h.keep ⟨rfl, rfl, rfl, rfl, trivial⟩⟩ ?_
    clear h hm hi1 i1 h1 hx1 hx2 x a w
    rintro m a w ⟨⟨hk0, hk1⟩, up, c5, us, i1, h1, ⟨hxl, ⟨hc3, hc4⟩, hus, hi1⟩, hm, h⟩
    have hfl := flat_len (enc := eSf) (sz := 26) (fun _ => rfl) us
    by_cases hlt : 0 < m
    · repeat' (first | refine c_seq ?_ | refine c_region ?_ | refine c_nil ?_ | refine k_then ?_ | refine c_skip ?_ | refine c_block ?_ | refine c_condT h rfl ?_ | ((refine st_op rfl rfl h ?_); clear h a; (first | (show Does _ (.move _) _ _ _ _; refine does_move rfl ?_) | (show Does _ (.binOp _ _ _ _ _) _ _ _ _; (refine does_gtrT rfl rfl (by omega) ?_))); intro a h))
      refine cw_cutN (fun a w => ∃ (up : Option Addr) (c5 : Nat) (us : List TSf) (i1 : Nat) (h1 : Int), (us.length + m ≤ 4 ∧ (us.length ≤ c5 ∧ c5 ≤ maxLen) ∧ (∀ s ∈ us, goodS s) ∧ i1 ≤ bs.length) ∧ Mem W0 [bc] (hole W0 bc) (.row (.slice up us.length c5) 42 26 (us.map eSf).flatten :: .blk b_3 (.cells [I cw, I ch, I z, I ne, .bool dd, I lf, I ff, I g, .slice q nq dq, .slice sp k c4, .slice up us.length c5, I sm].toArray 31) :: [.blk b_2 (.cells [I 0, I 0, I 0, I 0, .bool false, I 0, I 0, I 0, .slice none 0 0, .slice none 0 0, .slice none 0 0, I 0].toArray 31), .blk bc (.cells (curC p bs.length c i1 h1).toArray curT)]) w ∧ Holds [(5, I m), (0, .pointer (some ⟨bc, 0, none⟩)), (2, .pointer (some ⟨b_2, 0, none⟩)), (3, .pointer (some ⟨b_3, 0, none⟩))] 45 a) ?_ ?_
      · skip
        refine hw_region ([]) mixed hm ?_; clear hm; intro w hm
        refine hw_take 0 rfl (by kernel_rfl) (by kernel_rfl) (by kernel_rfl) rfl rfl rfl h (hm.sub (by repeat' (exact sln))) (fun w hm => by (refine does_fieldAddrL rfl ?_) <;> exact ⟨rfl, rfl⟩) ?_; clear h a; intro a h; (simp only [Value.cells, splice, nqq, Nat.reduceAdd, Nat.reduceMul, Int.reduceAdd, Int.reduceToNat, Int.reduceTMod] at h)
        refine hw_take 2 rfl (by kernel_rfl) (by kernel_rfl) (by kernel_rfl) rfl rfl rfl h (hm.sub (by repeat' (exact sln))) (fun w hm => by refine does_move rfl ?_ <;> exact ⟨rfl, rfl⟩) ?_; clear h a; intro a h
        refine hw_take 3 rfl (by kernel_rfl) (by kernel_rfl) (by kernel_rfl) rfl rfl rfl h (hm.sub (by repeat' (exact sln))) (fun w hm => by (refine does_fieldAddrL rfl ?_) <;> exact ⟨rfl, rfl⟩) ?_; clear h a; intro a h; (simp only [Value.cells, splice, nqq, Nat.reduceAdd, Nat.reduceMul, Int.reduceAdd, Int.reduceToNat, Int.reduceTMod] at h)
        refine hw2 1 4 (by decide +kernel) ?_ ?_
        · (refine ho_op rfl rfl rfl h ?_); clear h a; (refine does_loadO 1 hm rfl rfl rfl ?_); intro a h; refine ⟨hm.sub (by repeat' (exact sln)), ?_⟩
          refine hw1 4 (by decide +kernel) ?_
          (refine ho_op rfl rfl rfl h ?_); clear h a; (refine does_loadO 1 hm rfl rfl rfl ?_); intro a h; refine ⟨hm.sub (by repeat' (exact sln)), ?_⟩
          refine hw1 5 (by decide +kernel) ?_
          (refine ho_op rfl rfl rfl h ?_); clear h a; (refine does_lenS (SliceT.out) rfl ?_); intro a h; refine ⟨hm.sub (by repeat' (exact sln)), ?_⟩
          refine hw1 6 (by decide +kernel) ?_
          (refine ho_op rfl rfl rfl h ?_); clear h a; ((refine does_funU 3 hm en26 rfl rfl (l20Surf_ok _ _ _ _ _ _ _ hbs hl (by omega) (by omega)) (Sl.mono hp (le_hole (i := 3) hm rfl)) ?_; clear hm; rintro v cs1 L1 w ⟨⟨s, rfl, hgs⟩, ⟨i2, h2, rfl, hi2⟩, rfl⟩ hm; simp only [List.cons_append, List.nil_append, List.set_cons_zero, List.set_cons_succ] at hm)); intro a h; refine ⟨hm.sub (by repeat' (exact sln)), ?_⟩
          refine hw1 7 (by decide +kernel) ?_
          (refine ho_op rfl rfl rfl h ?_); clear h a; (refine does_buildSlice hm rfl rfl rfl ?_; clear hm; intro b w hm; (simp only [rep, nqr, Value.cells, splice, nqq, Nat.reduceAdd, Nat.reduceMul, Int.reduceAdd, Int.reduceToNat] at hm)); intro a h; refine ⟨hm.sub (by repeat' (exact sln)), ?_⟩
          refine hw1 8 (by decide +kernel) ?_
          (refine ho_op rfl rfl rfl h ?_); clear h a; (((refine does_appX 1 (n := us.length) (news := eSf s) hm rfl rfl rfl (by omega) hfl rfl (.inr ⟨_, rfl, at_own (i := 0) hm rfl (fun j v hv => (by rw [Nat.zero_add]; exact hv))⟩) (oneCells_mem rfl) (by omega) (by simp only [maxLen]; omega) ?_; clear hm; intro pp2 c3 w hc8 hc9 hm; simp only [List.set_cons_zero, List.set_cons_succ] at hm))); intro a h; refine ⟨hm.sub (by repeat' (exact sln)), ?_⟩
          refine hw_take 9 rfl (by kernel_rfl) (by kernel_rfl) (by kernel_rfl) rfl rfl rfl h (hm.sub (by repeat' (exact sln))) (fun w hm => by (refine does_fieldAddrL rfl ?_) <;> exact ⟨rfl, rfl⟩) ?_; clear h a; intro a h; (simp only [Value.cells, splice, nqq, Nat.reduceAdd, Nat.reduceMul, Int.reduceAdd, Int.reduceToNat, Int.reduceTMod] at h)
          refine hw1 10 (by decide +kernel) ?_
          (refine ho_opn rfl rfl h ?_); clear h a; ((refine does_storeO 2 hm rfl rfl rfl rfl rfl rfl rfl ?_; clear hm; intro w hm; (simp only [Value.cells, splice, nqq, Nat.reduceAdd, Nat.reduceMul, Int.reduceAdd, Int.reduceToNat] at hm))); intro a h; refine ⟨hm.sub (by repeat' (exact sln)), ?_⟩
          refine hw0 (by decide +kernel) ?_
          exact ⟨rfl, _, _, us ++ [s], _, _, ⟨by (rw [List.length_append]; simp only [List.length_cons, List.length_nil]; omega), ⟨by (rw [List.length_append]; exact hc8), hc9⟩, fun y hy => by (rcases List.mem_append.1 hy with hy | hy; exact hus y hy; rw [List.mem_singleton] at hy; exact hy ▸ hgs), hi2⟩, by (rw [List.length_append, List.map_append, List.flatten_append]; exact hm.drop), h.keep ⟨rfl, rfl, rfl, rfl, trivial⟩⟩
        · (refine ho_op rfl rfl rfl h ?_); clear h a; (refine does_loadO 1 hm rfl rfl rfl ?_); intro a h; refine ⟨hm.sub (by repeat' (exact sln)), ?_⟩
          refine hw2 1 5 (by decide +kernel) ?_ ?_
          · (refine ho_op rfl rfl rfl h ?_); clear h a; (refine does_loadO 1 hm rfl rfl rfl ?_); intro a h; refine ⟨hm.sub (by repeat' (exact sln)), ?_⟩
            refine hw1 5 (by decide +kernel) ?_
            (refine ho_op rfl rfl rfl h ?_); clear h a; (refine does_lenS (SliceT.out) rfl ?_); intro a h; refine ⟨hm.sub (by repeat' (exact sln)), ?_⟩
            refine hw1 6 (by decide +kernel) ?_
            (refine ho_op rfl rfl rfl h ?_); clear h a; ((refine does_funU 3 hm en26 rfl rfl (l20Surf_ok _ _ _ _ _ _ _ hbs hl (by omega) (by omega)) (Sl.mono hp (le_hole (i := 3) hm rfl)) ?_; clear hm; rintro v cs1 L1 w ⟨⟨s, rfl, hgs⟩, ⟨i2, h2, rfl, hi2⟩, rfl⟩ hm; simp only [List.cons_append, List.nil_append, List.set_cons_zero, List.set_cons_succ] at hm)); intro a h; refine ⟨hm.sub (by repeat' (exact sln)), ?_⟩
            refine hw1 7 (by decide +kernel) ?_
            (refine ho_op rfl rfl rfl h ?_); clear h a; (refine does_buildSlice hm rfl rfl rfl ?_; clear hm; intro b w hm; (simp only [rep, nqr, Value.cells, splice, nqq, Nat.reduceAdd, Nat.reduceMul, Int.reduceAdd, Int.reduceToNat] at hm)); intro a h; refine ⟨hm.sub (by repeat' (exact sln)), ?_⟩
            refine hw1 8 (by decide +kernel) ?_
            (refine ho_op rfl rfl rfl h ?_); clear h a; (((refine does_appX 1 (n := us.length) (news := eSf s) hm rfl rfl rfl (by omega) hfl rfl (.inr ⟨_, rfl, at_own (i := 0) hm rfl (fun j v hv => (by rw [Nat.zero_add]; exact hv))⟩) (oneCells_mem rfl) (by omega) (by simp only [maxLen]; omega) ?_; clear hm; intro pp2 c3 w hc8 hc9 hm; simp only [List.set_cons_zero, List.set_cons_succ] at hm))); intro a h; refine ⟨hm.sub (by repeat' (exact sln)), ?_⟩
            refine hw_take 9 rfl (by kernel_rfl) (by kernel_rfl) (by kernel_rfl) rfl rfl rfl h (hm.sub (by repeat' (exact sln))) (fun w hm => by (refine does_fieldAddrL rfl ?_) <;> exact ⟨rfl, rfl⟩) ?_; clear h a; intro a h; (simp only [Value.cells, splice, nqq, Nat.reduceAdd, Nat.reduceMul, Int.reduceAdd, Int.reduceToNat, Int.reduceTMod] at h)
            refine hw1 10 (by decide +kernel) ?_
            (refine ho_opn rfl rfl h ?_); clear h a; ((refine does_storeO 2 hm rfl rfl rfl rfl rfl rfl rfl ?_; clear hm; intro w hm; (simp only [Value.cells, splice, nqq, Nat.reduceAdd, Nat.reduceMul, Int.reduceAdd, Int.reduceToNat] at hm))); intro a h; refine ⟨hm.sub (by repeat' (exact sln)), ?_⟩
            refine hw0 (by decide +kernel) ?_
            exact ⟨rfl, _, _, us ++ [s], _, _, ⟨by (rw [List.length_append]; simp only [List.length_cons, List.length_nil]; omega), ⟨by (rw [List.length_append]; exact hc8), hc9⟩, fun y hy => by (rcases List.mem_append.1 hy with hy | hy; exact hus y hy; rw [List.mem_singleton] at hy; exact hy ▸ hgs), hi2⟩, by (rw [List.length_append, List.map_append, List.flatten_append]; exact hm.drop), h.keep ⟨rfl, rfl, rfl, rfl, trivial⟩⟩
          · (refine ho_op rfl rfl rfl h ?_); clear h a; (refine does_lenS (SliceT.out) rfl ?_); intro a h; refine ⟨hm.sub (by repeat' (exact sln)), ?_⟩
            refine hw2 1 6 (by decide +kernel) ?_ ?_
            · (refine ho_op rfl rfl rfl h ?_); clear h a; (refine does_loadO 1 hm rfl rfl rfl ?_); intro a h; refine ⟨hm.sub (by repeat' (exact sln)), ?_⟩
              refine hw1 6 (by decide +kernel) ?_
              (refine ho_op rfl rfl rfl h ?_); clear h a; ((refine does_funU 3 hm en26 rfl rfl (l20Surf_ok _ _ _ _ _ _ _ hbs hl (by omega) (by omega)) (Sl.mono hp (le_hole (i := 3) hm rfl)) ?_; clear hm; rintro v cs1 L1 w ⟨⟨s, rfl, hgs⟩, ⟨i2, h2, rfl, hi2⟩, rfl⟩ hm; simp only [List.cons_append, List.nil_append, List.set_cons_zero, List.set_cons_succ] at hm)); intro a h; refine ⟨hm.sub (by repeat' (exact sln)), ?_⟩
              refine hw1 7 (by decide +kernel) ?_
              (refine ho_op rfl rfl rfl h ?_); clear h a; (refine does_buildSlice hm rfl rfl rfl ?_; clear hm; intro b w hm; (simp only [rep, nqr, Value.cells, splice, nqq, Nat.reduceAdd, Nat.reduceMul, Int.reduceAdd, Int.reduceToNat] at hm)); intro a h; refine ⟨hm.sub (by repeat' (exact sln)), ?_⟩
              refine hw1 8 (by decide +kernel) ?_
              (refine ho_op rfl rfl rfl h ?_); clear h a; (((refine does_appX 1 (n := us.length) (news := eSf s) hm rfl rfl rfl (by omega) hfl rfl (.inr ⟨_, rfl, at_own (i := 0) hm rfl (fun j v hv => (by rw [Nat.zero_add]; exact hv))⟩) (oneCells_mem rfl) (by omega) (by simp only [maxLen]; omega) ?_; clear hm; intro pp2 c3 w hc8 hc9 hm; simp only [List.set_cons_zero, List.set_cons_succ] at hm))); intro a h; refine ⟨hm.sub (by repeat' (exact sln)), ?_⟩
              refine hw_take 9 rfl (by kernel_rfl) (by kernel_rfl) (by kernel_rfl) rfl rfl rfl h (hm.sub (by repeat' (exact sln))) (fun w hm => by (refine does_fieldAddrL rfl ?_) <;> exact ⟨rfl, rfl⟩) ?_; clear h a; intro a h; (simp only [Value.cells, splice, nqq, Nat.reduceAdd, Nat.reduceMul, Int.reduceAdd, Int.reduceToNat, Int.reduceTMod] at h)
              refine hw1 10 (by decide +kernel) ?_
              (refine ho_opn rfl rfl h ?_); clear h a; ((refine does_storeO 2 hm rfl rfl rfl rfl rfl rfl rfl ?_; clear hm; intro w hm; (simp only [Value.cells, splice, nqq, Nat.reduceAdd, Nat.reduceMul, Int.reduceAdd, Int.reduceToNat] at hm))); intro a h; refine ⟨hm.sub (by repeat' (exact sln)), ?_⟩
              refine hw0 (by decide +kernel) ?_
              exact ⟨rfl, _, _, us ++ [s], _, _, ⟨by (rw [List.length_append]; simp only [List.length_cons, List.length_nil]; omega), ⟨by (rw [List.length_append]; exact hc8), hc9⟩, fun y hy => by (rcases List.mem_append.1 hy with hy | hy; exact hus y hy; rw [List.mem_singleton] at hy; exact hy ▸ hgs), hi2⟩, by (rw [List.length_append, List.map_append, List.flatten_append]; exact hm.drop), h.keep ⟨rfl, rfl, rfl, rfl, trivial⟩⟩
            · (refine ho_op rfl rfl rfl h ?_); clear h a; ((refine does_funU 3 hm en26 rfl rfl (l20Surf_ok _ _ _ _ _ _ _ hbs hl (by omega) (by omega)) (Sl.mono hp (le_hole (i := 3) hm rfl)) ?_; clear hm; rintro v cs1 L1 w ⟨⟨s, rfl, hgs⟩, ⟨i2, h2, rfl, hi2⟩, rfl⟩ hm; simp only [List.cons_append, List.nil_append, List.set_cons_zero, List.set_cons_succ] at hm)); intro a h; refine ⟨hm.sub (by repeat' (exact sln)), ?_⟩
              refine hw2 1 7 (by decide +kernel) ?_ ?_
              · (refine ho_op rfl rfl rfl h ?_); clear h a; (refine does_loadO 1 hm rfl rfl rfl ?_); intro a h; refine ⟨hm.sub (by repeat' (exact sln)), ?_⟩
                refine hw1 7 (by decide +kernel) ?_
                (refine ho_op rfl rfl rfl h ?_); clear h a; (refine does_buildSlice hm rfl rfl rfl ?_; clear hm; intro b w hm; (simp only [rep, nqr, Value.cells, splice, nqq, Nat.reduceAdd, Nat.reduceMul, Int.reduceAdd, Int.reduceToNat] at hm)); intro a h; refine ⟨hm.sub (by repeat' (exact sln)), ?_⟩
                refine hw1 8 (by decide +kernel) ?_
                (refine ho_op rfl rfl rfl h ?_); clear h a; (((refine does_appX 1 (n := us.length) (news := eSf s) hm rfl rfl rfl (by omega) hfl rfl (.inr ⟨_, rfl, at_own (i := 0) hm rfl (fun j v hv => (by rw [Nat.zero_add]; exact hv))⟩) (oneCells_mem rfl) (by omega) (by simp only [maxLen]; omega) ?_; clear hm; intro pp2 c3 w hc8 hc9 hm; simp only [List.set_cons_zero, List.set_cons_succ] at hm))); intro a h; refine ⟨hm.sub (by repeat' (exact sln)), ?_⟩
                refine hw_take 9 rfl (by kernel_rfl) (by kernel_rfl) (by kernel_rfl) rfl rfl rfl h (hm.sub (by repeat' (exact sln))) (fun w hm => by (refine does_fieldAddrL rfl ?_) <;> exact ⟨rfl, rfl⟩) ?_; clear h a; intro a h; (simp only [Value.cells, splice, nqq, Nat.reduceAdd, Nat.reduceMul, Int.reduceAdd, Int.reduceToNat, Int.reduceTMod] at h)
                refine hw1 10 (by decide +kernel) ?_
                (refine ho_opn rfl rfl h ?_); clear h a; ((refine does_storeO 2 hm rfl rfl rfl rfl rfl rfl rfl ?_; clear hm; intro w hm; (simp only [Value.cells, splice, nqq, Nat.reduceAdd, Nat.reduceMul, Int.reduceAdd, Int.reduceToNat] at hm))); intro a h; refine ⟨hm.sub (by repeat' (exact sln)), ?_⟩
                refine hw0 (by decide +kernel) ?_
                exact ⟨rfl, _, _, us ++ [s], _, _, ⟨by (rw [List.length_append]; simp only [List.length_cons, List.length_nil]; omega), ⟨by (rw [List.length_append]; exact hc8), hc9⟩, fun y hy => by (rcases List.mem_append.1 hy with hy | hy; exact hus y hy; rw [List.mem_singleton] at hy; exact hy ▸ hgs), hi2⟩, by (rw [List.length_append, List.map_append, List.flatten_append]; exact hm.drop), h.keep ⟨rfl, rfl, rfl, rfl, trivial⟩⟩
              · (refine ho_op rfl rfl rfl h ?_); clear h a; (refine does_buildSlice hm rfl rfl rfl ?_; clear hm; intro b w hm; (simp only [rep, nqr, Value.cells, splice, nqq, Nat.reduceAdd, Nat.reduceMul, Int.reduceAdd, Int.reduceToNat] at hm)); intro a h; refine ⟨hm.sub (by repeat' (exact sln)), ?_⟩
                refine hw1 1 (by decide +kernel) ?_
                (refine ho_op rfl rfl rfl h ?_); clear h a; (refine does_loadO 2 hm rfl rfl rfl ?_); intro a h; refine ⟨hm.sub (by repeat' (exact sln)), ?_⟩
                refine hw1 8 (by decide +kernel) ?_
                (refine ho_op rfl rfl rfl h ?_); clear h a; (((refine does_appX 1 (n := us.length) (news := eSf s) hm rfl rfl rfl (by omega) hfl rfl (.inr ⟨_, rfl, at_own (i := 0) hm rfl (fun j v hv => (by rw [Nat.zero_add]; exact hv))⟩) (oneCells_mem rfl) (by omega) (by simp only [maxLen]; omega) ?_; clear hm; intro pp2 c3 w hc8 hc9 hm; simp only [List.set_cons_zero, List.set_cons_succ] at hm))); intro a h; refine ⟨hm.sub (by repeat' (exact sln)), ?_⟩
                refine hw_take 9 rfl (by kernel_rfl) (by kernel_rfl) (by kernel_rfl) rfl rfl rfl h (hm.sub (by repeat' (exact sln))) (fun w hm => by (refine does_fieldAddrL rfl ?_) <;> exact ⟨rfl, rfl⟩) ?_; clear h a; intro a h; (simp only [Value.cells, splice, nqq, Nat.reduceAdd, Nat.reduceMul, Int.reduceAdd, Int.reduceToNat, Int.reduceTMod] at h)
                refine hw1 10 (by decide +kernel) ?_
                (refine ho_opn rfl rfl h ?_); clear h a; ((refine does_storeO 2 hm rfl rfl rfl rfl rfl rfl rfl ?_; clear hm; intro w hm; (simp only [Value.cells, splice, nqq, Nat.reduceAdd, Nat.reduceMul, Int.reduceAdd, Int.reduceToNat] at hm))); intro a h; refine ⟨hm.sub (by repeat' (exact sln)), ?_⟩
                refine hw0 (by decide +kernel) ?_
                exact ⟨rfl, _, _, us ++ [s], _, _, ⟨by (rw [List.length_append]; simp only [List.length_cons, List.length_nil]; omega), ⟨by (rw [List.length_append]; exact hc8), hc9⟩, fun y hy => by (rcases List.mem_append.1 hy with hy | hy; exact hus y hy; rw [List.mem_singleton] at hy; exact hy ▸ hgs), hi2⟩, by (rw [List.length_append, List.map_append, List.flatten_append]; exact hm.drop), h.keep ⟨rfl, rfl, rfl, rfl, trivial⟩⟩
      clear h hm hi1 i1 h1 hfl hxl hc3 hc4 hus us c5 up
      rintro a w ⟨up, c5, us, i1, h1, ⟨hxl, ⟨hc3, hc4⟩, hus, hi1⟩, hm, h⟩
      repeat' (first | refine c_region ?_ | refine c_nil ?_ | refine k_then ?_ | refine k_inN ?_ | ((refine st_op rfl rfl h ?_); clear h a; (first | (show Does _ (.move _) _ _ _ _; refine does_move rfl ?_) | (show Does _ (.assign _) _ _ _ _; refine does_assign rfl ?_) | (show Does _ (.binOp _ _ _ _ _) _ _ _ _; (refine does_sub rfl rfl (by omega) ?_))); intro a h))
      exact k_thenN ⟨m - 1, ⟨⟨by omega, by omega⟩, up, c5, us, i1, h1, ⟨by omega, ⟨hc3, hc4⟩, hus, hi1⟩, hm, h.keep ⟨rfl, rfl, rfl, rfl, trivial⟩⟩, by omega⟩
    · repeat' (first | refine c_seq ?_ | refine c_region ?_ | refine c_nil ?_ | refine k_then ?_ | refine k_thenE ?_ | refine k_inE ?_ | refine c_ret ?_ | refine c_exit ?_ | refine c_condF h rfl ?_ | ((first | refine st_op rfl rfl h ?_ | refine st_opn rfl h ?_); clear h a; (first | (show Does _ (.store _ _ _) _ _ _ _; ((refine does_storeO 2 hm rfl rfl rfl rfl rfl rfl rfl ?_; clear hm; intro w hm; (simp only [Value.cells, splice, nqq, Nat.reduceAdd, Nat.reduceMul, Int.reduceAdd, Int.reduceToNat] at hm)))) | (show Does _ (.move _) _ _ _ _; refine does_move rfl ?_) | (show Does _ (.load _ _) _ _ _ _; (refine does_loadOA 1 hm rfl rfl rfl ?_)) | (show Does _ (.binOp _ _ _ _ _) _ _ _ _; (refine does_gtrF rfl rfl (by omega) ?_))); intro a h; (first | simp only [Value.cells, splice, nqq, Nat.reduceAdd, Nat.reduceMul, Int.reduceAdd, Int.reduceToNat, Int.reduceTMod] at h | skip)))
      exact k_ret (vs := [_]) rfl h ⟨rv_cellA (i := 2) hm rfl rfl rfl, trivial⟩ ⟨_, [.row (.slice up us.length c5) 42 26 (us.map eSf).flatten], ⟨⟨⟨cw, ch, z, ne, dd, lf, ff, g, q, nq, dq, sm⟩, sp, k, c4, up, us, c5, rfl, ⟨hcam, ⟨hk2, hk3⟩, by omega, hus⟩, rfl⟩, _, _, rfl, hi1⟩, (hm.perm (List.perm_middle (l₁ := [_, _, _]))).sub (by repeat' (first | refine slc ?_ | exact sln))⟩
end Go.Proofs.YtcbnegmmjflmcaaGreat.St
