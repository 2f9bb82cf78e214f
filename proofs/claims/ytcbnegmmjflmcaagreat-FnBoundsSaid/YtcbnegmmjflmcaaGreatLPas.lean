/-
  Chains of operands, arguments of calls: the reference's parser at all depths.
-/
import Derived.Test.YtcbnegmmjflmcaaGreatLPar
import Derived.Test.YtcbnegmmjflmcaaGreatJ12
import Derived.Test.YtcbnegmmjflmcaaGreatJ3
set_option linter.unusedSimpArgs false
set_option linter.unusedVariables false
namespace Go.Proofs.YtcbnegmmjflmcaaGreat.St
open Go.RowKit
theorem c_isReg {P : Program} {l : Array Oper} {d : Bool} {c : Code} {Q : Exit → Act → World → Prop} {a : Act} {w : World} (n : Nat) (h : CW P (Code.seq (Code.region n l d) c) Q a w) : CW P (Code.seq (Code.region n l d) c) Q a w := h
theorem cw_from {P : Program} {c : Code} {Q : Exit → Act → World → Prop} {a : Act} {w : World} (S : Act → World → Prop) (h : S a w) (k : ∀ a w, S a w → CW P c Q a w) : CW P c Q a w := k a w h
set_option maxHeartbeats 4000000 in
theorem l13Op_ok (x : ByteArray) (add : Bool) : FunV Tryz.prog 111 [.string x, .bool add] (fun _ => True) (fun v => ∃ k, v = I k ∧ (k = 0 ∨ ¬ x.size = 0)) := by
  refine enterFunV Tryz.func111 rfl Tryz.ntmps111 rfl (fun W0 w a hp hm h => ?_)
  cases add
  all_goals
    repeat' (first | refine c_seq ?_ | refine c_region ?_ | refine c_nil ?_ | refine k_then ?_ | refine k_thenR ?_ | refine k_inN ?_ | refine k_inR ?_ | refine c_skip ?_ | refine c_ret ?_ | refine c_block ?_ | refine c_condF h rfl ?_ | ((refine st_op rfl rfl h ?_); clear h a; (first | (show Does _ (.move _) _ _ _ _; refine does_move rfl ?_) | (show Does _ (.assign _) _ _ _ _; refine does_assign rfl ?_) | (show Does _ (.pick _ _ _) _ _ _ _; (first | refine does_pickT rfl rfl ?_ | refine does_pickF rfl rfl ?_)) | (show Does _ (.binOp _ _ _ _ _) _ _ _ _; (refine does_eqlStr rfl rfl ?_)) | (show Does _ (.unOp _ _ _) _ _ _ _; (refine does_not rfl ?_))); intro a h) | ((refine st_skip rfl rfl h ?_); clear h a; intro a h) | ((refine c_condD h rfl ?_ ?_) <;> intro hc <;> (skip)))
    all_goals exact k_ret1 rfl h rfl ⟨⟨_, rfl, by first | exact .inl rfl | (subst hc; exact .inr (by decide))⟩, hm.below⟩
set_option maxHeartbeats 16000000 in
theorem operand_f (bp : Nat) (pt : Option Addr) (ct : Nat) (pa : Option Addr) (m ca : Nat) (ts : List PTok) (z : Int) (hF : PF bp pt ct pa m ca ts 113 [I z]) : PF bp pt ct pa m ca ts 110 [I z, .bool false] := by
  intro s
  refine enterFunF Tryz.func110 rfl Tryz.ntmps110 rfl (fun W0 X B L w a hp hm h => ?_)
  simp only [psL, List.cons_append, List.nil_append] at hm
  obtain ⟨hT, hS⟩ := hp
  repeat' (first | refine c_seq ?_ | refine c_region ?_ | refine c_nil ?_ | refine k_then ?_ | refine c_skip ?_ | refine c_ret ?_ | refine c_condF h rfl ?_ | (((refine st_op rfl rfl h ?_; refine does_funF _ hm en113 rfl (hF s) ⟨hT, hS⟩ ?_)); clear hm; clear h a; rintro v L1 B1 w hB1 ⟨r1, s1, rfl, rfl, hS1, hle1⟩ hm; simp only [psL, List.cons_append, List.nil_append] at hm; replace hT := hT.mono hB1; have hlt1 := hS1.at_; intro a h) | ((refine st_op rfl rfl h ?_); clear h a; (first | (show Does _ (.move _) _ _ _ _; refine does_move rfl ?_) | (show Does _ (.assign _) _ _ _ _; refine does_assign rfl ?_)); intro a h))
  exact k_ret1 rfl h rfl ⟨_, _, hB1, ⟨r1, s1, rfl, rfl, hS1, hle1⟩, by (exact hm)⟩
set_option maxHeartbeats 16000000 in
theorem operand_t (bp : Nat) (pt : Option Addr) (ct : Nat) (pa : Option Addr) (m ca : Nat) (ts : List PTok) (z : Int) (hF : PF bp pt ct pa m ca ts 98 [I z, .bool false]) : PF bp pt ct pa m ca ts 110 [I z, .bool true] := by
  intro s
  refine enterFunF Tryz.func110 rfl Tryz.ntmps110 rfl (fun W0 X B L w a hp hm h => ?_)
  simp only [psL, List.cons_append, List.nil_append] at hm
  obtain ⟨hT, hS⟩ := hp
  repeat' (first | refine c_seq ?_ | refine c_region ?_ | refine c_nil ?_ | refine k_then ?_ | refine k_thenR ?_ | refine c_ret ?_ | refine c_condT h rfl ?_ | (((refine st_op rfl rfl h ?_; refine does_funF _ hm en98 rfl (hF s) ⟨hT, hS⟩ ?_)); clear hm; clear h a; rintro v L1 B1 w hB1 ⟨r1, s1, rfl, rfl, hS1, hle1⟩ hm; simp only [psL, List.cons_append, List.nil_append] at hm; replace hT := hT.mono hB1; have hlt1 := hS1.at_; intro a h) | ((refine st_op rfl rfl h ?_); clear h a; (first | (show Does _ (.move _) _ _ _ _; refine does_move rfl ?_) | (show Does _ (.assign _) _ _ _ _; refine does_assign rfl ?_)); intro a h))
  exact k_ret1 rfl h rfl ⟨_, _, hB1, ⟨r1, s1, rfl, rfl, hS1, hle1⟩, by (exact hm)⟩
set_option maxHeartbeats 16000000 in
theorem expr_of (bp : Nat) (pt : Option Addr) (ct : Nat) (pa : Option Addr) (m ca : Nat) (ts : List PTok) (z : Int) (hF : PF bp pt ct pa m ca ts 98 [I z, .bool true]) : PF bp pt ct pa m ca ts 83 [I z] := by
  intro s
  refine enterFunF Tryz.func83 rfl Tryz.ntmps83 rfl (fun W0 X B L w a hp hm h => ?_)
  simp only [psL, List.cons_append, List.nil_append] at hm
  obtain ⟨hT, hS⟩ := hp
  repeat' (first | refine c_seq ?_ | refine c_region ?_ | refine c_nil ?_ | refine k_then ?_ | refine c_ret ?_ | (((refine st_op rfl rfl h ?_; refine does_funF _ hm en98 rfl (hF s) ⟨hT, hS⟩ ?_)); clear hm; clear h a; rintro v L1 B1 w hB1 ⟨r1, s1, rfl, rfl, hS1, hle1⟩ hm; simp only [psL, List.cons_append, List.nil_append] at hm; replace hT := hT.mono hB1; have hlt1 := hS1.at_; intro a h) | ((refine st_op rfl rfl h ?_); clear h a; (first | (show Does _ (.move _) _ _ _ _; refine does_move rfl ?_) | (show Does _ (.assign _) _ _ _ _; refine does_assign rfl ?_)); intro a h))
  exact k_ret1 rfl h rfl ⟨_, _, hB1, ⟨r1, s1, rfl, rfl, hS1, hle1⟩, by (exact hm)⟩
def muP (nt : Nat) (s : PSt) : Nat := if 0 ≤ s.bad then 0 else nt - s.at_ + 1
theorem muP_bad {nt : Nat} {s : PSt} (h : 0 ≤ s.bad) : muP nt s = 0 := if_pos h
theorem muP_ok {nt : Nat} {s : PSt} (h : ¬ 0 ≤ s.bad) : muP nt s = nt - s.at_ + 1 := if_neg h
set_option maxHeartbeats 16000000 in
theorem binary_of (bp : Nat) (pt : Option Addr) (ct : Nat) (pa : Option Addr) (m ca : Nat) (ts : List PTok) (z : Int) (add : Bool) (hO : PF bp pt ct pa m ca ts 110 [I z, .bool add]) : PF bp pt ct pa m ca ts 98 [I z, .bool add] := by
  intro s
  refine enterFunF Tryz.func98 rfl Tryz.ntmps98 rfl (fun W0 X B L w a hp hm h => ?_)
  simp only [psL, List.cons_append, List.nil_append] at hm
  obtain ⟨hT, hS⟩ := hp
  have hfew := hT.few
  repeat' (first | refine c_seq ?_ | refine c_region ?_ | refine c_nil ?_ | refine k_then ?_ | refine c_block ?_ | (((refine st_op rfl rfl h ?_; refine does_funF _ hm en110 rfl (hO s) ⟨hT, hS⟩ ?_)); clear hm; clear h a; rintro v L1 B1 w hB1 ⟨r1, s1, rfl, rfl, hS1, hle1⟩ hm; simp only [psL, List.cons_append, List.nil_append] at hm; replace hT := hT.mono hB1; have hlt1 := hS1.at_; intro a h) | ((refine st_op rfl rfl h ?_); clear h a; (first | (show Does _ (.move _) _ _ _ _; refine does_move rfl ?_) | (show Does _ (.assign _) _ _ _ _; refine does_assign rfl ?_)); intro a h))
  refine c_loop (σ := PSt × Int × Heap) (fun q a w => (Heap.le B q.2.2 ∧ ToksH q.2.2 pt ts ∧ OkS q.2.2 ts.length q.1 ∧ s.at_ ≤ q.1.at_) ∧ Mem W0 X q.2.2 (psL bp pt ts.length ct pa m ca q.1 ++ L) w ∧ Holds [(0, .pointer (some ⟨bp, 0, none⟩)), (1, I z), (2, .bool add), (7, I q.2.1)] 49 a) (fun q => muP ts.length q.1) (s1, r1, B1)
    ⟨⟨hB1, hT, hS1, hle1⟩, hm, h.keep ⟨rfl, rfl, rfl, rfl, trivial⟩⟩ ?_
  clear h hm hT hB1 hS1 hle1 hS
  rintro ⟨st, r, Bq⟩ a w ⟨⟨hBq, hT, hS, hle⟩, hm, h⟩
  simp only at hBq hT hS hle hm h
  simp only [psL, List.cons_append, List.nil_append] at hm
  have hlt := hS.at_
  by_cases hbad : 0 ≤ st.bad
  · skip
    repeat' (first | refine c_seq ?_ | refine c_region ?_ | refine c_nil ?_ | refine k_then ?_ | refine k_thenE ?_ | refine k_inE ?_ | refine c_ret ?_ | refine c_exit ?_ | refine c_condF h rfl ?_ | ((refine st_op rfl rfl h ?_); clear h a; (first | (show Does _ (.nilCheck _) _ _ _ _; (refine does_nilCheck rfl ?_)) | (show Does _ (.move _) _ _ _ _; refine does_move rfl ?_) | (show Does _ (.assign _) _ _ _ _; refine does_assign rfl ?_) | (show Does _ (.fieldAddr _ _ _) _ _ _ _; (refine does_fieldAddrL rfl ?_)) | (show Does _ (.load _ _) _ _ _ _; (refine zl hm rfl rfl ?_)) | (show Does _ (.binOp _ _ _ _ _) _ _ _ _; (refine zlss rfl rfl ?_))); intro a h; (first | simp only [Value.cells, splice, nz, Nat.reduceAdd, Nat.reduceMul, Int.reduceAdd, Int.reduceToNat, Int.reduceTMod] at h | skip)))
    exact k_ret1 rfl h rfl ⟨_, _, hBq, ⟨r, st, rfl, rfl, hS, hle⟩, by (exact hm)⟩
  · have hmu := muP_ok (nt := ts.length) hbad
    repeat' (first | refine c_seq ?_ | refine c_region ?_ | refine c_nil ?_ | refine k_then ?_ | refine k_thenR ?_ | refine k_thenE ?_ | refine k_inN ?_ | refine k_inR ?_ | refine k_inE ?_ | refine k_inO rfl ?_ | refine c_skip ?_ | refine c_ret ?_ | refine c_exit ?_ | refine c_block ?_ | refine c_condT h rfl ?_ | refine c_condF h rfl ?_ | (((refine st_op rfl rfl h ?_; refine does_funF _ hm en110 rfl (hO { st with at_ := st.at_ + 1 }) ⟨hT, hS.next (hT.pk hlt (hk.resolve_left hc) rfl)⟩ ?_)); clear hm; clear h a; rintro v L1 B2 w hB2 ⟨r2, s2, rfl, rfl, hS2, hle2⟩ hm; simp only [psL, List.cons_append, List.nil_append] at hm; replace hT := hT.mono hB2; have hlt2 := hS2.at_; by_cases hb2 : 0 ≤ s2.bad <;> intro a h) | ((first | refine st_op rfl rfl h ?_ | refine st_opn rfl h ?_); clear h a; (first | (show Does _ (.nilCheck _) _ _ _ _; (refine does_nilCheck rfl ?_)) | (show Does _ (.call _) _ _ _ _; (first | ((refine does_funL (L := _) hm en97 rfl (l13Peek_ok bp pt ct pa m ca st ts hlt) hT ?_; clear hm; rintro v L1 w ⟨rfl, rfl⟩ hm; simp only [psL, List.cons_append, List.nil_append] at hm)) | ((refine does_funVal hm en111 rfl (l13Op_ok _ _) trivial ?_; clear hm; rintro v w ⟨k, rfl, hk⟩ hm)) | (((refine does_funF _ hm en112 rfl (emit_pr bp pt ct pa m ca s2 ts ⟨⟨k, ⟨#[]⟩, 0, [r, r2]⟩, some ⟨bz, 0, none⟩, 2⟩ ⟨by have : st.at_ + 1 ≤ s2.at_ := hle2; omega, hS2.at_⟩ ⟨Nat.le_of_ble_eq_true rfl, Nat.le_of_ble_eq_true rfl⟩) ⟨hT, hS2.mono hBz, hsz⟩ ?_)); clear hm; rintro v L1 B3 w hB3 ⟨r3, s3, rfl, rfl, hS3, hle3, hle3'⟩ hm; simp only [psL, List.cons_append, List.nil_append] at hm))) | (show Does _ (.buildSlice _ _ _) _ _ _ _; (((refine does_buildSliceI2 hm rfl rfl ?_; clear hm; intro bz w Bz hBz hsz hm; replace hT := hT.mono hBz)))) | (show Does _ (.store _ _ _) _ _ _ _; ((refine zs hm rfl rfl rfl rfl rfl rfl ?_); clear hm; intro w hm; (simp only [Value.cells, splice, nz, ns, Nat.reduceAdd, Nat.reduceMul, Int.reduceAdd, Int.reduceToNat] at hm))) | (show Does _ (.move _) _ _ _ _; refine does_move rfl ?_) | (show Does _ (.assign _) _ _ _ _; refine does_assign rfl ?_) | (show Does _ (.fieldAddr _ _ _) _ _ _ _; (refine does_fieldAddrL rfl ?_)) | (show Does _ (.load _ _) _ _ _ _; (refine zl hm rfl rfl ?_)) | (show Does _ (.binOp _ _ _ _ _) _ _ _ _; (first | refine zlss rfl rfl ?_ | refine zgeq rfl rfl ?_ | refine zeql rfl rfl ?_ | refine zadd rfl rfl ?_)) | (show Does _ (.build _ _) _ _ _ _; refine does_build rfl rfl ?_)); intro a h; (first | simp only [Value.cells, splice, nz, Nat.reduceAdd, Nat.reduceMul, Int.reduceAdd, Int.reduceToNat, Int.reduceTMod] at h | skip)) | ((refine c_condD h rfl ?_ ?_) <;> intro hc <;> (skip)))
    · exact k_ret1 rfl h rfl ⟨_, _, hBq, ⟨r, st, rfl, rfl, hS, hle⟩, by (exact hm)⟩
    · exact k_ret1 rfl h rfl ⟨_, _, Heap.le_trans hBq hB2, ⟨0, s2, rfl, rfl, hS2, by have : st.at_ + 1 ≤ s2.at_ := hle2; omega⟩, by (exact hm)⟩
    · have hle2a : st.at_ + 1 ≤ s2.at_ := hle2
      refine k_thenN ⟨(s3, r3, B3), ⟨⟨Heap.le_trans hBq (Heap.le_trans hB2 (Heap.le_trans hBz hB3)), hT.mono hB3, hS3, by show s.at_ ≤ s3.at_; omega⟩, hm, h.keep ⟨rfl, rfl, rfl, rfl, trivial⟩⟩, ?_⟩
      show muP ts.length s3 < muP ts.length st
      rw [hmu]
      by_cases hb3 : 0 ≤ s3.bad
      · rw [muP_bad hb3]; omega
      · rw [muP_ok hb3]
        have := hS3.at_
        have := hle3'.resolve_right hb3
        omega
set_option maxHeartbeats 16000000 in
theorem call_of (bp : Nat) (pt : Option Addr) (ct : Nat) (pa : Option Addr) (m ca : Nat) (ts : List PTok) (z : Int) (t : ByteArray) (ht : t.size ≤ 2000) (hE : PF bp pt ct pa m ca ts 83 [I z]) : PF bp pt ct pa m ca ts 114 [.string t, I z] := by
  intro s
  refine enterFunF Tryz.func114 rfl Tryz.ntmps114 rfl (fun W0 X B L w a hp hm h => ?_)
  simp only [psL, List.cons_append, List.nil_append] at hm
  obtain ⟨hT, hS⟩ := hp
  have hfew := hT.few
  have hlt := hS.at_
  by_cases h1 : pkT ts s.at_ = ⟨#[41]⟩
  · skip
    repeat' ((fail_if_success (refine c_isReg 11 ?_)); first | refine c_seq ?_ | refine c_region ?_ | refine c_nil ?_ | refine k_then ?_ | refine k_thenL ?_ | refine k_thenR ?_ | refine k_thenE ?_ | refine k_inN ?_ | refine k_inR ?_ | refine k_inE ?_ | refine k_inO rfl ?_ | refine c_skip ?_ | refine c_ret ?_ | refine c_exit ?_ | refine c_block ?_ | refine r_succ ?_ | refine c_condT h rfl ?_ | refine c_condF h rfl ?_ | ((refine st_op rfl rfl h ?_); clear h a; (first | (show Does _ (.buildSlice _ _ _) _ _ _ _; (((refine does_buildSlice hm rfl rfl rfl ?_; clear hm; intro bz w hm; replace hm := hm.toRow 0 (n := 0) (cap := 0) 1 rfl rfl (Nat.zero_le _); simp only [List.set_cons_zero, rep, List.replicate_zero, List.flatten_nil] at hm)))) | (show Does _ (.call _) _ _ _ _; (((refine does_funL (L := _) hm.to1 en97 rfl (l13Peek_ok bp pt ct pa m ca s ts hlt) hT ?_; clear hm; rintro v L1 w ⟨rfl, rfl⟩ hm; simp only [psL, List.cons_append, List.nil_append] at hm)))) | (show Does _ (.binOp _ _ _ _ _) _ _ _ _; (((refine does_neqStrPF rfl rfl h1 ?_)))) | (show Does _ (.move _) _ _ _ _; refine does_move rfl ?_) | (show Does _ (.assign _) _ _ _ _; refine does_assign rfl ?_)); intro a h) | ((fail); clear h a; intro a h) | ((fail) <;> intro hc <;> (fail)) | (refine st_guardD rfl rfl h ?_ ?_ <;> clear h <;> intro hc h))
    refine cw_from (fun a w => ∃ (st : PSt) (Bq : Heap) (args : List Int) (p : Option Addr) (c : Nat), (Heap.le B Bq ∧ ToksH Bq pt ts ∧ OkS Bq ts.length st ∧ s.at_ ≤ st.at_) ∧ args.length ≤ 3 ∧ Mem W0 X Bq (psL bp pt ts.length ct pa m ca st ++ .row (.slice p args.length c) 3 1 (args.map eI).flatten :: L) w ∧ Holds [(0, .pointer (some ⟨bp, 0, none⟩)), (1, .string t), (7, .slice p args.length c)] 48 a) ⟨s, B, [], some ⟨bz, 0, none⟩, 0, ⟨Heap.le_refl _, hT, hS, Nat.le_refl _⟩, by decide, hm, h.keep ⟨rfl, rfl, rfl, trivial⟩⟩ ?_
    clear h hm hT hS
    rintro a w ⟨st, Bq, args, p, c, ⟨hBq, hT, hS1, hle1⟩, hal, hm, h⟩
    obtain ⟨Bf, pf, cf, hBf, hm2, e9, _, _, hsz⟩ := (hm.pull 2 rfl).frozen (fun _ => rfl) (by omega)
    cases e9
    replace hm := hm2
    clear hm2
    simp only [psL, List.cons_append, List.nil_append, List.eraseIdx_cons_succ, List.eraseIdx_cons_zero] at hm
    replace hT := hT.mono hBf
    replace hS1 := hS1.mono hBf
    repeat' (first | refine c_seq ?_ | refine c_region ?_ | refine c_nil ?_ | refine k_then ?_ | refine k_thenR ?_ | refine c_skip ?_ | refine c_ret ?_ | refine c_condT h rfl ?_ | refine c_condF h rfl ?_ | (((refine st_op rfl rfl h ?_; refine does_funL (L := _) hm en82 rfl (l13Expect_ok bp pt ct pa m ca st ts ⟨#[41]⟩ (by decide) hS1.at_) hT ?_)); clear hm; clear h a; rintro v L1 w (⟨hk2, hnx2, rfl, rfl⟩ | ⟨hk2, rfl, rfl⟩) hm <;> (simp only [psL, List.cons_append, List.nil_append] at hm; intro a h)) | ((refine st_op rfl rfl h ?_); clear h a; (first | (show Does _ (.call _) _ _ _ _; ((((refine does_funF _ hm en112 rfl (emit_pr bp pt ct pa m ca { st with at_ := st.at_ + 1 } ts ⟨⟨8, t, 0, args⟩, p, c⟩ ⟨by show 1 ≤ st.at_ + 1; omega, hnx2⟩ ⟨hal, ht⟩) ⟨hT, hS1.next hnx2, hsz⟩ ?_)); clear hm; rintro v L1 B3 w hB3 ⟨r3, s3, rfl, rfl, hS3, hle3, hle3'⟩ hm; simp only [psL, List.cons_append, List.nil_append] at hm))) | (show Does _ (.move _) _ _ _ _; refine does_move rfl ?_) | (show Does _ (.assign _) _ _ _ _; refine does_assign rfl ?_) | (show Does _ (.unOp _ _ _) _ _ _ _; (refine does_not rfl ?_)) | (show Does _ (.build _ _) _ _ _ _; refine does_build rfl rfl ?_)); intro a h; (first | simp only [Value.cells, splice, nz, Nat.reduceAdd, Nat.reduceMul, Int.reduceAdd, Int.reduceToNat, Int.reduceTMod] at h | skip)))
    · exact k_ret1 rfl h rfl ⟨_, _, Heap.le_trans hBq (Heap.le_trans hBf hB3), ⟨r3, s3, rfl, rfl, hS3, by have : st.at_ + 1 - 1 ≤ s3.at_ := hle3; omega⟩, by (exact hm)⟩
    · exact k_ret1 rfl h rfl ⟨_, _, Heap.le_trans hBq hBf, ⟨0, _, rfl, rfl, hS1.fl, hle1⟩, by (exact hm)⟩
  · skip
    repeat' ((fail_if_success (refine c_isReg 11 ?_)); first | refine c_seq ?_ | refine c_region ?_ | refine c_nil ?_ | refine k_then ?_ | refine k_thenL ?_ | refine k_thenR ?_ | refine k_thenE ?_ | refine k_inN ?_ | refine k_inR ?_ | refine k_inE ?_ | refine k_inO rfl ?_ | refine c_skip ?_ | refine c_ret ?_ | refine c_exit ?_ | refine c_block ?_ | refine r_succ ?_ | refine c_condT h rfl ?_ | refine c_condF h rfl ?_ | ((refine st_op rfl rfl h ?_); clear h a; (first | (show Does _ (.buildSlice _ _ _) _ _ _ _; (((refine does_buildSlice hm rfl rfl rfl ?_; clear hm; intro bz w hm; replace hm := hm.toRow 0 (n := 0) (cap := 0) 1 rfl rfl (Nat.zero_le _); simp only [List.set_cons_zero, rep, List.replicate_zero, List.flatten_nil] at hm)))) | (show Does _ (.call _) _ _ _ _; (((refine does_funL (L := _) hm.to1 en97 rfl (l13Peek_ok bp pt ct pa m ca s ts hlt) hT ?_; clear hm; rintro v L1 w ⟨rfl, rfl⟩ hm; simp only [psL, List.cons_append, List.nil_append] at hm)))) | (show Does _ (.binOp _ _ _ _ _) _ _ _ _; (((refine does_neqStrPT rfl rfl h1 ?_)))) | (show Does _ (.move _) _ _ _ _; refine does_move rfl ?_) | (show Does _ (.assign _) _ _ _ _; refine does_assign rfl ?_)); intro a h) | ((fail); clear h a; intro a h) | ((fail) <;> intro hc <;> (fail)) | (refine st_guardD rfl rfl h ?_ ?_ <;> clear h <;> intro hc h))
    refine c_loop (σ := PSt × Heap × List Int × Option Addr × Nat) (fun q a w => (Heap.le B q.2.1 ∧ ToksH q.2.1 pt ts ∧ OkS q.2.1 ts.length q.1 ∧ s.at_ ≤ q.1.at_) ∧ (q.2.2.1.length ≤ 3 ∧ q.2.2.1.length ≤ q.2.2.2.2) ∧ Mem W0 X q.2.1 (psL bp pt ts.length ct pa m ca q.1 ++ .row (.slice q.2.2.2.1 q.2.2.1.length q.2.2.2.2) 3 1 (q.2.2.1.map eI).flatten :: L) w ∧ Holds [(0, .pointer (some ⟨bp, 0, none⟩)), (1, .string t), (2, I z), (7, .slice q.2.2.2.1 q.2.2.1.length q.2.2.2.2)] 48 a) (fun q => 4 - q.2.2.1.length) (s, B, [], some ⟨bz, 0, none⟩, 0)
      ⟨⟨Heap.le_refl _, hT, hS, Nat.le_refl _⟩, ⟨Nat.zero_le _, Nat.le_refl _⟩, hm, h.keep ⟨rfl, rfl, rfl, rfl, trivial⟩⟩ ?_
    clear h hm hT hS
    rintro ⟨st, Bq, args, p, c⟩ a w ⟨⟨hBq, hT, hS, hle⟩, ⟨hal, hac⟩, hm, h⟩
    simp only at hBq hT hS hle hal hac hm h
    simp only [psL, List.cons_append, List.nil_append] at hm
    have hlt := hS.at_
    have hfl := flat_len (enc := eI) (sz := 1) (fun _ => rfl) args
    by_cases h3 : args.length = 3
    · skip
      repeat' (first | refine c_seq ?_ | refine c_region ?_ | refine c_nil ?_ | refine k_then ?_ | refine k_thenR ?_ | refine k_inR ?_ | refine c_ret ?_ | refine c_block ?_ | refine c_condT h rfl ?_ | ((refine st_op rfl rfl h ?_); clear h a; (first | (show Does _ (.call _) _ _ _ _; (first | ((refine does_funL (L := _) hm en81 rfl (l13Fail_ok bp pt ct pa m ca st ts hlt) hT ?_; clear hm; rintro v L1 w ⟨rfl, rfl⟩ hm; simp only [psL, List.cons_append, List.nil_append] at hm)) | refine does_lenS (SliceT.out) rfl ?_)) | (show Does _ (.move _) _ _ _ _; refine does_move rfl ?_) | (show Does _ (.assign _) _ _ _ _; refine does_assign rfl ?_) | (show Does _ (.binOp _ _ _ _ _) _ _ _ _; (refine zeql rfl rfl ?_))); intro a h))
      exact k_ret1 rfl h rfl ⟨_, _, hBq, ⟨0, _, rfl, rfl, hS.fl, hle⟩, by (exact hm.sub (List.Sublist.cons_cons _ (List.Sublist.cons_cons _ (List.Sublist.cons _ (List.Sublist.refl _)))))⟩
    · skip
      repeat' ((fail_if_success (refine c_isReg 11 ?_)); first | refine c_seq ?_ | refine c_region ?_ | refine c_nil ?_ | refine k_then ?_ | refine k_thenL ?_ | refine k_thenR ?_ | refine k_thenE ?_ | refine k_inN ?_ | refine k_inR ?_ | refine k_inE ?_ | refine k_inO rfl ?_ | refine c_skip ?_ | refine c_ret ?_ | refine c_exit ?_ | refine c_block ?_ | refine r_succ ?_ | refine c_condT h rfl ?_ | refine c_condF h rfl ?_ | (((refine st_op rfl rfl h ?_; refine does_funF _ hm en83 rfl (hE st) ⟨hT, hS⟩ ?_)); clear hm; clear h a; rintro v L1 B2 w hB2 ⟨r2, s2, rfl, rfl, hS2, hle2⟩ hm; simp only [psL, List.cons_append, List.nil_append] at hm; replace hT := hT.mono hB2; have hlt2 := hS2.at_; by_cases hb2 : 0 ≤ s2.bad <;> intro a h) | ((first | refine st_op rfl rfl h ?_ | refine st_opn rfl h ?_); clear h a; (first | (show Does _ (.nilCheck _) _ _ _ _; (refine does_nilCheck rfl ?_)) | (show Does _ (.call _) _ _ _ _; (first | ((refine does_appX 3 (n := args.length) (news := eI r2) hm rfl rfl rfl (by omega) hfl rfl (.inr ⟨_, rfl, at_own (i := 0) hm rfl (fun j v hv => (by rw [Nat.zero_add]; exact hv))⟩) (oneCells_mem rfl) (by omega) (by simp only [maxLen]; omega) ?_; clear hm; intro p8 c8 w hc8 hc9 hm; simp only [List.set_cons_zero, List.set_cons_succ] at hm)) | ((refine does_funL (L := _) hm.to1 en97 rfl (l13Peek_ok bp pt ct pa m ca s2 ts hS2.at_) hT ?_; clear hm; rintro v L1 w ⟨rfl, rfl⟩ hm; simp only [psL, List.cons_append, List.nil_append] at hm)) | refine does_lenS (SliceT.out) rfl ?_)) | (show Does _ (.binOp _ _ _ _ _) _ _ _ _; (first | ((refine does_neqStr rfl rfl ?_)) | refine zgeq rfl rfl ?_ | refine zeql rfl rfl ?_ | refine zadd rfl rfl ?_)) | (show Does _ (.buildSlice _ _ _) _ _ _ _; (refine does_buildSlice hm rfl rfl rfl ?_; clear hm; intro b w hm; (simp only [rep, nqr, Value.cells, splice, nqq, Nat.reduceAdd, Nat.reduceMul, Int.reduceAdd, Int.reduceToNat] at hm))) | (show Does _ (.store _ _ _) _ _ _ _; ((refine zs hm rfl rfl rfl rfl rfl rfl ?_); clear hm; intro w hm; (simp only [Value.cells, splice, nz, ns, Nat.reduceAdd, Nat.reduceMul, Int.reduceAdd, Int.reduceToNat] at hm))) | (show Does _ (.move _) _ _ _ _; refine does_move rfl ?_) | (show Does _ (.assign _) _ _ _ _; refine does_assign rfl ?_) | (show Does _ (.fieldAddr _ _ _) _ _ _ _; (refine does_fieldAddrL rfl ?_)) | (show Does _ (.load _ _) _ _ _ _; (refine zl hm rfl rfl ?_))); intro a h; (first | simp only [Value.cells, splice, nz, Nat.reduceAdd, Nat.reduceMul, Int.reduceAdd, Int.reduceToNat, Int.reduceTMod] at h | skip)) | ((fail); clear h a; intro a h) | ((refine c_condD h rfl ?_ ?_) <;> intro hc <;> (skip)) | (refine st_guardD rfl rfl h ?_ ?_ <;> clear h <;> intro hc h))
      · exact k_ret1 rfl h rfl ⟨_, _, Heap.le_trans hBq hB2, ⟨0, s2, rfl, rfl, hS2, by omega⟩, by (exact hm.sub (List.Sublist.cons_cons _ (List.Sublist.cons_cons _ (List.Sublist.cons _ (List.Sublist.refl _)))))⟩
      · have hl8 : (args ++ [r2]).length = args.length + 1 := by simp
        rw [show (args.map eI).flatten ++ eI r2 = ((args ++ [r2]).map eI).flatten by simp, ← hl8] at hm
        rw [← hl8] at h
        refine cw_from (fun a w => ∃ (st : PSt) (Bq : Heap) (args : List Int) (p : Option Addr) (c : Nat), (Heap.le B Bq ∧ ToksH Bq pt ts ∧ OkS Bq ts.length st ∧ s.at_ ≤ st.at_) ∧ args.length ≤ 3 ∧ Mem W0 X Bq (psL bp pt ts.length ct pa m ca st ++ .row (.slice p args.length c) 3 1 (args.map eI).flatten :: L) w ∧ Holds [(0, .pointer (some ⟨bp, 0, none⟩)), (1, .string t), (7, .slice p args.length c)] 48 a) ⟨s2, B2, args ++ [r2], p8, c8, ⟨Heap.le_trans hBq hB2, hT, hS2, by omega⟩, by omega, hm.sub (List.Sublist.cons_cons _ (List.Sublist.cons_cons _ (List.Sublist.cons _ (List.Sublist.refl _)))), h.keep ⟨rfl, rfl, rfl, trivial⟩⟩ ?_
        clear h hm hT hS hBq hal
        rintro a w ⟨st, Bq, args, p, c, ⟨hBq, hT, hS1, hle1⟩, hal, hm, h⟩
        obtain ⟨Bf, pf, cf, hBf, hm2, e9, _, _, hsz⟩ := (hm.pull 2 rfl).frozen (fun _ => rfl) (by omega)
        cases e9
        replace hm := hm2
        clear hm2
        simp only [psL, List.cons_append, List.nil_append, List.eraseIdx_cons_succ, List.eraseIdx_cons_zero] at hm
        replace hT := hT.mono hBf
        replace hS1 := hS1.mono hBf
        repeat' (first | refine c_seq ?_ | refine c_region ?_ | refine c_nil ?_ | refine k_then ?_ | refine k_thenR ?_ | refine c_skip ?_ | refine c_ret ?_ | refine c_condT h rfl ?_ | refine c_condF h rfl ?_ | (((refine st_op rfl rfl h ?_; refine does_funL (L := _) hm en82 rfl (l13Expect_ok bp pt ct pa m ca st ts ⟨#[41]⟩ (by decide) hS1.at_) hT ?_)); clear hm; clear h a; rintro v L1 w (⟨hk2, hnx2, rfl, rfl⟩ | ⟨hk2, rfl, rfl⟩) hm <;> (simp only [psL, List.cons_append, List.nil_append] at hm; intro a h)) | ((refine st_op rfl rfl h ?_); clear h a; (first | (show Does _ (.call _) _ _ _ _; ((((refine does_funF _ hm en112 rfl (emit_pr bp pt ct pa m ca { st with at_ := st.at_ + 1 } ts ⟨⟨8, t, 0, args⟩, p, c⟩ ⟨by show 1 ≤ st.at_ + 1; omega, hnx2⟩ ⟨hal, ht⟩) ⟨hT, hS1.next hnx2, hsz⟩ ?_)); clear hm; rintro v L1 B3 w hB3 ⟨r3, s3, rfl, rfl, hS3, hle3, hle3'⟩ hm; simp only [psL, List.cons_append, List.nil_append] at hm))) | (show Does _ (.move _) _ _ _ _; refine does_move rfl ?_) | (show Does _ (.assign _) _ _ _ _; refine does_assign rfl ?_) | (show Does _ (.unOp _ _ _) _ _ _ _; (refine does_not rfl ?_)) | (show Does _ (.build _ _) _ _ _ _; refine does_build rfl rfl ?_)); intro a h; (first | simp only [Value.cells, splice, nz, Nat.reduceAdd, Nat.reduceMul, Int.reduceAdd, Int.reduceToNat, Int.reduceTMod] at h | skip)))
        · exact k_ret1 rfl h rfl ⟨_, _, Heap.le_trans hBq (Heap.le_trans hBf hB3), ⟨r3, s3, rfl, rfl, hS3, by have : st.at_ + 1 - 1 ≤ s3.at_ := hle3; omega⟩, by (exact hm)⟩
        · exact k_ret1 rfl h rfl ⟨_, _, Heap.le_trans hBq hBf, ⟨0, _, rfl, rfl, hS1.fl, hle1⟩, by (exact hm)⟩
      · have hl8 : (args ++ [r2]).length = args.length + 1 := by simp
        rw [show (args.map eI).flatten ++ eI r2 = ((args ++ [r2]).map eI).flatten by simp, ← hl8] at hm
        rw [← hl8] at h
        have hnx := hT.pk hS2.at_ (show ¬ (⟨#[44]⟩ : ByteArray).size = 0 by decide) (Classical.not_not.1 hc)
        exact k_thenN ⟨({ s2 with at_ := s2.at_ + 1 }, B2, args ++ [r2], p8, c8), ⟨⟨Heap.le_trans hBq hB2, hT, hS2.next hnx, by show s.at_ ≤ s2.at_ + 1; omega⟩, ⟨by show (args ++ [r2]).length ≤ 3; omega, by show (args ++ [r2]).length ≤ c8; omega⟩, hm.sub (List.Sublist.cons_cons _ (List.Sublist.cons_cons _ (List.Sublist.cons _ (List.Sublist.refl _)))), h.keep ⟨rfl, rfl, rfl, rfl, trivial⟩⟩, by show 4 - (args ++ [r2]).length < 4 - args.length; omega⟩
structure AllP (bp : Nat) (pt : Option Addr) (ct : Nat) (pa : Option Addr) (m ca : Nat) (ts : List PTok) (z : Int) : Prop where
  fac : PF bp pt ct pa m ca ts 113 [I z]
  exp : PF bp pt ct pa m ca ts 83 [I z]
  cal : ∀ t : ByteArray, t.size ≤ 2000 → PF bp pt ct pa m ca ts 114 [.string t, I z]
theorem AllP.of (bp : Nat) (pt : Option Addr) (ct : Nat) (pa : Option Addr) (m ca : Nat) (ts : List PTok) (z : Int) (hF : PF bp pt ct pa m ca ts 113 [I z]) : AllP bp pt ct pa m ca ts z :=
  have hE := expr_of bp pt ct pa m ca ts z (binary_of bp pt ct pa m ca ts z true (operand_t bp pt ct pa m ca ts z (binary_of bp pt ct pa m ca ts z false (operand_f bp pt ct pa m ca ts z hF))))
  ⟨hF, hE, fun t ht => call_of bp pt ct pa m ca ts z t ht hE⟩
theorem allP (bp : Nat) (pt : Option Addr) (ct : Nat) (pa : Option Addr) (m ca : Nat) (ts : List PTok) : ∀ (n : Nat) (z : Int), 1 ≤ z → z ≤ 65 → 65 - z = n → AllP bp pt ct pa m ca ts z
  | 0, z, h1, h2, hn => AllP.of bp pt ct pa m ca ts z (factor_top bp pt ct pa m ca ts z (by omega))
  | n + 1, z, h1, h2, hn =>
    have ih := allP bp pt ct pa m ca ts n (z + 1) (by omega) (by omega) (by omega)
    AllP.of bp pt ct pa m ca ts z (factor_step bp pt ct pa m ca ts z (by omega) ih.fac ih.exp ih.cal)
theorem expression_ok (bp : Nat) (pt : Option Addr) (ct : Nat) (pa : Option Addr) (m ca : Nat) (ts : List PTok) : PF bp pt ct pa m ca ts 83 [I 1] := (allP bp pt ct pa m ca ts 64 1 (by omega) (by omega) (by omega)).exp
end Go.Proofs.YtcbnegmmjflmcaaGreat.St
