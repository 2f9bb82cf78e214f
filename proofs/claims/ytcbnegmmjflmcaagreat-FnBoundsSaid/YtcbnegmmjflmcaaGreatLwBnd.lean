/-
  What is diced of a made scene lies within its bounds: for all arguments. No condition.
-/
import Derived.Test.YtcbnegmmjflmcaaGreatJ19
import Derived.Test.YtcbnegmmjflmcaaGreatJ1
set_option linter.unusedSimpArgs false
set_option linter.unusedVariables false
namespace Go.Proofs.YtcbnegmmjflmcaaGreat.St
open Go.RowKit
theorem scr_ex (s : TSf) (S : TSn) (t sx sy : Int) (hc : G.vCm S.cw S.ch S.z S.ne S.l S.f) (hs : goodS s) (ht : 0 ≤ t ∧ t ≤ 16) (hx : -16 ≤ sx ∧ sx ≤ 16) (hy : -16 ≤ sy ∧ sy ≤ 16) :
    ∃ a b c d e g a1 a2 a3 a4 a5 a6 : Int, ∃ z : Bool, Fun Tryz.prog 7 [.agg (eSf s).toArray] (.agg #[I a, I b, I c, I d, I e, I g]) ∧ Fun Tryz.prog 6 [.agg (caC S.cw S.ch S.z S.ne S.dd S.l S.f).toArray, .agg #[I a, I b, I c, I d, I e, I g]] (.tuple #[.agg #[I a1, I a2, I a3, I a4, I a5, I a6], .bool z]) ∧
      ∀ v, goodV (dpS s S t sx sy) v → z = true ∧ Fun Tryz.prog 10 [.agg #[I a1, I a2, I a3, I a4, I a5, I a6], .agg (eVec v).toArray] (.bool true) := by
  obtain ⟨⟨⟨a, b, c⟩, d, e, g⟩, hS⟩ : ∃ q, scS s = q := ⟨_, rfl⟩
  have hbox := G.surfaceBox_ok s.x0 s.y0 s.z0 s.x1 s.y1 s.z1 s.x2 s.y2 s.z2 s.x3 s.y3 s.z3 s.u0 s.v0 s.w0 s.u1 s.v1 s.w1 s.u2 s.v2 s.w2 s.u3 s.v3 s.w3 s.sh s.ra
  have hS1 := hS
  unfold scS at hS1
  rw [hS1] at hbox
  have hin := G.SC_in _ _ _ _ _ _ _ _ _ _ _ _ _ _ _ _ _ _ _ _ _ _ _ _ hS
  have k1 := hin.1.2
  have k2 := hin.2.1.2
  have k3 := hin.2.2.2
  have hvb : G.vBx a b c d e g := by
    unfold G.vBx G.vV
    omega
  by_cases hz : max c S.ne ≤ g
  · refine ⟨a, b, c, d, e, g, _, _, _, _, _, _, true, hbox, G.screen_yes S.cw S.ch S.z S.ne S.dd S.l S.f a b c d e g ⟨hc, hvb, hz⟩, fun v hv => ⟨rfl, ?_⟩⟩
    have hg := (good_in s S t sx sy hS hc hs ht hx hy v hv).2
    have hbc := G.boxContains_ok (axLo S.dd S.z S.l S.f a (max c S.ne) g ((S.cw * 16).tdiv 2)) (axLo S.dd S.z S.l S.f b (max c S.ne) g ((S.ch * 16).tdiv 2)) (max c S.ne) (axHi S.dd S.z S.l S.f d (max c S.ne) g ((S.cw * 16).tdiv 2)) (axHi S.dd S.z S.l S.f e (max c S.ne) g ((S.ch * 16).tdiv 2)) g v.1 v.2.1 v.2.2
    rw [bT ⟨⟨hg.1.1, hg.2.1.1, hg.2.2.1⟩, hg.1.2, hg.2.1.2, hg.2.2.2⟩] at hbc
    exact hbc
  · refine ⟨a, b, c, d, e, g, 0, 0, 0, 0, 0, 0, false, hbox, G.screen_no S.cw S.ch S.z S.ne S.dd S.l S.f a b c d e g hc hvb (by omega), fun v hv => ?_⟩
    exact absurd (good_in s S t sx sy hS hc hs ht hx hy v hv).1 hz
set_option maxHeartbeats 16000000 in
theorem lwBounds (p : Option Addr) (bs : List Int) (c : Nat) (hbs : bytesOk bs) (hl : bs.length ≤ 9223372036854775807) : FunP Tryz.prog 3 [.slice p bs.length c] (fun H => Sl H p eB 1 bs) (.bool true) := by
  refine enterFunP Tryz.func3 rfl Tryz.ntmps3 rfl (fun W0 w a hp hm h => ?_)
  by_cases hb : bs.length ≤ 1048576
  · repeat' (first | refine c_seq ?_ | refine c_region ?_ | refine c_nil ?_ | refine k_then ?_ | refine c_skip ?_ | refine c_block ?_ | refine c_condF h rfl ?_ | (refine st_op (d := 3) rfl rfl h ?_; refine does_alloc hm ?_; clear h a hm; intro b_3 w hm a h) | (refine st_op (d := 4) rfl rfl h ?_; refine does_alloc hm ?_; clear h a hm; intro b_4 w hm a h) | ((first | refine st_op rfl rfl h ?_ | refine st_opn rfl h ?_); clear h a; (first | (show Does _ (.call _) _ _ _ _; (first | ((refine does_funG hm en4 rfl (makeScene_ok _ _ _ hbs hb) (hp.up hm) ?_; clear hm; rintro v L1 w ⟨S, sp, k1, c1, up, us, c2, rfl, ⟨hcam, hk1, hul, hus⟩, rfl⟩ hm; simp only [List.cons_append, List.nil_append, List.set_cons_zero, List.set_cons_succ] at hm)) | ((refine does_funVal hm en5 rfl (makeSample_ok _ _ _ _ _ _ _ _ _ _ hbs hb hcam) (hp.up hm) ?_; clear hm; rintro v w ⟨x, rfl, hx⟩ hm)) | refine does_lenS (SliceT.out) rfl ?_)) | (show Does _ (.store _ _ _) _ _ _ _; ((refine does_storeO 0 hm rfl rfl rfl rfl rfl rfl rfl ?_; clear hm; intro w hm; (simp only [Value.cells, splice, nqq, Nat.reduceAdd, Nat.reduceMul, Int.reduceAdd, Int.reduceToNat] at hm)))) | (show Does _ (.move _) _ _ _ _; refine does_move rfl ?_) | (show Does _ (.assign _) _ _ _ _; refine does_assign rfl ?_) | (show Does _ (.fieldAddr _ _ _) _ _ _ _; (refine does_fieldAddrL rfl ?_)) | (show Does _ (.load _ _) _ _ _ _; (first | refine does_loadO 1 hm rfl rfl rfl ?_ | refine does_loadOA 0 hm rfl rfl rfl ?_)) | (show Does _ (.binOp _ _ _ _ _) _ _ _ _; (refine does_gtrF rfl rfl (by omega) ?_))); intro a h; (first | simp only [Value.cells, splice, nqq, Nat.reduceAdd, Nat.reduceMul, Int.reduceAdd, Int.reduceToNat, Int.reduceTMod] at h | skip)))
    obtain ⟨pu, cu, he, hcu1, hcu2⟩ := row_slice (i := 2) hm rfl (fun _ => rfl) (by omega)
    cases he
    have hcc := hcam
    unfold G.vCm at hcc
    have hm0 := hm.pull2
    clear hm
    obtain ⟨B1, p1, n1, c5, hle, hm, he, hl4, _, _, hA4⟩ := hm0.freeze
    clear hm0
    cases he
    have hsl : Sl B1 up eSf 26 us := sl_of_flat (fun _ => rfl) rfl hA4
    clear hA4 hl4
    refine c_loop (σ := Nat) (fun k a w => k ≤ us.length ∧ Mem W0 [] B1 [.blk b_4 (.cells (eSa x).toArray 34), .blk b_3 (.cells (eSn S (.slice sp k1 c1) (.slice up us.length c2)).toArray 31)] w ∧ Holds [(26, .int .i64 k), (24, .slice up us.length c2), (25, .int .i64 us.length), (3, .pointer (some ⟨b_3, 0, none⟩)), (4, .pointer (some ⟨b_4, 0, none⟩))] 85 a) (fun k => us.length - k) 0 ⟨Nat.zero_le _, hm, h.keep ⟨rfl, rfl, rfl, rfl, rfl, trivial⟩⟩ ?_
    clear h hm a w
    rintro k a w ⟨hk, hm, h⟩
    by_cases hlt : k < us.length
    · obtain ⟨q1, rfl, hat⟩ := hsl.at hlt
      obtain ⟨s, hse⟩ : ∃ s, s = us[k] := ⟨_, rfl⟩
      have hgs : goodS s := by rw [hse]; exact hus _ (List.getElem_mem hlt)
      rw [← hse] at hat
      clear hse
      obtain ⟨a0, b0, c0, d0, e0, g0, a1, a2, a3, a4, a5, a6, zb, hbox, hscr, hgood⟩ := scr_ex s S x.2.2.1 x.2.2.2.1 x.2.2.2.2 hcam hgs hx.1 hx.2.1 hx.2.2
      have hD : DOk (dpS s S x.2.2.1 x.2.2.2.1 x.2.2.2.2) := ⟨hcam, hgs, hx.2.1, hx.2.2⟩
      repeat' (first | refine c_seq ?_ | refine c_region ?_ | refine c_nil ?_ | refine k_then ?_ | refine c_skip ?_ | refine c_block ?_ | refine c_condT h rfl ?_ | (refine st_op (d := 6) rfl rfl h ?_; refine does_alloc hm ?_; clear h a hm; intro b_6 w hm a h) | ((first | refine st_op rfl rfl h ?_ | refine st_opn rfl h ?_); clear h a; (first | (show Does _ (.store _ _ _) _ _ _ _; ((refine does_storeO 0 hm rfl rfl rfl rfl rfl rfl rfl ?_; clear hm; intro w hm; (simp only [Value.cells, splice, nqq, Nat.reduceAdd, Nat.reduceMul, Int.reduceAdd, Int.reduceToNat] at hm)))) | (show Does _ (.load _ _) _ _ _ _; (refine does_loadBA hm rfl (by assumption) rfl ?_)) | (show Does _ (.binOp _ _ _ _ _) _ _ _ _; (refine does_lssT rfl rfl (by omega) ?_)) | (show Does _ (.indexAddr _ _ _) _ _ _ _; (refine does_indexSn (by omega) rfl rfl ?_))); intro a h))
      refine cw_cutN (fun a w => ∃ b7, Mem W0 [] B1 [.blk b7 (.cells [I a1, I a2, I a3, I a4, I a5, I a6].toArray 44), .blk b_6 (.cells (eSf s).toArray 42), .blk b_4 (.cells (eSa x).toArray 34), .blk b_3 (.cells (eSn S (.slice sp k1 c1) (.slice (some q1) us.length c2)).toArray 31)] w ∧ Holds [(26, .int .i64 k), (24, .slice (some q1) us.length c2), (25, .int .i64 us.length), (3, .pointer (some ⟨b_3, 0, none⟩)), (4, .pointer (some ⟨b_4, 0, none⟩)), (6, .pointer (some ⟨b_6, 0, none⟩)), (7, .pointer (some ⟨b7, 0, none⟩)), (8, .bool zb)] 85 a) ?_ ?_
      · skip
        refine hw_region ([.blk b_6 (.cells (eSf s).toArray 42), .blk b_3 (.cells (eSn S (.slice sp k1 c1) (.slice (some q1) us.length c2)).toArray 31)]) mixed hm ?_; clear hm; intro w hm
        refine hw_take 0 rfl (by kernel_rfl) (by kernel_rfl) (by kernel_rfl) rfl rfl rfl h (hm.sub (by repeat' (first | exact slr | refine slc ?_ | refine sld ?_))) (fun w hm => by (refine does_fieldAddrL rfl ?_) <;> exact ⟨rfl, rfl⟩) ?_; clear h a; intro a h; (simp only [Value.cells, splice, nqq, Nat.reduceAdd, Nat.reduceMul, Int.reduceAdd, Int.reduceToNat, Int.reduceTMod] at h)
        refine hw_take 1 rfl (by kernel_rfl) (by kernel_rfl) (by kernel_rfl) rfl rfl rfl h (hm.sub (by repeat' (first | exact slr | refine slc ?_ | refine sld ?_))) (fun w hm => by (refine does_loadOA 1 hm rfl rfl rfl ?_) <;> exact ⟨rfl, rfl⟩) ?_; clear h a; intro a h; (simp only [Value.cells, splice, nqq, Nat.reduceAdd, Nat.reduceMul, Int.reduceAdd, Int.reduceToNat, Int.reduceTMod] at h)
        refine hw_take 2 rfl (by kernel_rfl) (by kernel_rfl) (by kernel_rfl) rfl rfl rfl h (hm.sub (by repeat' (first | exact slr | refine slc ?_ | refine sld ?_))) (fun w hm => by (refine does_loadOA 0 hm rfl rfl rfl ?_) <;> exact ⟨rfl, rfl⟩) ?_; clear h a; intro a h; (simp only [Value.cells, splice, nqq, Nat.reduceAdd, Nat.reduceMul, Int.reduceAdd, Int.reduceToNat, Int.reduceTMod] at h)
        refine hw2 3 8 (by decide +kernel) ?_ ?_
        · (refine ho_op rfl rfl rfl h ?_); clear h a; (((refine does_funM hm en7 rfl hbox ?_; clear hm; intro w hm))); intro a h; refine ⟨hm.sub (by repeat' (first | exact slr | refine slc ?_ | refine sld ?_)), ?_⟩
          refine hw2 4 8 (by decide +kernel) ?_ ?_
          · (refine ho_op rfl rfl rfl h ?_); clear h a; ((refine does_funM hm en6 rfl hscr ?_; clear hm; intro w hm)); intro a h; refine ⟨hm.sub (by repeat' (first | exact slr | refine slc ?_ | refine sld ?_)), ?_⟩
            refine hw_take 5 rfl (by kernel_rfl) (by kernel_rfl) (by kernel_rfl) rfl rfl rfl h (hm.sub (by repeat' (first | exact slr | refine slc ?_ | refine sld ?_))) (fun w hm => by refine does_move rfl ?_ <;> exact ⟨rfl, rfl⟩) ?_; clear h a; intro a h
            refine hw_take 6 rfl (by kernel_rfl) (by kernel_rfl) (by kernel_rfl) rfl rfl rfl h (hm.sub (by repeat' (first | exact slr | refine slc ?_ | refine sld ?_))) (fun w hm => by refine does_extract rfl rfl ?_ <;> exact ⟨rfl, rfl⟩) ?_; clear h a; intro a h
            refine hw_take 7 rfl (by kernel_rfl) (by kernel_rfl) (by kernel_rfl) rfl rfl rfl h (hm.sub (by repeat' (first | exact slr | refine slc ?_ | refine sld ?_))) (fun w hm => by refine does_extract rfl rfl ?_ <;> exact ⟨rfl, rfl⟩) ?_; clear h a; intro a h
            refine hw1 8 (by decide +kernel) ?_
            (refine ho_op rfl rfl rfl h ?_); clear h a; (refine does_alloc hm ?_; clear hm; intro b w hm); intro a h; refine ⟨hm.sub (by repeat' (first | exact slr | refine slc ?_ | refine sld ?_)), ?_⟩
            refine hw1 9 (by decide +kernel) ?_
            (refine ho_opn rfl rfl h ?_); clear h a; ((refine does_storeO 0 hm rfl rfl rfl rfl rfl rfl rfl ?_; clear hm; intro w hm; (simp only [Value.cells, splice, nqq, Nat.reduceAdd, Nat.reduceMul, Int.reduceAdd, Int.reduceToNat] at hm))); intro a h; refine ⟨hm.sub (by repeat' (first | exact slr | refine slc ?_ | refine sld ?_)), ?_⟩
            refine hw_take 10 rfl (by kernel_rfl) (by kernel_rfl) (by kernel_rfl) rfl rfl rfl h (hm.sub (by repeat' (first | exact slr | refine slc ?_ | refine sld ?_))) (fun w hm => by refine does_assign rfl ?_ <;> exact ⟨rfl, rfl⟩) ?_; clear h a; intro a h
            refine hw0 (by decide +kernel) ?_
            exact ⟨rfl, _, hm, h.keep ⟨rfl, rfl, rfl, rfl, rfl, rfl, rfl, rfl, trivial⟩⟩
          · (refine ho_op rfl rfl rfl h ?_); clear h a; (refine does_alloc hm ?_; clear hm; intro b w hm); intro a h; refine ⟨hm.sub (by repeat' (first | exact slr | refine slc ?_ | refine sld ?_)), ?_⟩
            refine hw1 4 (by decide +kernel) ?_
            (refine ho_op rfl rfl rfl h ?_); clear h a; ((refine does_funM hm en6 rfl hscr ?_; clear hm; intro w hm)); intro a h; refine ⟨hm.sub (by repeat' (first | exact slr | refine slc ?_ | refine sld ?_)), ?_⟩
            refine hw_take 5 rfl (by kernel_rfl) (by kernel_rfl) (by kernel_rfl) rfl rfl rfl h (hm.sub (by repeat' (first | exact slr | refine slc ?_ | refine sld ?_))) (fun w hm => by refine does_move rfl ?_ <;> exact ⟨rfl, rfl⟩) ?_; clear h a; intro a h
            refine hw_take 6 rfl (by kernel_rfl) (by kernel_rfl) (by kernel_rfl) rfl rfl rfl h (hm.sub (by repeat' (first | exact slr | refine slc ?_ | refine sld ?_))) (fun w hm => by refine does_extract rfl rfl ?_ <;> exact ⟨rfl, rfl⟩) ?_; clear h a; intro a h
            refine hw_take 7 rfl (by kernel_rfl) (by kernel_rfl) (by kernel_rfl) rfl rfl rfl h (hm.sub (by repeat' (first | exact slr | refine slc ?_ | refine sld ?_))) (fun w hm => by refine does_extract rfl rfl ?_ <;> exact ⟨rfl, rfl⟩) ?_; clear h a; intro a h
            refine hw1 9 (by decide +kernel) ?_
            (refine ho_opn rfl rfl h ?_); clear h a; ((refine does_storeO 0 hm rfl rfl rfl rfl rfl rfl rfl ?_; clear hm; intro w hm; (simp only [Value.cells, splice, nqq, Nat.reduceAdd, Nat.reduceMul, Int.reduceAdd, Int.reduceToNat] at hm))); intro a h; refine ⟨hm.sub (by repeat' (first | exact slr | refine slc ?_ | refine sld ?_)), ?_⟩
            refine hw_take 10 rfl (by kernel_rfl) (by kernel_rfl) (by kernel_rfl) rfl rfl rfl h (hm.sub (by repeat' (first | exact slr | refine slc ?_ | refine sld ?_))) (fun w hm => by refine does_assign rfl ?_ <;> exact ⟨rfl, rfl⟩) ?_; clear h a; intro a h
            refine hw0 (by decide +kernel) ?_
            exact ⟨rfl, _, hm, h.keep ⟨rfl, rfl, rfl, rfl, rfl, rfl, rfl, rfl, trivial⟩⟩
        · (refine ho_op rfl rfl rfl h ?_); clear h a; (refine does_alloc hm ?_; clear hm; intro b w hm); intro a h; refine ⟨hm.sub (by repeat' (first | exact slr | refine slc ?_ | refine sld ?_)), ?_⟩
          refine hw1 3 (by decide +kernel) ?_
          (refine ho_op rfl rfl rfl h ?_); clear h a; (((refine does_funM hm en7 rfl hbox ?_; clear hm; intro w hm))); intro a h; refine ⟨hm.sub (by repeat' (first | exact slr | refine slc ?_ | refine sld ?_)), ?_⟩
          refine hw1 4 (by decide +kernel) ?_
          (refine ho_op rfl rfl rfl h ?_); clear h a; ((refine does_funM hm en6 rfl hscr ?_; clear hm; intro w hm)); intro a h; refine ⟨hm.sub (by repeat' (first | exact slr | refine slc ?_ | refine sld ?_)), ?_⟩
          refine hw_take 5 rfl (by kernel_rfl) (by kernel_rfl) (by kernel_rfl) rfl rfl rfl h (hm.sub (by repeat' (first | exact slr | refine slc ?_ | refine sld ?_))) (fun w hm => by refine does_move rfl ?_ <;> exact ⟨rfl, rfl⟩) ?_; clear h a; intro a h
          refine hw_take 6 rfl (by kernel_rfl) (by kernel_rfl) (by kernel_rfl) rfl rfl rfl h (hm.sub (by repeat' (first | exact slr | refine slc ?_ | refine sld ?_))) (fun w hm => by refine does_extract rfl rfl ?_ <;> exact ⟨rfl, rfl⟩) ?_; clear h a; intro a h
          refine hw_take 7 rfl (by kernel_rfl) (by kernel_rfl) (by kernel_rfl) rfl rfl rfl h (hm.sub (by repeat' (first | exact slr | refine slc ?_ | refine sld ?_))) (fun w hm => by refine does_extract rfl rfl ?_ <;> exact ⟨rfl, rfl⟩) ?_; clear h a; intro a h
          refine hw1 9 (by decide +kernel) ?_
          (refine ho_opn rfl rfl h ?_); clear h a; ((refine does_storeO 0 hm rfl rfl rfl rfl rfl rfl rfl ?_; clear hm; intro w hm; (simp only [Value.cells, splice, nqq, Nat.reduceAdd, Nat.reduceMul, Int.reduceAdd, Int.reduceToNat] at hm))); intro a h; refine ⟨hm.sub (by repeat' (first | exact slr | refine slc ?_ | refine sld ?_)), ?_⟩
          refine hw_take 10 rfl (by kernel_rfl) (by kernel_rfl) (by kernel_rfl) rfl rfl rfl h (hm.sub (by repeat' (first | exact slr | refine slc ?_ | refine sld ?_))) (fun w hm => by refine does_assign rfl ?_ <;> exact ⟨rfl, rfl⟩) ?_; clear h a; intro a h
          refine hw0 (by decide +kernel) ?_
          exact ⟨rfl, _, hm, h.keep ⟨rfl, rfl, rfl, rfl, rfl, rfl, rfl, rfl, trivial⟩⟩
      clear h hm a w
      rintro a w ⟨b7, hm, h⟩
      repeat' (first | refine c_seq ?_ | refine k_then ?_)
      refine cw_cutN (fun a w => ∃ (pm : Option Addr) (cm : Nat) (ms : List TMic), (ms.length ≤ 128 ∧ ∀ m ∈ ms, goodM (dpS s S x.2.2.1 x.2.2.2.1 x.2.2.2.2) m) ∧ Mem W0 [] B1 (.row (.slice pm ms.length cm) 55 12 (ms.map eMic).flatten :: [.blk b7 (.cells [I a1, I a2, I a3, I a4, I a5, I a6].toArray 44), .blk b_6 (.cells (eSf s).toArray 42), .blk b_4 (.cells (eSa x).toArray 34), .blk b_3 (.cells (eSn S (.slice sp k1 c1) (.slice (some q1) us.length c2)).toArray 31)]) w ∧ Holds [(9, .slice pm ms.length cm), (26, .int .i64 k), (24, .slice (some q1) us.length c2), (25, .int .i64 us.length), (3, .pointer (some ⟨b_3, 0, none⟩)), (4, .pointer (some ⟨b_4, 0, none⟩)), (6, .pointer (some ⟨b_6, 0, none⟩)), (7, .pointer (some ⟨b7, 0, none⟩)), (8, .bool zb)] 85 a) ?_ ?_
      · skip
        refine hw_region ([.blk b_6 (.cells (eSf s).toArray 42), .blk b_4 (.cells (eSa x).toArray 34), .blk b_3 (.cells (eSn S (.slice sp k1 c1) (.slice (some q1) us.length c2)).toArray 31)]) mixed hm ?_; clear hm; intro w hm
        refine hw_take 0 rfl (by kernel_rfl) (by kernel_rfl) (by kernel_rfl) rfl rfl rfl h (hm.sub (by repeat' (first | exact slr | refine sld ?_))) (fun w hm => by (refine does_fieldAddrL rfl ?_) <;> exact ⟨rfl, rfl⟩) ?_; clear h a; intro a h; (simp only [Value.cells, splice, nqq, Nat.reduceAdd, Nat.reduceMul, Int.reduceAdd, Int.reduceToNat, Int.reduceTMod] at h)
        refine hw_take 1 rfl (by kernel_rfl) (by kernel_rfl) (by kernel_rfl) rfl rfl rfl h (hm.sub (by repeat' (first | exact slr | refine sld ?_))) (fun w hm => by (refine does_loadOA 2 hm rfl rfl rfl ?_) <;> exact ⟨rfl, rfl⟩) ?_; clear h a; intro a h; (simp only [Value.cells, splice, nqq, Nat.reduceAdd, Nat.reduceMul, Int.reduceAdd, Int.reduceToNat, Int.reduceTMod] at h)
        refine hw_take 2 rfl (by kernel_rfl) (by kernel_rfl) (by kernel_rfl) rfl rfl rfl h (hm.sub (by repeat' (first | exact slr | refine sld ?_))) (fun w hm => by (refine does_loadOA 0 hm rfl rfl rfl ?_) <;> exact ⟨rfl, rfl⟩) ?_; clear h a; intro a h; (simp only [Value.cells, splice, nqq, Nat.reduceAdd, Nat.reduceMul, Int.reduceAdd, Int.reduceToNat, Int.reduceTMod] at h)
        refine hw_take 3 rfl (by kernel_rfl) (by kernel_rfl) (by kernel_rfl) rfl rfl rfl h (hm.sub (by repeat' (first | exact slr | refine sld ?_))) (fun w hm => by (refine does_fieldAddrL rfl ?_) <;> exact ⟨rfl, rfl⟩) ?_; clear h a; intro a h; (simp only [Value.cells, splice, nqq, Nat.reduceAdd, Nat.reduceMul, Int.reduceAdd, Int.reduceToNat, Int.reduceTMod] at h)
        refine hw_take 4 rfl (by kernel_rfl) (by kernel_rfl) (by kernel_rfl) rfl rfl rfl h (hm.sub (by repeat' (first | exact slr | refine sld ?_))) (fun w hm => by (refine does_loadO 1 hm rfl rfl rfl ?_) <;> exact ⟨rfl, rfl⟩) ?_; clear h a; intro a h
        refine hw_take 6 rfl (by kernel_rfl) (by kernel_rfl) (by kernel_rfl) rfl rfl rfl h (hm.sub (by repeat' (first | exact slr | refine sld ?_))) (fun w hm => by (refine does_fieldAddrL rfl ?_) <;> exact ⟨rfl, rfl⟩) ?_; clear h a; intro a h; (simp only [Value.cells, splice, nqq, Nat.reduceAdd, Nat.reduceMul, Int.reduceAdd, Int.reduceToNat, Int.reduceTMod] at h)
        refine hw_take 7 rfl (by kernel_rfl) (by kernel_rfl) (by kernel_rfl) rfl rfl rfl h (hm.sub (by repeat' (first | exact slr | refine sld ?_))) (fun w hm => by (refine does_loadO 0 hm rfl rfl rfl ?_) <;> exact ⟨rfl, rfl⟩) ?_; clear h a; intro a h
        refine hw_take 8 rfl (by kernel_rfl) (by kernel_rfl) (by kernel_rfl) rfl rfl rfl h (hm.sub (by repeat' (first | exact slr | refine sld ?_))) (fun w hm => by (refine does_fieldAddrL rfl ?_) <;> exact ⟨rfl, rfl⟩) ?_; clear h a; intro a h; (simp only [Value.cells, splice, nqq, Nat.reduceAdd, Nat.reduceMul, Int.reduceAdd, Int.reduceToNat, Int.reduceTMod] at h)
        refine hw_take 9 rfl (by kernel_rfl) (by kernel_rfl) (by kernel_rfl) rfl rfl rfl h (hm.sub (by repeat' (first | exact slr | refine sld ?_))) (fun w hm => by (refine does_loadO 1 hm rfl rfl rfl ?_) <;> exact ⟨rfl, rfl⟩) ?_; clear h a; intro a h
        refine hw_take 10 rfl (by kernel_rfl) (by kernel_rfl) (by kernel_rfl) rfl rfl rfl h (hm.sub (by repeat' (first | exact slr | refine sld ?_))) (fun w hm => by (refine does_fieldAddrL rfl ?_) <;> exact ⟨rfl, rfl⟩) ?_; clear h a; intro a h; (simp only [Value.cells, splice, nqq, Nat.reduceAdd, Nat.reduceMul, Int.reduceAdd, Int.reduceToNat, Int.reduceTMod] at h)
        refine hw_take 11 rfl (by kernel_rfl) (by kernel_rfl) (by kernel_rfl) rfl rfl rfl h (hm.sub (by repeat' (first | exact slr | refine sld ?_))) (fun w hm => by (refine does_loadO 1 hm rfl rfl rfl ?_) <;> exact ⟨rfl, rfl⟩) ?_; clear h a; intro a h
        refine hw1 5 (by decide +kernel) ?_
        (refine ho_op rfl rfl rfl h ?_); clear h a; (((refine does_funM hm en9 rfl (surfaceAt_yes s.x0 s.y0 s.z0 s.x1 s.y1 s.z1 s.x2 s.y2 s.z2 s.x3 s.y3 s.z3 s.u0 s.v0 s.w0 s.u1 s.v1 s.w1 s.u2 s.v2 s.w2 s.u3 s.v3 s.w3 s.sh s.ra x.2.2.1 hx.1) ?_; clear hm; intro w hm))); intro a h; refine ⟨hm.sub (by repeat' (first | exact slr | refine sld ?_)), ?_⟩
        refine hw1 12 (by decide +kernel) ?_
        (refine ho_op rfl rfl rfl h ?_); clear h a; ((refine does_funG hm en8 rfl (dicePatch_ok (dpS s S x.2.2.1 x.2.2.2.1 x.2.2.2.2) hD) trivial ?_; clear hm; rintro v1 L1 w ⟨pm, cm, ms, rfl, rfl, hml, hmg⟩ hm; simp only [List.cons_append, List.nil_append, List.set_cons_zero, List.set_cons_succ] at hm)); intro a h; refine ⟨hm.sub (by repeat' (first | exact slr | refine sld ?_)), ?_⟩
        refine hw_take 13 rfl (by kernel_rfl) (by kernel_rfl) (by kernel_rfl) rfl rfl rfl h (hm.sub (by repeat' (first | exact slr | refine sld ?_))) (fun w hm => by refine does_assign rfl ?_ <;> exact ⟨rfl, rfl⟩) ?_; clear h a; intro a h
        refine hw0 (by decide +kernel) ?_
        exact ⟨rfl, _, _, _, ⟨hml, hmg⟩, hm, h.keep ⟨rfl, rfl, rfl, rfl, rfl, rfl, rfl, rfl, rfl, trivial⟩⟩
      clear h hm a w
      rintro a w ⟨pm, cm, ms, ⟨hml, hmg⟩, hm, h⟩
      have hm0 := hm
      clear hm
      obtain ⟨B2, p2, n2, c6, hle2, hm, he, hl4, _, _, hA4⟩ := hm0.freeze
      clear hm0
      cases he
      have hsm : Sl B2 pm eMic 12 ms := sl_of_flat (fun _ => rfl) rfl hA4
      clear hA4 hl4
      have hze : zb = false → ms.length = 0 := fun e => by
        cases ms with
        | nil => rfl
        | cons m r =>
          have := (hgood _ (hmg m (by simp)).1).1
          rw [e] at this
          cases this
      have hgm : ∀ m ∈ ms, Fun Tryz.prog 10 [.agg #[I a1, I a2, I a3, I a4, I a5, I a6], .agg (eVec m.1).toArray] (.bool true) ∧ Fun Tryz.prog 10 [.agg #[I a1, I a2, I a3, I a4, I a5, I a6], .agg (eVec m.2.1).toArray] (.bool true) ∧ Fun Tryz.prog 10 [.agg #[I a1, I a2, I a3, I a4, I a5, I a6], .agg (eVec m.2.2.1).toArray] (.bool true) := fun m hm => ⟨(hgood _ (hmg m hm).1).2, (hgood _ (hmg m hm).2.1).2, (hgood _ (hmg m hm).2.2).2⟩
      clear hgood hmg
      repeat' ((fail_if_success (refine c_isReg 10 ?_)); first | refine c_seq ?_ | refine c_region ?_ | refine c_nil ?_ | refine k_then ?_ | refine k_thenL ?_ | refine k_thenR ?_ | refine k_thenE ?_ | refine k_inN ?_ | refine k_inR ?_ | refine k_inE ?_ | refine k_inO rfl ?_ | refine c_skip ?_ | refine c_ret ?_ | refine c_exit ?_ | refine c_block ?_ | refine r_succ ?_ | refine c_condT h rfl ?_ | refine c_condF h rfl ?_ | (refine st_op (d := 3) rfl rfl h ?_; refine does_alloc hm ?_; clear h a hm; intro b_3 w hm a h; (fail)) | (refine st_op (d := 4) rfl rfl h ?_; refine does_alloc hm ?_; clear h a hm; intro b_4 w hm a h; (fail)) | (refine st_op (d := 6) rfl rfl h ?_; refine does_alloc hm ?_; clear h a hm; intro b_6 w hm a h; (fail)) | (refine st_op (d := 11) rfl rfl h ?_; refine does_alloc hm ?_; clear h a hm; intro b_11 w hm a h; (fail)) | (refine st_op (d := 13) rfl rfl h ?_; refine does_alloc hm ?_; clear h a hm; intro b_13 w hm a h; (fail)) | ((fail); clear h a; (fail); intro a h; (fail)) | ((fail); clear h a; intro a h) | ((fail) <;> intro hc <;> (fail)) | (refine st_guardD rfl rfl h ?_ ?_ <;> clear h <;> intro hc h))
      refine cw_cutN (fun a w => Mem W0 [] B2 [.blk b7 (.cells [I a1, I a2, I a3, I a4, I a5, I a6].toArray 44), .blk b_6 (.cells (eSf s).toArray 42), .blk b_4 (.cells (eSa x).toArray 34), .blk b_3 (.cells (eSn S (.slice sp k1 c1) (.slice (some q1) us.length c2)).toArray 31)] w ∧ Holds [(57, .bool false), (9, .slice pm ms.length cm), (26, .int .i64 k), (24, .slice (some q1) us.length c2), (25, .int .i64 us.length), (3, .pointer (some ⟨b_3, 0, none⟩)), (4, .pointer (some ⟨b_4, 0, none⟩)), (6, .pointer (some ⟨b_6, 0, none⟩)), (7, .pointer (some ⟨b7, 0, none⟩)), (8, .bool zb)] 85 a) ?_ ?_
      · cases zb
        · have hz0 := hze rfl
          repeat' (first | refine c_seq ?_ | refine c_region ?_ | refine c_nil ?_ | refine k_then ?_ | refine c_skip ?_ | refine c_condF h rfl ?_ | ((refine st_op rfl rfl h ?_); clear h a; (first | (show Does _ (.move _) _ _ _ _; refine does_move rfl ?_) | (show Does _ (.pick _ _ _) _ _ _ _; (refine does_pickT rfl rfl ?_)) | (show Does _ (.binOp _ _ _ _ _) _ _ _ _; (refine does_gtrF rfl rfl (by omega) ?_)) | (show Does _ (.unOp _ _ _) _ _ _ _; (refine does_not rfl ?_)) | (show Does _ (.call _) _ _ _ _; refine does_lenS (SliceT.out) rfl ?_)); intro a h))
          exact ⟨rfl, hm, h.keep ⟨rfl, rfl, rfl, rfl, rfl, rfl, rfl, rfl, rfl, rfl, trivial⟩⟩
        · repeat' (first | refine c_seq ?_ | refine c_region ?_ | refine c_nil ?_ | refine k_then ?_ | refine c_skip ?_ | refine c_condF h rfl ?_ | ((refine st_op rfl rfl h ?_); clear h a; (first | (show Does _ (.move _) _ _ _ _; refine does_move rfl ?_) | (show Does _ (.pick _ _ _) _ _ _ _; (refine does_pickF rfl rfl ?_)) | (show Does _ (.unOp _ _ _) _ _ _ _; (refine does_not rfl ?_))); intro a h) | ((refine st_skip rfl rfl h ?_); clear h a; intro a h))
          exact ⟨rfl, hm, h.keep ⟨rfl, rfl, rfl, rfl, rfl, rfl, rfl, rfl, rfl, rfl, trivial⟩⟩
      clear h hm a w
      rintro a w ⟨hm, h⟩
      repeat' (first | refine c_seq ?_ | refine c_region ?_ | refine c_nil ?_ | refine k_then ?_ | refine c_block ?_ | ((refine st_op rfl rfl h ?_); clear h a; (first | (show Does _ (.move _) _ _ _ _; refine does_move rfl ?_) | (show Does _ (.call _) _ _ _ _; refine does_lenS (SliceT.out) rfl ?_)); intro a h))
      refine c_loop (σ := Nat) (fun j a w => j ≤ ms.length ∧ Mem W0 [] B2 [.blk b7 (.cells [I a1, I a2, I a3, I a4, I a5, I a6].toArray 44), .blk b_6 (.cells (eSf s).toArray 42), .blk b_4 (.cells (eSa x).toArray 34), .blk b_3 (.cells (eSn S (.slice sp k1 c1) (.slice (some q1) us.length c2)).toArray 31)] w ∧ Holds [(60, .int .i64 j), (58, .slice pm ms.length cm), (59, .int .i64 ms.length), (26, .int .i64 k), (24, .slice (some q1) us.length c2), (25, .int .i64 us.length), (3, .pointer (some ⟨b_3, 0, none⟩)), (4, .pointer (some ⟨b_4, 0, none⟩)), (6, .pointer (some ⟨b_6, 0, none⟩)), (7, .pointer (some ⟨b7, 0, none⟩)), (8, .bool zb)] 85 a) (fun j => ms.length - j) 0 ⟨Nat.zero_le _, hm, h.keep ⟨rfl, rfl, rfl, rfl, rfl, rfl, rfl, rfl, rfl, rfl, rfl, trivial⟩⟩ ?_
      clear h hm a w
      rintro j a w ⟨hj, hm, h⟩
      by_cases hjm : j < ms.length
      · obtain ⟨q2, rfl, hat2⟩ := hsm.at hjm
        obtain ⟨m, hme⟩ : ∃ m, m = ms[j] := ⟨_, rfl⟩
        have hgm1 := hgm m (by rw [hme]; exact List.getElem_mem hjm)
        rw [← hme] at hat2
        clear hme
        obtain ⟨⟨m1x, m1y, m1z⟩, ⟨m2x, m2y, m2z⟩, ⟨m3x, m3y, m3z⟩, mu, mv, mk⟩ := m
        obtain ⟨hm1, hm2, hm3⟩ := hgm1
        repeat' (first | refine c_seq ?_ | refine c_region ?_ | refine c_nil ?_ | refine k_then ?_ | refine c_skip ?_ | refine c_block ?_ | refine c_condT h rfl ?_ | (refine st_op (d := 11) rfl rfl h ?_; refine does_alloc hm ?_; clear h a hm; intro b_11 w hm a h) | ((first | refine st_op rfl rfl h ?_ | refine st_opn rfl h ?_); clear h a; (first | (show Does _ (.store _ _ _) _ _ _ _; ((refine does_storeO 0 hm rfl rfl rfl rfl rfl rfl rfl ?_; clear hm; intro w hm; (simp only [Value.cells, splice, nqq, Nat.reduceAdd, Nat.reduceMul, Int.reduceAdd, Int.reduceToNat] at hm)))) | (show Does _ (.move _) _ _ _ _; refine does_move rfl ?_) | (show Does _ (.fieldAddr _ _ _) _ _ _ _; (refine does_fieldAddrL rfl ?_)) | (show Does _ (.load _ _) _ _ _ _; (first | refine does_loadOA 0 hm rfl rfl rfl ?_ | refine does_loadBA hm rfl (by assumption) rfl ?_)) | (show Does _ (.binOp _ _ _ _ _) _ _ _ _; (refine does_lssT rfl rfl (by omega) ?_)) | (show Does _ (.indexAddr _ _ _) _ _ _ _; (refine does_indexSn (by omega) rfl rfl ?_))); intro a h; (first | simp only [Value.cells, splice, nqq, Nat.reduceAdd, Nat.reduceMul, Int.reduceAdd, Int.reduceToNat, Int.reduceTMod] at h | skip)))
        refine c_rounds 4 ?_
        repeat' (first | refine c_seq ?_ | refine c_region ?_ | refine c_nil ?_ | refine k_then ?_ | refine k_thenL ?_ | refine k_thenE ?_ | refine k_inN ?_ | refine k_inE ?_ | refine c_skip ?_ | refine c_exit ?_ | refine c_block ?_ | refine r_succ ?_ | refine c_condT h rfl ?_ | refine c_condF h rfl ?_ | (refine st_op (d := 13) rfl rfl h ?_; refine does_alloc hm ?_; clear h a hm; intro b_13 w hm a h) | ((first | refine st_op rfl rfl h ?_ | refine st_opn rfl h ?_); clear h a; (first | (show Does _ (.call _) _ _ _ _; (first | ((refine does_funM hm en10 rfl hm1 ?_; clear hm; intro w hm)) | ((refine does_funM hm en10 rfl hm2 ?_; clear hm; intro w hm)) | ((refine does_funM hm en10 rfl hm3 ?_; clear hm; intro w hm)))) | (show Does _ (.store _ _ _) _ _ _ _; ((refine does_storeO 0 hm rfl rfl rfl rfl rfl rfl rfl ?_; clear hm; intro w hm; (simp only [Value.cells, splice, nqq, Nat.reduceAdd, Nat.reduceMul, Int.reduceAdd, Int.reduceToNat] at hm)))) | (show Does _ (.move _) _ _ _ _; refine does_move rfl ?_) | (show Does _ (.load _ _) _ _ _ _; (first | refine does_loadOA 0 hm rfl rfl rfl ?_ | refine does_loadOA 2 hm rfl rfl rfl ?_ | refine does_loadOA 3 hm rfl rfl rfl ?_ | refine does_loadOA 4 hm rfl rfl rfl ?_)) | (show Does _ (.binOp _ _ _ _ _) _ _ _ _; (first | refine does_lssT rfl rfl (by omega) ?_ | refine does_lssF rfl rfl (by omega) ?_ | refine does_add rfl rfl (by omega) ?_)) | (show Does _ (.unOp _ _ _) _ _ _ _; (refine does_not rfl ?_)) | (show Does _ (.index _ _ _) _ _ _ _; (refine does_indexVA (by omega) rfl rfl ?_))); intro a h; (first | simp only [Value.cells, splice, nqq, Nat.reduceAdd, Nat.reduceMul, Int.reduceAdd, Int.reduceToNat, Int.reduceTMod] at h | skip)))
        exact k_thenN ⟨j + 1, ⟨by omega, hm.sub (by repeat' (first | exact slr | refine sld ?_)), h.keep ⟨rfl, rfl, rfl, rfl, rfl, rfl, rfl, rfl, rfl, rfl, rfl, trivial⟩⟩, by omega⟩
      · obtain rfl : j = ms.length := by omega
        repeat' (first | refine c_seq ?_ | refine c_region ?_ | refine c_nil ?_ | refine k_then ?_ | refine k_thenE ?_ | refine k_inN ?_ | refine k_inE ?_ | refine c_exit ?_ | refine c_condF h rfl ?_ | ((refine st_op rfl rfl h ?_); clear h a; (first | (show Does _ (.move _) _ _ _ _; refine does_move rfl ?_) | (show Does _ (.binOp _ _ _ _ _) _ _ _ _; (first | refine does_lssF rfl rfl (by omega) ?_ | refine does_add rfl rfl (by omega) ?_))); intro a h))
        exact k_thenN ⟨k + 1, ⟨by omega, Mem.sub (hm.lower hle2) (by repeat' (first | exact slr | refine sld ?_)), h.keep ⟨rfl, rfl, rfl, rfl, rfl, trivial⟩⟩, by omega⟩
    · obtain rfl : k = us.length := by omega
      have hvb := G.viewBounds_y S.cw S.ch S.z S.ne S.dd S.l S.f hcc
      have hbc := G.boxContains_ok 0 0 S.ne (S.cw * 16 - 1) (S.ch * 16 - 1) 1000000 0 0 S.ne
      rw [bT ⟨⟨by omega, by omega, by omega⟩, by omega, by omega, by omega⟩] at hbc
      repeat' (first | refine c_seq ?_ | refine c_region ?_ | refine c_nil ?_ | refine k_then ?_ | refine k_thenE ?_ | refine k_inE ?_ | refine c_exit ?_ | refine c_condF h rfl ?_ | ((refine st_op rfl rfl h ?_); clear h a; ((show Does _ (.binOp _ _ _ _ _) _ _ _ _; (refine does_lssF rfl rfl (by omega) ?_))); intro a h))
      refine cw_cutN (fun a w => Mem W0 [] B1 [] w ∧ Holds [(2, .bool true)] 85 a) ?_ ?_
      · skip
        refine hw_region ([.blk b_3 (.cells (eSn S (.slice sp k1 c1) (.slice up us.length c2)).toArray 31)]) mixed hm ?_; clear hm; intro w hm
        refine hw_take 0 rfl (by kernel_rfl) (by kernel_rfl) (by kernel_rfl) rfl rfl rfl h (hm.sub (by repeat' (first | exact slr | refine sld ?_))) (fun w hm => by (refine does_fieldAddrL rfl ?_) <;> exact ⟨rfl, rfl⟩) ?_; clear h a; intro a h; (simp only [Value.cells, splice, nqq, Nat.reduceAdd, Nat.reduceMul, Int.reduceAdd, Int.reduceToNat, Int.reduceTMod] at h)
        refine hw_take 1 rfl (by kernel_rfl) (by kernel_rfl) (by kernel_rfl) rfl rfl rfl h (hm.sub (by repeat' (first | exact slr | refine sld ?_))) (fun w hm => by (refine does_loadOA 0 hm rfl rfl rfl ?_) <;> exact ⟨rfl, rfl⟩) ?_; clear h a; intro a h; (simp only [Value.cells, splice, nqq, Nat.reduceAdd, Nat.reduceMul, Int.reduceAdd, Int.reduceToNat, Int.reduceTMod] at h)
        refine hw_take 3 rfl (by kernel_rfl) (by kernel_rfl) (by kernel_rfl) rfl rfl rfl h (hm.sub (by repeat' (first | exact slr | refine sld ?_))) (fun w hm => by (refine does_fieldAddrL rfl ?_) <;> exact ⟨rfl, rfl⟩) ?_; clear h a; intro a h; (simp only [Value.cells, splice, nqq, Nat.reduceAdd, Nat.reduceMul, Int.reduceAdd, Int.reduceToNat, Int.reduceTMod] at h)
        refine hw_take 4 rfl (by kernel_rfl) (by kernel_rfl) (by kernel_rfl) rfl rfl rfl h (hm.sub (by repeat' (first | exact slr | refine sld ?_))) (fun w hm => by (refine does_fieldAddrL rfl ?_) <;> exact ⟨rfl, rfl⟩) ?_; clear h a; intro a h; (simp only [Value.cells, splice, nqq, Nat.reduceAdd, Nat.reduceMul, Int.reduceAdd, Int.reduceToNat, Int.reduceTMod] at h)
        refine hw_take 5 rfl (by kernel_rfl) (by kernel_rfl) (by kernel_rfl) rfl rfl rfl h (hm.sub (by repeat' (first | exact slr | refine sld ?_))) (fun w hm => by (refine does_loadO 0 hm rfl rfl rfl ?_) <;> exact ⟨rfl, rfl⟩) ?_; clear h a; intro a h
        refine hw_take 6 rfl (by kernel_rfl) (by kernel_rfl) (by kernel_rfl) rfl rfl rfl h (hm.sub (by repeat' (first | exact slr | refine sld ?_))) (fun w hm => by refine does_build rfl rfl ?_ <;> exact ⟨rfl, rfl⟩) ?_; clear h a; intro a h; (simp only [Value.cells, splice, nqq, Nat.reduceAdd, Nat.reduceMul, Int.reduceAdd, Int.reduceToNat, Int.reduceTMod] at h)
        refine hw1 2 (by decide +kernel) ?_
        (refine ho_op rfl rfl rfl h ?_); clear h a; (((refine does_funM hm en11 rfl hvb ?_; clear hm; intro w hm))); intro a h; refine ⟨hm.sub (by repeat' (first | exact slr | refine sld ?_)), ?_⟩
        refine hw1 7 (by decide +kernel) ?_
        (refine ho_op rfl rfl rfl h ?_); clear h a; (((refine does_funM hm en10 rfl hbc ?_; clear hm; intro w hm))); intro a h; refine ⟨hm.sub (by repeat' (first | exact slr | refine sld ?_)), ?_⟩
        refine hw_take 8 rfl (by kernel_rfl) (by kernel_rfl) (by kernel_rfl) rfl rfl rfl h (hm.sub (by repeat' (first | exact slr | refine sld ?_))) (fun w hm => by refine does_assign rfl ?_ <;> exact ⟨rfl, rfl⟩) ?_; clear h a; intro a h
        refine hw0 (by decide +kernel) ?_
        exact ⟨rfl, hm.dropAll, h.keep ⟨rfl, trivial⟩⟩
      clear h hm
      rintro a w ⟨hm, h⟩
      replace hm := hm.lower hle
      repeat' (first | refine k_then ?_ | refine c_ret ?_)
      (refine k_ret1 rfl h rfl ⟨?_, hm.below⟩)
      rfl
  · repeat' (first | refine c_seq ?_ | refine c_region ?_ | refine c_nil ?_ | refine k_then ?_ | refine k_thenR ?_ | refine c_ret ?_ | refine c_condT h rfl ?_ | ((refine st_op rfl rfl h ?_); clear h a; (first | (show Does _ (.move _) _ _ _ _; refine does_move rfl ?_) | (show Does _ (.assign _) _ _ _ _; refine does_assign rfl ?_) | (show Does _ (.binOp _ _ _ _ _) _ _ _ _; (refine does_gtrT rfl rfl (by omega) ?_)) | (show Does _ (.call _) _ _ _ _; refine does_lenS (SliceT.out) rfl ?_)); intro a h))
    all_goals (refine k_ret1 rfl h rfl ⟨?_, hm.below⟩)
    all_goals rfl
end Go.Proofs.YtcbnegmmjflmcaaGreat.St
namespace Go.Proofs.YtcbnegmmjflmcaaGreat.fnBounds
open Go.ChangeShapes Go.WideShapes Go.ChangeAt Go.RowKit Go.Proofs.YtcbnegmmjflmcaaGreat.St
set_option linter.unusedVariables false
theorem own : ownKnob Tryz.prog.godebug = none := by kernel_rfl
theorem laid : laidOutB Tryz.prog = true := by kernel_rfl
set_option maxRecDepth 100000 in
theorem lifted (os : Os) (started : os.Started) (H : Type) (enc : TypeId × Value → H) :
    ReturnsInHanded {} Tryz.checked os 3 .any (Rows.fnBoundsSpec.pre6 enc Tryz.prog Tryz.f3 Rows.fnBoundsRow.domain false) (Rows.fnBoundsSpec.post enc Tryz.prog Tryz.f3 false true false false) := by
  refine returnsInHanded_of_change (C := Tryz.checked) own started (by kernel_rfl) Tryz.func3
    (ChangeSpec.witness6 (enc := enc) (C := Tryz.checked) false ⟨#[], #[.slice none 0 0], []⟩ 8 (by kernel_rfl) (by kernel_rfl) (by kernel_rfl) (by kernel_rfl)) ?_
  intro W base args ds gs before hval0 hW hcnd _
  have hval : ∀ (j : Nat) t v, Tryz.f3.params[j]? = some t → args[j]? = some v → Value.okWide Tryz.prog W .any base t v := hval0
  have hW1 := hW
  obtain ⟨p, q, hA0, hV, hbe, hfz, hnd⟩ := hW1
  have hA : DataW.TrodAll enc Tryz.prog W 0 (fun _ => true) true Tryz.f3.params.toList args.toList ds p := hA0
  rw [Tryz.params3] at hA hval
  obtain ⟨v0, vs0, d0, ds0, p0, q0, hg0, hd0, hp0, h0, r0⟩ := trodAll_cons hA
  obtain ⟨hgz, hdz, hpz⟩ := trodAll_nil r0
  rw [hgz] at hg0
  rw [hdz] at hd0
  obtain rfl : args = #[v0] := by cases args; simp_all
  subst hd0
  have f0 := open_scal (n := 9) (ks := [.cell 22]) (by kernel_rfl) (by kernel_rfl) (hval 0 22 v0 rfl rfl) h0
  obtain ⟨a0_0, c0_0, e0, ⟨u0_0, x0_0, g0_0⟩, f0⟩ := fits_cell f0
  obtain ⟨rfl, rfl⟩ : v0 = a0_0 ∧ c0_0 = [] := by simpa [eq_comm] using e0
  obtain ⟨p0, xs0, n0, rfl, hle0, hn0, hi0, hbd0⟩ := openByteS Tryz.underlying22 (by kernel_rfl) (by kernel_rfl) g0_0
  refine ((lwBounds p0 xs0 n0 hbd0 (by simp only [maxLen] at hn0; omega)).out W hi0).mono fun e W2 ⟨he, hx⟩ => ?_
  subst he
  exact ⟨_, rfl, law_post (t := 4) laid (by kernel_rfl) (by kernel_rfl) Tryz.underlying4 rfl hW rfl hx⟩
theorem closed : joinedFacts Tryz.prog 3 Tryz.f3 Rows.fnBoundsSpec Rows.fnBoundsRow = true := by
  rw [joinedFacts, Facts.mayEnter_t, Facts.lifts_t, Facts.make_t]
  kernel_rfl
theorem over : Rows.fnBoundsRow.holds Tryz.pinned (OpenSpec.ofChange Rows.fnBoundsSpec) :=
  OpenClaim.holds_of_wide 3 Tryz.f3 rfl rfl rfl rfl rfl rfl rfl ⟨rfl, rfl, rfl, rfl, rfl⟩ rfl rfl rfl rfl rfl (by kernel_rfl) Tryz.func3 closed
    (of_decide_eq_true (by kernel_rfl)) (by unfold Func.isWrapper; first | (rw [if_pos (by decide +kernel)]; kernel_rfl) | (rw [if_neg (by decide +kernel)]; exact ⟨rfl, rfl⟩))
    (fun os started H enc _ => lifted os started H enc)
theorem proved : Rows.FnBoundsSaid := over
#print axioms proved
end Go.Proofs.YtcbnegmmjflmcaaGreat.fnBounds
