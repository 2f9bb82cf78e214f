/-
  One token of a source.
-/
import Derived.Test.YtcbnegmmjflmcaaGreatLNbr
set_option linter.unusedSimpArgs false
set_option linter.unusedVariables false
namespace Go.Proofs.YtcbnegmmjflmcaaGreat.St
open Go.RowKit
abbrev eTok (k : Int) (t : ByteArray) (n o : Int) : List Value := [I k, .string t, I n, I o]
def scR (s : ByteArray) (at_ : Nat) (v : Value) : Prop := ∃ (k : Int) (t : ByteArray) (n : Int) (o e : Nat) (z : Bool), v = .tuple #[.agg (eTok k t n o).toArray, I e, .bool z] ∧ (z = true → at_ < e ∧ e ≤ s.size ∧ t.size ≤ 2000)
theorem ex_size {s : ByteArray} (hs : s.size ≤ 2000) (a b : Nat) : (s.extract a b).size ≤ 2000 := by
  rw [ByteArray.size_extract]
  omega
section
variable {P : Program} {E : Env} {w W0 : World} {X : List Nat} {B : Heap} {L : List Own} {Φ : Value → World → Prop} {ty t t' : TypeId} {x y : Operand}
/-- a literal's bytes, marked as such -/
theorem does_convMark (i : Nat) {e : TypeId} {b n c : Nat} {cs : List Value} {T : TypeId} (hu : P.underlying t = some (.slice e)) (he : P.underlying e = some (.int .u8)) (hm : Mem W0 X B L w) (hx : ev E x = some (.slice (some ⟨b, 0, none⟩) n c)) (hL : L[i]? = some (.blk b (.cells cs.toArray T (0, 0))))
    (k : ∀ w', Mem W0 X B (L.set i (.blk b (.cells cs.toArray T (cs.length, cs.length + 1)))) w' → Φ (.slice (some ⟨b, 0, none⟩) n c) w') : Does P (.convert t t x) ty E w Φ := by
  have hb := mem_idx hm hL
  simp only [Own.holds] at hb
  have hlt : b < w.heap.size := (Array.getElem?_eq_some_iff.1 hb).1
  obtain ⟨W1, hW1⟩ : ∃ W1, w.freeze ⟨b, cs.length, none⟩ 1 = W1 := ⟨_, rfl⟩
  have hg : W1.heap[b]? = some (.cells cs.toArray T (cs.length, cs.length + 1)) := by
    rw [← hW1]
    simp [World.freeze, Array.getElem?_modify, hb]
  have ho : ∀ c, c ≠ b → c < w.heap.size → W1.heap[c]? = w.heap[c]? := fun c hc _ => by
    rw [← hW1]
    simp [World.freeze, Array.getElem?_modify, Ne.symm hc]
  have hsz : w.heap.size ≤ W1.heap.size := by
    rw [← hW1]
    simp [World.freeze]
  have hos : W1.os = w.os ∧ W1.tape = w.tape ∧ W1.output = w.output := by
    rw [← hW1]
    simp [World.freeze]
  have hsh : w.shape? b = some (T, cs.length) := by simp [World.shape?, hb]
  refine ⟨fun ρ hρ => ?_⟩
  have : (execOp ρ (mk (.convert t t x) ty)).run P w = .ok (.value (.slice (some ⟨b, 0, none⟩) n c)) W1 := by
    simp only [execOp, mk, hρ _ _ hx]
    simp [convert, run_underlying hu, run_underlying he, markStringish, hsh, hW1]
  rw [this]
  exact k _ (hm.update i hL hos.1 hos.2.1 hos.2.2 hsz hg ho)
end
set_option maxHeartbeats 8000000 in
theorem l12Scan_ok (s : ByteArray) (at_ : Nat) (hs : s.size ≤ 2000) (hlt : at_ < s.size) : FunV Tryz.prog 96 [.string s, .int .i64 at_] (fun _ => True) (scR s at_) := by
  refine enterFunV Tryz.func96 rfl Tryz.ntmps96 rfl (fun W0 w a hp hm h => ?_)
  have hb := bt_bd s at_
  by_cases hd : digB s at_
  · have hd' := hd
    unfold digB at hd'
    repeat' (first | refine c_seq ?_ | refine c_region ?_ | refine c_nil ?_ | refine k_then ?_ | refine k_thenR ?_ | refine c_ret ?_ | refine c_condT h rfl ?_ | (refine st_op (d := 4) rfl rfl h ?_; refine does_alloc hm ?_; clear h a hm; intro b_4 w hm a h) | ((first | refine st_op rfl rfl h ?_ | refine st_opn rfl h ?_); clear h a; (first | ((refine does_strLoHi (i := at_) (m := e) Tryz.underlying9 rfl rfl rfl ⟨by omega, h2⟩ ?_)) | (show Does _ (.index _ _ _) _ _ _ _; (((refine does_strIdxN (i := at_) hlt rfl rfl ?_)))) | (show Does _ (.call _) _ _ _ _; (first | ((refine does_funVal hm en108 rfl (l12Number_ok s at_ hs hlt hd) trivial ?_; clear hm; rintro v w ⟨e, n, z, rfl, h1, h2⟩ hm)) | (refine does_funM hm en107 rfl (l12Digit_y _ (by first | assumption | omega)) ?_; clear hm; intro w hm))) | (show Does _ (.store _ _ _) _ _ _ _; ((refine does_storeO 0 hm rfl rfl rfl rfl rfl rfl rfl ?_; clear hm; intro w hm; (simp only [Value.cells, splice, nqq, Nat.reduceAdd, Nat.reduceMul, Int.reduceAdd, Int.reduceToNat] at hm)))) | (show Does _ (.move _) _ _ _ _; refine does_move rfl ?_) | (show Does _ (.assign _) _ _ _ _; refine does_assign rfl ?_) | (show Does _ (.extract _ _) _ _ _ _; refine does_extract rfl rfl ?_) | (show Does _ (.build _ _) _ _ _ _; refine does_build rfl rfl ?_)); intro a h; (first | simp only [Value.cells, splice, nqq, Nat.reduceAdd, Nat.reduceMul, Int.reduceAdd, Int.reduceToNat, Int.reduceTMod] at h | skip)))
    exact k_ret (vs := [_, _, _]) rfl h ⟨rv_cellA (i := 0) hm rfl rfl rfl, rfl, rfl, trivial⟩ ⟨⟨_, _, _, at_, e, z, rfl, fun _ => ⟨h1, h2, ex_size hs _ _⟩⟩, hm.below⟩
  · have hd' := hd
    unfold digB at hd'
    by_cases hl : letB s at_
    · have hl' := hl
      unfold letB at hl'
      repeat' (first | refine c_seq ?_ | refine c_region ?_ | refine c_nil ?_ | refine k_then ?_ | refine c_skip ?_ | refine c_block ?_ | refine c_condT h rfl ?_ | refine c_condF h rfl ?_ | (refine st_op (d := 4) rfl rfl h ?_; refine does_alloc hm ?_; clear h a hm; intro b_4 w hm a h) | ((refine st_op rfl rfl h ?_); clear h a; (first | (show Does _ (.index _ _ _) _ _ _ _; (((refine does_strIdxN (i := at_) hlt rfl rfl ?_)))) | (show Does _ (.call _) _ _ _ _; (first | (refine does_funM hm en107 rfl (l12Digit_n _ (by first | assumption | omega)) ?_; clear hm; intro w hm) | (refine does_funM hm en109 rfl (l12Letter_y _ (by first | assumption | omega)) ?_; clear hm; intro w hm))) | (show Does _ (.move _) _ _ _ _; refine does_move rfl ?_) | (show Does _ (.assign _) _ _ _ _; refine does_assign rfl ?_)); intro a h))
      refine cw_cutX 0 (fun a w => ∃ e : Nat, at_ < e ∧ e ≤ s.size ∧ Mem W0 [] (fun b => W0.heap[b]?) [.blk b_4 (.cells [I 0, .string ⟨#[]⟩, I 0, I 0].toArray 145)] w ∧ Holds [(0, .string s), (1, .int .i64 at_), (4, .pointer (some ⟨b_4, 0, none⟩)), (11, .int .i64 e)] 89 a) ?_ ?_
      · refine c_loop (σ := Nat) (fun e a w => at_ ≤ e ∧ e ≤ s.size ∧ Mem W0 [] (fun b => W0.heap[b]?) [.blk b_4 (.cells [I 0, .string ⟨#[]⟩, I 0, I 0].toArray 145)] w ∧ Holds [(0, .string s), (1, .int .i64 at_), (4, .pointer (some ⟨b_4, 0, none⟩)), (11, .int .i64 e)] 89 a) (fun e => s.size - e) at_
          ⟨Nat.le_refl _, by omega, hm, h.keep ⟨rfl, rfl, rfl, rfl, trivial⟩⟩ ?_
        clear h hm
        rintro e a w ⟨h1, h2, hm, h⟩
        have hbe := bt_bd s e
        by_cases he : e < s.size
        · by_cases hle : letB s e
          · have hle' := hle
            unfold letB at hle'
            repeat' (first | refine c_seq ?_ | refine c_region ?_ | refine c_nil ?_ | refine k_then ?_ | refine k_inN ?_ | refine c_skip ?_ | refine c_block ?_ | refine c_condT h rfl ?_ | ((refine st_op rfl rfl h ?_); clear h a; (first | (show Does _ (.index _ _ _) _ _ _ _; (((refine does_strIdxN (i := e) he rfl rfl ?_)))) | (show Does _ (.call _) _ _ _ _; (first | (refine does_funM hm en109 rfl (l12Letter_y _ (by first | assumption | omega)) ?_; clear hm; intro w hm) | refine does_lenStr (StrT.out) rfl ?_)) | (show Does _ (.move _) _ _ _ _; refine does_move rfl ?_) | (show Does _ (.assign _) _ _ _ _; refine does_assign rfl ?_) | (show Does _ (.pick _ _ _) _ _ _ _; (refine does_pickT rfl rfl ?_)) | (show Does _ (.binOp _ _ _ _ _) _ _ _ _; (first | refine does_lssT rfl rfl (by omega) ?_ | refine does_add rfl rfl (by omega) ?_))); intro a h) | ((refine st_skip rfl rfl h ?_); clear h a; intro a h))
            exact k_thenN ⟨e + 1, ⟨by omega, by omega, hm, h.keep ⟨rfl, rfl, rfl, rfl, trivial⟩⟩, by omega⟩
          · have hle' := hle
            unfold letB at hle'
            have hne : e ≠ at_ := fun q => by subst q; exact hle hl
            by_cases hde : digB s e
            · have hde' := hde
              unfold digB at hde'
              repeat' (first | refine c_seq ?_ | refine c_region ?_ | refine c_nil ?_ | refine k_then ?_ | refine k_inN ?_ | refine c_skip ?_ | refine c_block ?_ | refine c_condT h rfl ?_ | ((refine st_op rfl rfl h ?_); clear h a; (first | (show Does _ (.index _ _ _) _ _ _ _; (((refine does_strIdxN (i := e) he rfl rfl ?_)))) | (show Does _ (.call _) _ _ _ _; (first | (refine does_funM hm en107 rfl (l12Digit_y _ (by first | assumption | omega)) ?_; clear hm; intro w hm) | (refine does_funM hm en109 rfl (l12Letter_n _ (by first | assumption | omega)) ?_; clear hm; intro w hm) | refine does_lenStr (StrT.out) rfl ?_)) | (show Does _ (.move _) _ _ _ _; refine does_move rfl ?_) | (show Does _ (.assign _) _ _ _ _; refine does_assign rfl ?_) | (show Does _ (.pick _ _ _) _ _ _ _; (first | refine does_pickT rfl rfl ?_ | refine does_pickF rfl rfl ?_)) | (show Does _ (.binOp _ _ _ _ _) _ _ _ _; (first | refine does_lssT rfl rfl (by omega) ?_ | refine does_add rfl rfl (by omega) ?_))); intro a h))
              exact k_thenN ⟨e + 1, ⟨by omega, by omega, hm, h.keep ⟨rfl, rfl, rfl, rfl, trivial⟩⟩, by omega⟩
            · have hde' := hde
              unfold digB at hde'
              repeat' (first | refine c_seq ?_ | refine c_region ?_ | refine c_nil ?_ | refine k_then ?_ | refine k_thenE ?_ | refine c_exit ?_ | refine c_condF h rfl ?_ | ((refine st_op rfl rfl h ?_); clear h a; (first | (show Does _ (.index _ _ _) _ _ _ _; (((refine does_strIdxN (i := e) he rfl rfl ?_)))) | (show Does _ (.call _) _ _ _ _; (first | (refine does_funM hm en107 rfl (l12Digit_n _ (by first | assumption | omega)) ?_; clear hm; intro w hm) | (refine does_funM hm en109 rfl (l12Letter_n _ (by first | assumption | omega)) ?_; clear hm; intro w hm) | refine does_lenStr (StrT.out) rfl ?_)) | (show Does _ (.move _) _ _ _ _; refine does_move rfl ?_) | (show Does _ (.pick _ _ _) _ _ _ _; (first | refine does_pickT rfl rfl ?_ | refine does_pickF rfl rfl ?_)) | (show Does _ (.binOp _ _ _ _ _) _ _ _ _; (refine does_lssT rfl rfl (by omega) ?_))); intro a h))
              exact ⟨⟨rfl, e, by omega, h2, hm, h.keep ⟨rfl, rfl, rfl, rfl, trivial⟩⟩⟩
        · repeat' (first | refine c_seq ?_ | refine c_region ?_ | refine c_nil ?_ | refine k_then ?_ | refine k_thenE ?_ | refine c_exit ?_ | refine c_condF h rfl ?_ | ((refine st_op rfl rfl h ?_); clear h a; (first | (show Does _ (.call _) _ _ _ _; (refine does_lenStr (StrT.out) rfl ?_)) | (show Does _ (.move _) _ _ _ _; refine does_move rfl ?_) | (show Does _ (.pick _ _ _) _ _ _ _; (refine does_pickF rfl rfl ?_)) | (show Does _ (.binOp _ _ _ _ _) _ _ _ _; (refine does_lssF rfl rfl (by omega) ?_))); intro a h) | ((refine st_skip rfl rfl h ?_); clear h a; intro a h))
          exact ⟨⟨rfl, e, by omega, h2, hm, h.keep ⟨rfl, rfl, rfl, rfl, trivial⟩⟩⟩
      clear h hm
      rintro a w ⟨e, h1, h2, hm, h⟩
      repeat' (first | refine c_seq ?_ | refine c_region ?_ | refine c_nil ?_ | refine k_then ?_ | refine k_thenR ?_ | refine k_inE ?_ | refine c_ret ?_ | ((first | refine st_op rfl rfl h ?_ | refine st_opn rfl h ?_); clear h a; (first | ((refine does_strLoHi (i := at_) (m := e) Tryz.underlying9 rfl rfl rfl ⟨by omega, h2⟩ ?_)) | (show Does _ (.store _ _ _) _ _ _ _; ((refine does_storeO 0 hm rfl rfl rfl rfl rfl rfl rfl ?_; clear hm; intro w hm; (simp only [Value.cells, splice, nqq, Nat.reduceAdd, Nat.reduceMul, Int.reduceAdd, Int.reduceToNat] at hm)))) | (show Does _ (.move _) _ _ _ _; refine does_move rfl ?_) | (show Does _ (.assign _) _ _ _ _; refine does_assign rfl ?_) | (show Does _ (.binOp _ _ _ _ _) _ _ _ _; (first | refine does_leq rfl rfl ?_ | refine does_sub rfl rfl (by omega) ?_)) | (show Does _ (.build _ _) _ _ _ _; refine does_build rfl rfl ?_)); intro a h; (first | simp only [Value.cells, splice, nqq, Nat.reduceAdd, Nat.reduceMul, Int.reduceAdd, Int.reduceToNat, Int.reduceTMod] at h | skip)))
      exact k_ret (vs := [_, _, _]) rfl h ⟨rv_cellA (i := 0) hm rfl rfl rfl, rfl, rfl, trivial⟩ ⟨⟨_, _, _, at_, e, _, rfl, fun _ => ⟨h1, h2, ex_size hs _ _⟩⟩, hm.below⟩
    · have hl' := hl
      unfold letB at hl'
      repeat' (first | refine c_seq ?_ | refine c_region ?_ | refine c_nil ?_ | refine k_then ?_ | refine k_thenL ?_ | refine k_thenR ?_ | refine k_thenE ?_ | refine k_inN ?_ | refine k_inR ?_ | refine k_inE ?_ | refine c_skip ?_ | refine c_ret ?_ | refine c_exit ?_ | refine c_block ?_ | refine r_succ ?_ | refine c_condT h rfl ?_ | refine c_condF h rfl ?_ | (refine c_rounds 10 ?_) | (refine st_op (d := 4) rfl rfl h ?_; refine does_alloc hm ?_; clear h a hm; intro b_4 w hm a h) | ((first | refine st_op rfl rfl h ?_ | refine st_opn rfl h ?_); clear h a; (first | ((refine does_strLoHiN (i := at_) (m := at_ + 1) Tryz.underlying9 rfl rfl rfl rfl (by omega) ⟨by omega, by omega⟩ ?_)) | (show Does _ (.index _ _ _) _ _ _ _; (((refine does_strIdxN (i := at_) hlt rfl rfl ?_)))) | (show Does _ (.convert _ _ _) _ _ _ _; ((refine does_convMark 0 Tryz.underlying22 Tryz.underlying5 hm rfl rfl ?_; clear hm; intro w hm; simp only [List.set_cons_zero] at hm))) | (show Does _ (.buildSlice _ _ _) _ _ _ _; (refine does_buildSlice hm rfl rfl rfl ?_; clear hm; intro b w hm; (simp only [rep, nqr, Value.cells, splice, nqq, Nat.reduceAdd, Nat.reduceMul, Int.reduceAdd, Int.reduceToNat] at hm))) | (show Does _ (.store _ _ _) _ _ _ _; ((refine does_storeO 1 hm rfl rfl rfl rfl rfl rfl rfl ?_; clear hm; intro w hm; (simp only [Value.cells, splice, nqq, Nat.reduceAdd, Nat.reduceMul, Int.reduceAdd, Int.reduceToNat] at hm)))) | (show Does _ (.call _) _ _ _ _; (first | (refine does_funM hm en107 rfl (l12Digit_n _ (by first | assumption | omega)) ?_; clear hm; intro w hm) | (refine does_funM hm en109 rfl (l12Letter_n _ (by first | assumption | omega)) ?_; clear hm; intro w hm) | refine does_lenS (SliceT.out) rfl ?_)) | (show Does _ (.move _) _ _ _ _; refine does_move rfl ?_) | (show Does _ (.assign _) _ _ _ _; refine does_assign rfl ?_) | (show Does _ (.load _ _) _ _ _ _; (refine does_loadO 0 hm rfl rfl rfl ?_)) | (show Does _ (.binOp _ _ _ _ _) _ _ _ _; (first | refine does_lssT rfl rfl (by omega) ?_ | refine does_lssF rfl rfl (by omega) ?_ | refine does_eql rfl rfl ?_ | refine does_add rfl rfl (by omega) ?_)) | (show Does _ (.indexAddr _ _ _) _ _ _ _; (refine does_indexSL (by omega) rfl rfl ?_)) | (show Does _ (.build _ _) _ _ _ _; refine does_build rfl rfl ?_)); intro a h; (first | simp only [Value.cells, splice, nqq, Nat.reduceAdd, Nat.reduceMul, Int.reduceAdd, Int.reduceToNat, Int.reduceTMod] at h | skip)) | ((refine c_condD h rfl ?_ ?_) <;> intro hc <;> (skip)))
      all_goals first
        | exact k_ret (vs := [_, _, _]) rfl h ⟨rv_cellA (i := 1) hm rfl rfl rfl, rfl, rfl, trivial⟩ ⟨⟨_, _, _, at_, at_ + 1, true, rfl, fun _ => ⟨by omega, by omega, ex_size hs _ _⟩⟩, hm.below⟩
        | exact k_ret (vs := [_, _, _]) rfl h ⟨rv_cellA (i := 1) hm rfl rfl rfl, rfl, rfl, trivial⟩ ⟨⟨_, _, _, 0, at_, false, rfl, fun q => (by cases q)⟩, hm.below⟩
end Go.Proofs.YtcbnegmmjflmcaaGreat.St
