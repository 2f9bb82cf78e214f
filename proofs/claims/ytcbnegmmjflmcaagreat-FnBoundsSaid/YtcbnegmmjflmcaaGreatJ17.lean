/-
  Calls over given own blocks that leave new frozen memory behind, too.
-/
import Derived.Test.YtcbnegmmjflmcaaGreatJ4
import Derived.Test.YtcbnegmmjflmcaaGreatJ13
import Derived.Test.YtcbnegmmjflmcaaGreatLScn

section
set_option linter.unusedSimpArgs false
set_option linter.unusedVariables false
namespace Go.Proofs.YtcbnegmmjflmcaaGreat.St
open Go.RowKit
theorem Heap.le_refl (B : Heap) : Heap.le B B := fun _ _ h => h
theorem Heap.le_trans {A B C : Heap} (h : Heap.le A B) (k : Heap.le B C) : Heap.le A C := fun b o q => k b o (h b o q)
/-- it takes some of one's own and gives others; what is frozen may grow -/
structure FunF (P : Program) (f : FuncId) (vs : List Value) (L0 : List Own) (pre : Heap → Prop) (R : Value → List Own → Heap → Prop) : Prop where
  out : ∀ W0 X B L w, pre B → Mem W0 X B (L0 ++ L) w → Calls P f vs.toArray w fun e w' => ∃ v L' B', e = .returned v ∧ Heap.le B B' ∧ R v L' B' ∧ Mem W0 X B' (L' ++ L) w'
section
variable {P : Program} {E : Env} {w W0 : World} {X : List Nat} {B : Heap} {L : List Own} {Φ : Value → World → Prop} {ty t : TypeId} {x y : Operand}
theorem does_funF {f : FuncId} {args : List Operand} {ats : Array TypeId} {vs : List Value} {L0 : List Own} {pre : Heap → Prop} {R : Value → List Own → Heap → Prop} (L : List Own) (hm : Mem W0 X B (L0 ++ L) w) (hen : Enters P f) (hx : evs E args = some vs) (hc : FunF P f vs L0 pre R) (hp : pre B)
    (k : ∀ v L' B' w', Heap.le B B' → R v L' B' → Mem W0 X B' (L' ++ L) w' → Φ v w') : Does P (.call { callee := .value (.func f), args := args.toArray, argTypes := ats }) ty E w Φ :=
  does_call hen hx ((hc.out W0 X B L w hp hm).mono fun _ w' ⟨v, L', B', he, hB, hR, hn⟩ => ⟨v, he, k v L' B' w' hB hR hn⟩)
theorem enterFunF {f : FuncId} {fn : Func} {c : Code} {vs : List Value} {n : Nat} {L0 : List Own} {pre : Heap → Prop} {R : Value → List Own → Heap → Prop} (hf : P.funcs[f]? = some fn) (hb : fn.body = some c) (hn : fn.ntmps = n) (hl : Nat.ble vs.length n = true)
    (h : ∀ W0 X B L w a, pre B → Mem W0 X B (L0 ++ L) w → Holds (enumE 0 vs) n a → CW P c (Post P fn fun u w' => ∃ L' B', Heap.le B B' ∧ R u L' B' ∧ Mem W0 X B' (L' ++ L) w') a w) : FunF P f vs L0 pre R := by
  refine ⟨fun W0 X B L w hp hm => ?_⟩
  refine (enter (R := fun u w' => ∃ L' B', Heap.le B B' ∧ R u L' B' ∧ Mem W0 X B' (L' ++ L) w') hf hb hn hl (fun a ha => h W0 X B L w a hp hm ha)).mono ?_
  rintro e w' ⟨u, rfl, L', B', hB, hR, hm⟩
  exact ⟨u, L', B', rfl, hB, hR, hm⟩
end
end Go.Proofs.YtcbnegmmjflmcaaGreat.St
end

section
/-
  The tokens of a source: a new row that is only read from then on.
-/
set_option linter.unusedSimpArgs false
set_option linter.unusedVariables false
namespace Go.Proofs.YtcbnegmmjflmcaaGreat.St
open Go.RowKit
structure PTok where
  k : Int
  t : ByteArray
  n : Int
  o : Nat
abbrev eTk (x : PTok) : List Value := eTok x.k x.t x.n x.o
structure ToksH (B : Heap) (p : Option Addr) (ts : List PTok) : Prop where
  row : Sl B p eTk 4 ts
  few : ts.length ≤ 2001
  txt : ∀ x ∈ ts, x.t.size ≤ 2000
  last : ∃ r e, ts = r ++ [e] ∧ e.k = 0
theorem ToksH.mono {B B' : Heap} {p : Option Addr} {ts : List PTok} (h : ToksH B p ts) (hB : Heap.le B B') : ToksH B' p ts := ⟨h.row.mono hB, h.few, h.txt, h.last⟩
def tkzR (v : Value) (L' : List Own) (B : Heap) : Prop := L' = [] ∧ ((∃ k : Nat, v = .tuple #[.slice none 0 0, I k]) ∨ ∃ p c ts, v = .tuple #[.slice p ts.length c, I (-1)] ∧ ToksH B p ts)
theorem tk_row (ts : List PTok) (x : PTok) : (ts.map eTk).flatten ++ eTk x = ((ts ++ [x]).map eTk).flatten := by simp
set_option maxHeartbeats 8000000 in
theorem tokenize_ok (s : ByteArray) (hs0 : s.size ≤ 1000000) : FunF Tryz.prog 80 [.string s] [] (fun _ => True) tkzR := by
  refine enterFunF Tryz.func80 rfl Tryz.ntmps80 rfl (fun W0 X B L w a hp hm h => ?_)
  rw [List.nil_append] at hm
  by_cases hs : s.size ≤ 2000
  · repeat' (first | refine c_seq ?_ | refine c_region ?_ | refine c_nil ?_ | refine k_then ?_ | refine c_skip ?_ | refine c_block ?_ | refine c_condF h rfl ?_ | ((refine st_op rfl rfl h ?_); clear h a; (first | (show Does _ (.buildSlice _ _ _) _ _ _ _; (((refine does_buildSlice hm rfl rfl rfl ?_; clear hm; intro bz w hm; replace hm := hm.toRow 0 (n := 0) (cap := 0) 4 rfl rfl (Nat.zero_le _); simp only [List.set_cons_zero, rep, List.replicate_zero, List.flatten_nil] at hm)))) | (show Does _ (.move _) _ _ _ _; refine does_move rfl ?_) | (show Does _ (.assign _) _ _ _ _; refine does_assign rfl ?_) | (show Does _ (.binOp _ _ _ _ _) _ _ _ _; (refine does_gtrF rfl rfl (by omega) ?_)) | (show Does _ (.call _) _ _ _ _; refine does_lenStr (StrT.out) rfl ?_)); intro a h))
    refine c_loop (σ := Nat × List PTok × Option Addr × Nat) (fun q a w => (q.1 ≤ s.size ∧ q.2.1.length ≤ q.1) ∧ (∀ x ∈ q.2.1, x.t.size ≤ 2000) ∧ Mem W0 X B (.row (.slice q.2.2.1 q.2.1.length q.2.2.2) 145 4 (q.2.1.map eTk).flatten :: L) w ∧ Holds [(0, .string s), (4, .slice q.2.2.1 q.2.1.length q.2.2.2), (5, .int .i64 q.1)] 50 a) (fun q => s.size - q.1) (0, [], some ⟨bz, 0, none⟩, 0)
      ⟨⟨Nat.zero_le _, Nat.le_refl _⟩, by simp, hm, h.keep ⟨rfl, rfl, rfl, trivial⟩⟩ ?_
    clear h hm
    rintro ⟨i, ts, p, c⟩ a w ⟨⟨h1, h2⟩, h3, hm, h⟩
    simp only at h1 h2 h3 hm h
    have hfl := flat_len (enc := eTk) (sz := 4) (fun _ => rfl) ts
    by_cases hi : i < s.size
    · have hb := bt_bd s i
      by_cases hsp : bt s i = 32 ∨ bt s i = 10
      · repeat' (first | refine c_seq ?_ | refine c_region ?_ | refine c_nil ?_ | refine k_then ?_ | refine k_thenE ?_ | refine k_inE ?_ | refine c_skip ?_ | refine c_exit ?_ | refine c_block ?_ | refine c_condT h rfl ?_ | ((refine st_op rfl rfl h ?_); clear h a; (first | (show Does _ (.index _ _ _) _ _ _ _; (((refine does_strIdxN (i := i) hi rfl rfl ?_)))) | (show Does _ (.move _) _ _ _ _; refine does_move rfl ?_) | (show Does _ (.assign _) _ _ _ _; refine does_assign rfl ?_) | (show Does _ (.pick _ _ _) _ _ _ _; (first | refine does_pickT rfl rfl ?_ | refine does_pickF rfl rfl ?_)) | (show Does _ (.binOp _ _ _ _ _) _ _ _ _; (first | refine does_lssT rfl rfl (by omega) ?_ | refine does_eqlT rfl rfl (by omega) ?_ | refine does_eql rfl rfl ?_ | refine does_add rfl rfl (by omega) ?_)) | (show Does _ (.call _) _ _ _ _; refine does_lenStr (StrT.out) rfl ?_)); intro a h) | ((refine st_skip rfl rfl h ?_); clear h a; intro a h) | (refine st_guardD rfl rfl h ?_ ?_ <;> clear h <;> intro hc h))
        all_goals first
          | (exfalso; omega)
          | exact k_thenN ⟨(i + 1, ts, p, c), ⟨⟨by show i + 1 ≤ s.size; omega, by show ts.length ≤ i + 1; omega⟩, h3, hm, h.keep ⟨rfl, rfl, rfl, trivial⟩⟩, by show s.size - (i + 1) < s.size - i; omega⟩
      · repeat' (first | refine c_seq ?_ | refine c_region ?_ | refine c_nil ?_ | refine k_then ?_ | refine k_thenR ?_ | refine k_inN ?_ | refine k_inR ?_ | refine c_skip ?_ | refine c_ret ?_ | refine c_block ?_ | refine c_condT h rfl ?_ | refine c_condF h rfl ?_ | (refine st_op (d := 6) rfl rfl h ?_; refine does_alloc hm ?_; clear h a hm; intro b_6 w hm a h) | ((first | refine st_op rfl rfl h ?_ | refine st_opn rfl h ?_); clear h a; (first | (show Does _ (.index _ _ _) _ _ _ _; (((refine does_strIdxN (i := i) hi rfl rfl ?_)))) | (show Does _ (.call _) _ _ _ _; (first | ((refine does_funVal hm en96 rfl (l12Scan_ok s i hs hi) trivial ?_; clear hm; rintro v w ⟨k, t, n, o, e, z, rfl, hz⟩ hm)) | ((refine does_appX 2 (n := ts.length) (news := eTok k t n o) hm rfl rfl rfl (by omega) hfl rfl (.inr ⟨_, rfl, at_own (i := 0) hm rfl (fun j v hv => (by rw [Nat.zero_add]; exact hv))⟩) (oneCells_mem rfl) (by omega) (by simp only [maxLen]; omega) ?_; clear hm; intro p8 c8 w hc8 hc9 hm; simp only [List.set_cons_zero, List.set_cons_succ] at hm)) | refine does_lenStr (StrT.out) rfl ?_)) | (show Does _ (.buildSlice _ _ _) _ _ _ _; (refine does_buildSlice hm rfl rfl rfl ?_; clear hm; intro b w hm; (simp only [rep, nqr, Value.cells, splice, nqq, Nat.reduceAdd, Nat.reduceMul, Int.reduceAdd, Int.reduceToNat] at hm))) | (show Does _ (.store _ _ _) _ _ _ _; ((refine does_storeO 0 hm rfl rfl rfl rfl rfl rfl rfl ?_; clear hm; intro w hm; (simp only [Value.cells, splice, nqq, Nat.reduceAdd, Nat.reduceMul, Int.reduceAdd, Int.reduceToNat] at hm)))) | (show Does _ (.move _) _ _ _ _; refine does_move rfl ?_) | (show Does _ (.assign _) _ _ _ _; refine does_assign rfl ?_) | (show Does _ (.pick _ _ _) _ _ _ _; (refine does_pickF rfl rfl ?_)) | (show Does _ (.load _ _) _ _ _ _; (refine does_loadOA 0 hm rfl rfl rfl ?_)) | (show Does _ (.binOp _ _ _ _ _) _ _ _ _; (first | refine does_lssT rfl rfl (by omega) ?_ | refine does_eqlF rfl rfl (by omega) ?_)) | (show Does _ (.unOp _ _ _) _ _ _ _; (refine does_not rfl ?_)) | (show Does _ (.extract _ _) _ _ _ _; refine does_extract rfl rfl ?_)); intro a h; (first | simp only [Value.cells, splice, nqq, Nat.reduceAdd, Nat.reduceMul, Int.reduceAdd, Int.reduceToNat, Int.reduceTMod] at h | skip)) | ((refine c_cond h rfl ?_ ?_) <;> intro hc <;> (skip)))
        · exact k_ret (vs := [_, _]) rfl h ⟨rfl, rfl, trivial⟩ ⟨[], B, Heap.le_refl _, ⟨rfl, .inl ⟨i, rfl⟩⟩, hm.drop.drop⟩
        obtain ⟨z1, z2, z3⟩ := hz (by simpa using hc)
        rw [show eTok k t n o = eTk ⟨k, t, n, o⟩ from rfl, tk_row] at hm
        exact k_thenN ⟨(e, ts ++ [⟨k, t, n, o⟩], p8, c8), ⟨⟨z2, by simp only [List.length_append, List.length_singleton]; omega⟩, fun x hx => by
          rcases List.mem_append.1 hx with hx | hx
          · exact h3 x hx
          · simp only [List.mem_singleton] at hx
            subst hx
            exact z3, by rw [List.length_append, List.length_singleton]; exact hm.drop.drop, h.keep ⟨rfl, by rw [List.length_append, List.length_singleton]; rfl, rfl, trivial⟩⟩, by show s.size - e < s.size - i; omega⟩
    · repeat' (first | refine c_seq ?_ | refine c_region ?_ | refine c_nil ?_ | refine k_then ?_ | refine k_thenE ?_ | refine k_inE ?_ | refine c_ret ?_ | refine c_exit ?_ | refine c_condF h rfl ?_ | ((refine st_op rfl rfl h ?_); clear h a; (first | (show Does _ (.call _) _ _ _ _; (first | ((refine does_appX 1 (n := ts.length) (news := eTok 0 ⟨#[]⟩ 0 s.size) hm rfl rfl rfl (by omega) hfl rfl (.inr ⟨_, rfl, at_own (i := 0) hm rfl (fun j v hv => (by rw [Nat.zero_add]; exact hv))⟩) (oneCells_mem rfl) (by omega) (by simp only [maxLen]; omega) ?_; clear hm; intro p8 c8 w hc8 hc9 hm; simp only [List.set_cons_zero, List.set_cons_succ] at hm)) | refine does_lenStr (StrT.out) rfl ?_)) | (show Does _ (.buildSlice _ _ _) _ _ _ _; (refine does_buildSlice hm rfl rfl rfl ?_; clear hm; intro b w hm; (simp only [rep, nqr, Value.cells, splice, nqq, Nat.reduceAdd, Nat.reduceMul, Int.reduceAdd, Int.reduceToNat] at hm))) | (show Does _ (.move _) _ _ _ _; refine does_move rfl ?_) | (show Does _ (.assign _) _ _ _ _; refine does_assign rfl ?_) | (show Does _ (.binOp _ _ _ _ _) _ _ _ _; (refine does_lssF rfl rfl (by omega) ?_)) | (show Does _ (.build _ _) _ _ _ _; refine does_build rfl rfl ?_)); intro a h; (first | simp only [Value.cells, splice, nqq, Nat.reduceAdd, Nat.reduceMul, Int.reduceAdd, Int.reduceToNat, Int.reduceTMod] at h | skip)))
      rw [show eTok 0 ⟨#[]⟩ 0 s.size = eTk ⟨0, ⟨#[]⟩, 0, s.size⟩ from rfl, tk_row] at hm
      obtain ⟨B', p9, c9, hB, hm2, e9, hcc9, hcm9, hs9⟩ := hm.drop.frozen (fun _ => rfl) (by omega)
      have hl9 : (ts ++ [(⟨0, ⟨#[]⟩, 0, s.size⟩ : PTok)]).length = ts.length + 1 := by simp
      rw [e9] at h
      exact k_ret (vs := [_, _]) rfl h ⟨rfl, rfl, trivial⟩ ⟨[], B', hB, ⟨rfl, .inr ⟨p9, c9, _, rfl, hs9, by omega, fun x hx => by
        rcases List.mem_append.1 hx with hx | hx
        · exact h3 x hx
        · simp only [List.mem_singleton] at hx
          subst hx
          exact Nat.zero_le _, _, _, rfl, rfl⟩⟩, hm2⟩
  · repeat' (first | refine c_seq ?_ | refine c_region ?_ | refine c_nil ?_ | refine k_then ?_ | refine k_thenR ?_ | refine c_ret ?_ | refine c_condT h rfl ?_ | ((refine st_op rfl rfl h ?_); clear h a; (first | (show Does _ (.move _) _ _ _ _; refine does_move rfl ?_) | (show Does _ (.assign _) _ _ _ _; refine does_assign rfl ?_) | (show Does _ (.binOp _ _ _ _ _) _ _ _ _; (refine does_gtrT rfl rfl (by omega) ?_)) | (show Does _ (.call _) _ _ _ _; refine does_lenStr (StrT.out) rfl ?_)); intro a h))
    exact k_ret (vs := [_, _]) rfl h ⟨rfl, rfl, trivial⟩ ⟨[], B, Heap.le_refl _, ⟨rfl, .inl ⟨0, rfl⟩⟩, hm⟩
end Go.Proofs.YtcbnegmmjflmcaaGreat.St
end
