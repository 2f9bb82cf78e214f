/-
  Reading a number: the reference's.
-/
import Derived.Test.YthilfmmoeigeoaaDoorPPrs
import Derived.Test.YthilfmmoeigeoaaDoorLFmi
import Derived.Test.YthilfmmoeigeoaaDoorLFan
import Derived.Test.YthilfmmoeigeoaaDoorStEqq
import Derived.Test.YthilfmmoeigeoaaDoorStTxt
import Derived.Test.YthilfmmoeigeoaaDoorStCur
set_option linter.unusedSimpArgs false
set_option linter.unusedVariables false
namespace Go.Proofs.YthilfmmoeigeoaaDoor.St
open Go.RowKit
theorem does_convUI {P : Program} {w : World} {E : Env} {Φ : Value → World → Prop} {ty t t' : TypeId} {x : Operand} {m : Int} (hu : P.underlying t = some (.int .u8)) (hu' : P.underlying t' = some (.int .i64)) (hx : ev E x = some (.int .u8 m)) (hb : 0 ≤ m ∧ m ≤ 255) (k : Φ (.int .i64 m) w) : Does P (.convert t t' x) ty E w Φ := by
  refine ⟨fun ρ hρ => ?_⟩
  have hw : IntKind.i64.wrap m = m := by simp [IntKind.wrap, IntKind.signed, IntKind.bits]; omega
  have : (execOp ρ (mk (.convert t t' x) ty)).run P w = .ok (.value (.int .i64 m)) w := by
    simp only [execOp, mk, hρ _ _ hx, convert, Sem.run_bind, run_underlying hu, run_underlying hu', Result.andThen_ok]
    simp [Conv.intToInt, hw]
  rw [this]; exact k
theorem bt_list {s : ByteArray} {i : Nat} (h : i < s.size) : ∃ c, s.data.toList[i]? = some c ∧ bt s i = (c.toNat : Int) := by
  have h' : i < s.data.size := h
  refine ⟨s.data[i], by simp [h'], ?_⟩
  unfold bt ByteArray.get!
  simp only [getElem!_pos s.data i h']
def prP (s : ByteArray) (v : Value) : Prop := (v = .tuple #[I 0, .bool false] ∧ ∀ n, ¬ isTx s n) ∨ ∃ n, v = .tuple #[I n, .bool true] ∧ isTx s n
theorem not_tx {s : ByteArray} {k : Nat} (hk : k < s.size) (h0 : ¬ (k = 0 ∧ bt s 0 = 45)) (h : ¬ ((48 ≤ bt s k ∧ bt s k ≤ 57) ∧ s.size ≤ 12)) (n : Int) : ¬ isTx s n := fun ht => by
  obtain ⟨c, h1, h2⟩ := bt_list hk
  have h3 := isTx_list ht
  have h4 := isTx_size ht
  rw [h3] at h1
  have := itoa_digit h1 fun ⟨e1, e2⟩ => h0 ⟨e1, by
    subst e1
    obtain ⟨c', g1, g2⟩ := bt_list hk
    rw [h3] at g1
    unfold negT at e2
    rw [e2] at g1
    cases g1
    exact g2⟩
  omega
theorem read_bd {l : List UInt8} {e k n : Nat} (hk : k ≤ l.length) (hl : l.length = n) (hd : ∀ c ∈ (l.take k).drop e, 48 ≤ c.toNat ∧ c.toNat ≤ 57) (h : e < k → n ≤ 12) : dval ((l.take k).drop e) < 1000000000000 := by
  by_cases hek : e < k
  · have h1 := dval_lt _ hd
    refine Nat.lt_of_lt_of_le h1 ?_
    rw [List.length_drop, List.length_take, Nat.min_eq_left hk]
    have h2 := h hek
    exact Nat.le_trans (Nat.pow_le_pow_right (by omega) (show k - e ≤ 12 by omega)) (by omega)
  · rw [List.drop_eq_nil_of_le (by rw [List.length_take]; omega)]
    simp [dval]
theorem neg_list {s : ByteArray} (h0 : 0 < s.size) : negT s.data.toList ↔ bt s 0 = 45 := by
  obtain ⟨c, h1, h2⟩ := bt_list h0
  unfold negT
  rw [h1, h2]
  constructor
  · intro e
    cases e
    rfl
  · intro e
    have : c = 45 := UInt8.toNat_inj.1 (by have h45 : (45 : UInt8).toNat = 45 := rfl; omega)
    rw [this]
theorem nTx_no {s : ByteArray} {n : Int} (hn : readT s.data.toList = n) (h : ¬ nTx n = s) (m : Int) : ¬ isTx s m := fun ht => by
  have := isTx_read ht
  rw [hn] at this
  subst this
  exact h ((if_pos ht.1).trans ht.2)
theorem nTx_yes {s : ByteArray} {n : Int} (hs : ¬ s = ⟨#[]⟩) (h : nTx n = s) : isTx s n := by
  unfold nTx at h
  split at h
  · rename_i hn
    exact ⟨hn, h⟩
  · exact absurd h.symm hs
set_option maxHeartbeats 8000000 in
theorem sParse_true (s : ByteArray) (hs : s.size ≤ 1048576) (h0 : 0 < s.size) (hneg : bt s 0 = 45) : FunV Tryd.prog 40 [.string s] (fun _ => True) (prP s) := by
  refine enterFunV Tryd.func40 rfl Tryd.ntmps40 rfl (fun W0 w a hp hm h => ?_)
  have hb0 := bt_bd s 0
  repeat' (first | refine c_seq ?_ | refine c_region ?_ | refine c_nil ?_ | refine k_then ?_ | refine k_thenL ?_ | refine k_thenR ?_ | refine k_thenE ?_ | refine k_inN ?_ | refine k_inR ?_ | refine k_inE ?_ | refine k_inO rfl ?_ | refine c_skip ?_ | refine c_ret ?_ | refine c_exit ?_ | refine c_block ?_ | refine r_succ ?_ | refine c_condT h rfl ?_ | refine c_condF h rfl ?_ | ((first | refine st_op rfl rfl h ?_ | refine st_opn rfl h ?_); clear h a; (first | (show Does _ (.index _ _ _) _ _ _ _; (first | ((refine does_strIdxN (i := 0) h0 rfl rfl ?_)) | refine does_indexVA (by omega) rfl rfl ?_ | refine does_indexV1 (by omega) rfl rfl rfl ?_)) | (show Does _ (.move _) _ _ _ _; refine does_move rfl ?_) | (show Does _ (.assign _) _ _ _ _; refine does_assign rfl ?_) | (show Does _ (.pick _ _ _) _ _ _ _; (first | refine does_pickT rfl rfl ?_ | refine does_pickF rfl rfl ?_)) | (show Does _ (.binOp _ _ _ _ _) _ _ _ _; (first | refine does_lssT rfl rfl (by omega) ?_ | refine does_lssF rfl rfl (by omega) ?_ | refine does_lss rfl rfl ?_ | refine does_gtrT rfl rfl (by omega) ?_ | refine does_gtrF rfl rfl (by omega) ?_ | refine does_gtr rfl rfl ?_ | refine does_eqlT rfl rfl (by omega) ?_ | refine does_eqlF rfl rfl (by omega) ?_ | refine does_eql rfl rfl ?_ | refine does_neqStrS rfl rfl ?_ | refine does_neqStr rfl rfl ?_ | refine does_eqlStrS rfl rfl ?_ | refine does_eqlStr rfl rfl ?_ | refine does_mul rfl rfl (mul_in (by omega) (by omega)) ?_ | refine does_add rfl rfl (by omega) ?_ | refine does_sub rfl rfl (by omega) ?_ | refine does_mul rfl rfl (by omega) ?_)) | (show Does _ (.unOp _ _ _) _ _ _ _; refine does_neg rfl (by omega) ?_) | (show Does _ (.call _) _ _ _ _; refine does_lenStr (StrT.out) rfl ?_)); intro a h; (try simp only [Value.cells, List.toList_toArray, splice, List.set_cons_zero, List.set_cons_succ, List.drop_zero, List.drop_succ_cons, List.take_succ_cons, List.take_zero, Nat.zero_add, Nat.reduceAdd, Nat.reduceMul, Int.reduceAdd, Int.reduceToNat, Int.reduceTMod, Nat.zero_mul, Nat.one_mul, Int.toNat_natCast] at h)) | ((first | refine st_skip rfl rfl h ?_ | refine st_skipn rfl h ?_); clear h a; intro a h) | ((first | refine c_condD h rfl ?_ ?_ | refine c_cond h rfl ?_ ?_) <;> intro hc <;> (try (first | exact absurd trivial hc | exact absurd rfl hc))) | (refine st_guardD rfl rfl h ?_ ?_ <;> clear h <;> intro hc h))
  refine c_loop (σ := Nat) (fun k a w => k ≤ s.size ∧ (∀ c ∈ (s.data.toList.take k).drop 1, 48 ≤ c.toNat ∧ c.toNat ≤ 57) ∧ (1 < k → s.size ≤ 12) ∧ Mem W0 [] (fun b => W0.heap[b]?) [] w ∧ Holds [(0, .string s), (4, I (dval ((s.data.toList.take k).drop 1) : Nat)), (5, .bool true), (6, .int .i64 k)] _ a) (fun k => s.size - k) 0
    ⟨Nat.zero_le _, by simp, fun e => absurd e (by omega), hm, h.keep ⟨rfl, rfl, rfl, rfl, trivial⟩⟩ ?_
  clear h hm
  rintro k a w ⟨hk, hdg, h12, hm, h⟩
  have hLn : s.data.toList.length = s.size := Array.length_toList ..
  have hN := read_bd (by rw [hLn]; exact hk) hLn hdg h12
  have hne : ¬ s = ⟨#[]⟩ := fun e => by rw [e] at h0; exact absurd h0 (Nat.lt_irrefl 0)
  by_cases hlt : k < s.size
  · obtain ⟨c, hc1, hc2⟩ := bt_list hlt
    have hbk := bt_bd s k
    have htk : s.data.toList.take (k + 1) = s.data.toList.take k ++ [c] := by rw [List.take_add_one, hc1]; rfl
    have hkl : (s.data.toList.take k).length = k := by rw [List.length_take]; omega
    by_cases hz : k + 1 = 1
    · repeat' (first | refine c_seq ?_ | refine c_region ?_ | refine c_nil ?_ | refine k_then ?_ | refine k_thenL ?_ | refine k_thenR ?_ | refine k_thenE ?_ | refine k_inN ?_ | refine k_inR ?_ | refine k_inE ?_ | refine k_inO rfl ?_ | refine c_skip ?_ | refine c_ret ?_ | refine c_exit ?_ | refine c_block ?_ | refine r_succ ?_ | refine c_condT h rfl ?_ | refine c_condF h rfl ?_ | ((first | refine st_op rfl rfl h ?_ | refine st_opn rfl h ?_); clear h a; (first | (show Does _ (.index _ _ _) _ _ _ _; (first | ((refine does_strIdxN (i := k) hlt rfl rfl ?_)) | refine does_indexVA (by omega) rfl rfl ?_ | refine does_indexV1 (by omega) rfl rfl rfl ?_)) | (show Does _ (.convert _ _ _) _ _ _ _; ((refine does_convUI Tryd.underlying5 Tryd.underlying3 rfl (by omega) ?_))) | (show Does _ (.move _) _ _ _ _; refine does_move rfl ?_) | (show Does _ (.assign _) _ _ _ _; refine does_assign rfl ?_) | (show Does _ (.pick _ _ _) _ _ _ _; (first | refine does_pickT rfl rfl ?_ | refine does_pickF rfl rfl ?_)) | (show Does _ (.binOp _ _ _ _ _) _ _ _ _; (first | refine does_lssT rfl rfl (by omega) ?_ | refine does_lssF rfl rfl (by omega) ?_ | refine does_lss rfl rfl ?_ | refine does_gtrT rfl rfl (by omega) ?_ | refine does_gtrF rfl rfl (by omega) ?_ | refine does_gtr rfl rfl ?_ | refine does_eqlT rfl rfl (by omega) ?_ | refine does_eqlF rfl rfl (by omega) ?_ | refine does_eql rfl rfl ?_ | refine does_neqStrS rfl rfl ?_ | refine does_neqStr rfl rfl ?_ | refine does_eqlStrS rfl rfl ?_ | refine does_eqlStr rfl rfl ?_ | refine does_mul rfl rfl (mul_in (by omega) (by omega)) ?_ | refine does_add rfl rfl (by omega) ?_ | refine does_sub rfl rfl (by omega) ?_ | refine does_mul rfl rfl (by omega) ?_)) | (show Does _ (.unOp _ _ _) _ _ _ _; refine does_neg rfl (by omega) ?_) | (show Does _ (.call _) _ _ _ _; refine does_lenStr (StrT.out) rfl ?_)); intro a h; (try simp only [Value.cells, List.toList_toArray, splice, List.set_cons_zero, List.set_cons_succ, List.drop_zero, List.drop_succ_cons, List.take_succ_cons, List.take_zero, Nat.zero_add, Nat.reduceAdd, Nat.reduceMul, Int.reduceAdd, Int.reduceToNat, Int.reduceTMod, Nat.zero_mul, Nat.one_mul, Int.toNat_natCast] at h)) | ((first | refine st_skip rfl rfl h ?_ | refine st_skipn rfl h ?_); clear h a; intro a h) | ((first | refine c_condD h rfl ?_ ?_ | refine c_cond h rfl ?_ ?_) <;> intro hc <;> (try (first | exact absurd trivial hc | exact absurd rfl hc))) | (refine st_guardD rfl rfl h ?_ ?_ <;> clear h <;> intro hc h))
      have e1 : (s.data.toList.take (k + 1)).drop 1 = [] := List.drop_eq_nil_of_le (by rw [List.length_take]; omega)
      have e2 : (s.data.toList.take k).drop 1 = [] := List.drop_eq_nil_of_le (by rw [List.length_take]; omega)
      rw [e2] at h
      exact k_thenN ⟨k + 1, ⟨hlt, by rw [e1]; simp, fun e => absurd e (by omega), hm, by rw [e1]; exact h.keep ⟨rfl, rfl, rfl, rfl, trivial⟩⟩, by omega⟩
    · have hap : (s.data.toList.take (k + 1)).drop 1 = (s.data.toList.take k).drop 1 ++ [c] := by rw [htk, List.drop_append_of_le_length (by omega)]
      have hk0 : ¬ (k = 0 ∧ bt s 0 = 45) := fun ⟨e1, e2⟩ => by first | omega | exact hneg e2
      by_cases hd : (48 ≤ bt s k ∧ bt s k ≤ 57) ∧ s.size ≤ 12
      · repeat' (first | refine c_seq ?_ | refine c_region ?_ | refine c_nil ?_ | refine k_then ?_ | refine k_thenL ?_ | refine k_thenR ?_ | refine k_thenE ?_ | refine k_inN ?_ | refine k_inR ?_ | refine k_inE ?_ | refine k_inO rfl ?_ | refine c_skip ?_ | refine c_ret ?_ | refine c_exit ?_ | refine c_block ?_ | refine r_succ ?_ | refine c_condT h rfl ?_ | refine c_condF h rfl ?_ | ((first | refine st_op rfl rfl h ?_ | refine st_opn rfl h ?_); clear h a; (first | (show Does _ (.index _ _ _) _ _ _ _; (first | ((refine does_strIdxN (i := k) hlt rfl rfl ?_)) | refine does_indexVA (by omega) rfl rfl ?_ | refine does_indexV1 (by omega) rfl rfl rfl ?_)) | (show Does _ (.convert _ _ _) _ _ _ _; ((refine does_convUI Tryd.underlying5 Tryd.underlying3 rfl (by omega) ?_))) | (show Does _ (.move _) _ _ _ _; refine does_move rfl ?_) | (show Does _ (.assign _) _ _ _ _; refine does_assign rfl ?_) | (show Does _ (.pick _ _ _) _ _ _ _; (first | refine does_pickT rfl rfl ?_ | refine does_pickF rfl rfl ?_)) | (show Does _ (.binOp _ _ _ _ _) _ _ _ _; (first | refine does_lssT rfl rfl (by omega) ?_ | refine does_lssF rfl rfl (by omega) ?_ | refine does_lss rfl rfl ?_ | refine does_gtrT rfl rfl (by omega) ?_ | refine does_gtrF rfl rfl (by omega) ?_ | refine does_gtr rfl rfl ?_ | refine does_eqlT rfl rfl (by omega) ?_ | refine does_eqlF rfl rfl (by omega) ?_ | refine does_eql rfl rfl ?_ | refine does_neqStrS rfl rfl ?_ | refine does_neqStr rfl rfl ?_ | refine does_eqlStrS rfl rfl ?_ | refine does_eqlStr rfl rfl ?_ | refine does_mul rfl rfl (mul_in (by omega) (by omega)) ?_ | refine does_add rfl rfl (by omega) ?_ | refine does_sub rfl rfl (by omega) ?_ | refine does_mul rfl rfl (by omega) ?_)) | (show Does _ (.unOp _ _ _) _ _ _ _; refine does_neg rfl (by omega) ?_) | (show Does _ (.call _) _ _ _ _; refine does_lenStr (StrT.out) rfl ?_)); intro a h; (try simp only [Value.cells, List.toList_toArray, splice, List.set_cons_zero, List.set_cons_succ, List.drop_zero, List.drop_succ_cons, List.take_succ_cons, List.take_zero, Nat.zero_add, Nat.reduceAdd, Nat.reduceMul, Int.reduceAdd, Int.reduceToNat, Int.reduceTMod, Nat.zero_mul, Nat.one_mul, Int.toNat_natCast] at h)) | ((first | refine st_skip rfl rfl h ?_ | refine st_skipn rfl h ?_); clear h a; intro a h) | ((first | refine c_condD h rfl ?_ ?_ | refine c_cond h rfl ?_ ?_) <;> intro hc <;> (try (first | exact absurd trivial hc | exact absurd rfl hc))) | (refine st_guardD rfl rfl h ?_ ?_ <;> clear h <;> intro hc h))
        refine k_thenN ⟨k + 1, ⟨hlt, fun x hx => ?_, fun _ => hd.2, hm, h.keep ⟨rfl, ?_, rfl, rfl, trivial⟩⟩, by omega⟩
        · rw [hap] at hx
          rcases List.mem_append.1 hx with hx | hx
          · exact hdg x hx
          · obtain rfl := List.mem_singleton.1 hx
            omega
        · rw [hap, dval_snoc]
          show some (I _) = some (I _)
          congr 2
          omega
      · have hnt := not_tx hlt hk0 hd
        by_cases h1 : bt s k < 48 <;> by_cases h2 : 57 < bt s k <;> by_cases h3 : 12 < s.size
        all_goals first | (exfalso; omega) | skip
        all_goals
          repeat' (first | refine c_seq ?_ | refine c_region ?_ | refine c_nil ?_ | refine k_then ?_ | refine k_thenL ?_ | refine k_thenR ?_ | refine k_thenE ?_ | refine k_inN ?_ | refine k_inR ?_ | refine k_inE ?_ | refine k_inO rfl ?_ | refine c_skip ?_ | refine c_ret ?_ | refine c_exit ?_ | refine c_block ?_ | refine r_succ ?_ | refine c_condT h rfl ?_ | refine c_condF h rfl ?_ | ((first | refine st_op rfl rfl h ?_ | refine st_opn rfl h ?_); clear h a; (first | (show Does _ (.index _ _ _) _ _ _ _; (first | ((refine does_strIdxN (i := k) hlt rfl rfl ?_)) | refine does_indexVA (by omega) rfl rfl ?_ | refine does_indexV1 (by omega) rfl rfl rfl ?_)) | (show Does _ (.convert _ _ _) _ _ _ _; ((refine does_convUI Tryd.underlying5 Tryd.underlying3 rfl (by omega) ?_))) | (show Does _ (.move _) _ _ _ _; refine does_move rfl ?_) | (show Does _ (.assign _) _ _ _ _; refine does_assign rfl ?_) | (show Does _ (.pick _ _ _) _ _ _ _; (first | refine does_pickT rfl rfl ?_ | refine does_pickF rfl rfl ?_)) | (show Does _ (.binOp _ _ _ _ _) _ _ _ _; (first | refine does_lssT rfl rfl (by omega) ?_ | refine does_lssF rfl rfl (by omega) ?_ | refine does_lss rfl rfl ?_ | refine does_gtrT rfl rfl (by omega) ?_ | refine does_gtrF rfl rfl (by omega) ?_ | refine does_gtr rfl rfl ?_ | refine does_eqlT rfl rfl (by omega) ?_ | refine does_eqlF rfl rfl (by omega) ?_ | refine does_eql rfl rfl ?_ | refine does_neqStrS rfl rfl ?_ | refine does_neqStr rfl rfl ?_ | refine does_eqlStrS rfl rfl ?_ | refine does_eqlStr rfl rfl ?_ | refine does_mul rfl rfl (mul_in (by omega) (by omega)) ?_ | refine does_add rfl rfl (by omega) ?_ | refine does_sub rfl rfl (by omega) ?_ | refine does_mul rfl rfl (by omega) ?_)) | (show Does _ (.unOp _ _ _) _ _ _ _; refine does_neg rfl (by omega) ?_) | (show Does _ (.call _) _ _ _ _; refine does_lenStr (StrT.out) rfl ?_)); intro a h; (try simp only [Value.cells, List.toList_toArray, splice, List.set_cons_zero, List.set_cons_succ, List.drop_zero, List.drop_succ_cons, List.take_succ_cons, List.take_zero, Nat.zero_add, Nat.reduceAdd, Nat.reduceMul, Int.reduceAdd, Int.reduceToNat, Int.reduceTMod, Nat.zero_mul, Nat.one_mul, Int.toNat_natCast] at h)) | ((first | refine st_skip rfl rfl h ?_ | refine st_skipn rfl h ?_); clear h a; intro a h) | ((first | refine c_condD h rfl ?_ ?_ | refine c_cond h rfl ?_ ?_) <;> intro hc <;> (try (first | exact absurd trivial hc | exact absurd rfl hc))) | (refine st_guardD rfl rfl h ?_ ?_ <;> clear h <;> intro hc h))
          all_goals exact k_ret (vs := [_, _]) rfl h ⟨rfl, rfl, trivial⟩ ⟨.inl ⟨rfl, hnt⟩, hm.below⟩
  · obtain rfl : k = s.size := by omega
    rw [List.take_of_length_le (by omega)] at h hN
    have hread : readT s.data.toList = -((dval (s.data.toList.drop 1) : Nat) : Int) := by
      unfold readT
      first | rw [if_pos ((neg_list h0).2 hneg)] | rw [if_neg fun e => hneg ((neg_list h0).1 e)]
      try rfl
    repeat' (first | refine c_seq ?_ | refine c_region ?_ | refine c_nil ?_ | refine k_then ?_ | refine k_thenL ?_ | refine k_thenR ?_ | refine k_thenE ?_ | refine k_inN ?_ | refine k_inR ?_ | refine k_inE ?_ | refine k_inO rfl ?_ | refine c_skip ?_ | refine c_ret ?_ | refine c_exit ?_ | refine c_block ?_ | refine r_succ ?_ | refine c_condT h rfl ?_ | refine c_condF h rfl ?_ | ((first | refine st_op rfl rfl h ?_ | refine st_opn rfl h ?_); clear h a; (first | (show Does _ (.call _) _ _ _ _; (first | ((refine does_funM hm en22 rfl (sFormatInt_any _) ?_; clear hm; intro w hm)) | refine does_lenStr (StrT.out) rfl ?_)) | (show Does _ (.binOp _ _ _ _ _) _ _ _ _; (first | ((refine does_eqlStrF rfl rfl hne ?_)) | refine does_lssT rfl rfl (by omega) ?_ | refine does_lssF rfl rfl (by omega) ?_ | refine does_lss rfl rfl ?_ | refine does_gtrT rfl rfl (by omega) ?_ | refine does_gtrF rfl rfl (by omega) ?_ | refine does_gtr rfl rfl ?_ | refine does_eqlT rfl rfl (by omega) ?_ | refine does_eqlF rfl rfl (by omega) ?_ | refine does_eql rfl rfl ?_ | refine does_neqStrS rfl rfl ?_ | refine does_neqStr rfl rfl ?_ | refine does_eqlStrS rfl rfl ?_ | refine does_eqlStr rfl rfl ?_ | refine does_mul rfl rfl (mul_in (by omega) (by omega)) ?_ | refine does_add rfl rfl (by omega) ?_ | refine does_sub rfl rfl (by omega) ?_ | refine does_mul rfl rfl (by omega) ?_)) | (show Does _ (.move _) _ _ _ _; refine does_move rfl ?_) | (show Does _ (.assign _) _ _ _ _; refine does_assign rfl ?_) | (show Does _ (.pick _ _ _) _ _ _ _; (first | refine does_pickT rfl rfl ?_ | refine does_pickF rfl rfl ?_)) | (show Does _ (.unOp _ _ _) _ _ _ _; refine does_neg rfl (by omega) ?_) | (show Does _ (.index _ _ _) _ _ _ _; (first | refine does_indexVA (by omega) rfl rfl ?_ | refine does_indexV1 (by omega) rfl rfl rfl ?_))); intro a h; (try simp only [Value.cells, List.toList_toArray, splice, List.set_cons_zero, List.set_cons_succ, List.drop_zero, List.drop_succ_cons, List.take_succ_cons, List.take_zero, Nat.zero_add, Nat.reduceAdd, Nat.reduceMul, Int.reduceAdd, Int.reduceToNat, Int.reduceTMod, Nat.zero_mul, Nat.one_mul, Int.toNat_natCast] at h)) | ((first | refine st_skip rfl rfl h ?_ | refine st_skipn rfl h ?_); clear h a; intro a h) | ((first | refine c_condD h rfl ?_ ?_ | refine c_cond h rfl ?_ ?_) <;> intro hc <;> (try (first | exact absurd trivial hc | exact absurd rfl hc))) | (refine st_guardD rfl rfl h ?_ ?_ <;> clear h <;> intro hc h))
    all_goals first | exact absurd hc hne | exact k_ret (vs := [_, _]) rfl h ⟨rfl, rfl, trivial⟩ ⟨.inl ⟨rfl, nTx_no hread hc⟩, hm.below⟩ | exact k_ret (vs := [_, _]) rfl h ⟨rfl, rfl, trivial⟩ ⟨.inr ⟨_, rfl, nTx_yes hne (Classical.not_not.1 hc)⟩, hm.below⟩
set_option maxHeartbeats 8000000 in
theorem sParse_false (s : ByteArray) (hs : s.size ≤ 1048576) (h0 : 0 < s.size) (hneg : ¬ bt s 0 = 45) : FunV Tryd.prog 40 [.string s] (fun _ => True) (prP s) := by
  refine enterFunV Tryd.func40 rfl Tryd.ntmps40 rfl (fun W0 w a hp hm h => ?_)
  have hb0 := bt_bd s 0
  repeat' (first | refine c_seq ?_ | refine c_region ?_ | refine c_nil ?_ | refine k_then ?_ | refine k_thenL ?_ | refine k_thenR ?_ | refine k_thenE ?_ | refine k_inN ?_ | refine k_inR ?_ | refine k_inE ?_ | refine k_inO rfl ?_ | refine c_skip ?_ | refine c_ret ?_ | refine c_exit ?_ | refine c_block ?_ | refine r_succ ?_ | refine c_condT h rfl ?_ | refine c_condF h rfl ?_ | ((first | refine st_op rfl rfl h ?_ | refine st_opn rfl h ?_); clear h a; (first | (show Does _ (.index _ _ _) _ _ _ _; (first | ((refine does_strIdxN (i := 0) h0 rfl rfl ?_)) | refine does_indexVA (by omega) rfl rfl ?_ | refine does_indexV1 (by omega) rfl rfl rfl ?_)) | (show Does _ (.move _) _ _ _ _; refine does_move rfl ?_) | (show Does _ (.assign _) _ _ _ _; refine does_assign rfl ?_) | (show Does _ (.pick _ _ _) _ _ _ _; (first | refine does_pickT rfl rfl ?_ | refine does_pickF rfl rfl ?_)) | (show Does _ (.binOp _ _ _ _ _) _ _ _ _; (first | refine does_lssT rfl rfl (by omega) ?_ | refine does_lssF rfl rfl (by omega) ?_ | refine does_lss rfl rfl ?_ | refine does_gtrT rfl rfl (by omega) ?_ | refine does_gtrF rfl rfl (by omega) ?_ | refine does_gtr rfl rfl ?_ | refine does_eqlT rfl rfl (by omega) ?_ | refine does_eqlF rfl rfl (by omega) ?_ | refine does_eql rfl rfl ?_ | refine does_neqStrS rfl rfl ?_ | refine does_neqStr rfl rfl ?_ | refine does_eqlStrS rfl rfl ?_ | refine does_eqlStr rfl rfl ?_ | refine does_mul rfl rfl (mul_in (by omega) (by omega)) ?_ | refine does_add rfl rfl (by omega) ?_ | refine does_sub rfl rfl (by omega) ?_ | refine does_mul rfl rfl (by omega) ?_)) | (show Does _ (.unOp _ _ _) _ _ _ _; refine does_neg rfl (by omega) ?_) | (show Does _ (.call _) _ _ _ _; refine does_lenStr (StrT.out) rfl ?_)); intro a h; (try simp only [Value.cells, List.toList_toArray, splice, List.set_cons_zero, List.set_cons_succ, List.drop_zero, List.drop_succ_cons, List.take_succ_cons, List.take_zero, Nat.zero_add, Nat.reduceAdd, Nat.reduceMul, Int.reduceAdd, Int.reduceToNat, Int.reduceTMod, Nat.zero_mul, Nat.one_mul, Int.toNat_natCast] at h)) | ((first | refine st_skip rfl rfl h ?_ | refine st_skipn rfl h ?_); clear h a; intro a h) | ((first | refine c_condD h rfl ?_ ?_ | refine c_cond h rfl ?_ ?_) <;> intro hc <;> (try (first | exact absurd trivial hc | exact absurd rfl hc))) | (refine st_guardD rfl rfl h ?_ ?_ <;> clear h <;> intro hc h))
  refine c_loop (σ := Nat) (fun k a w => k ≤ s.size ∧ (∀ c ∈ (s.data.toList.take k), 48 ≤ c.toNat ∧ c.toNat ≤ 57) ∧ (0 < k → s.size ≤ 12) ∧ Mem W0 [] (fun b => W0.heap[b]?) [] w ∧ Holds [(0, .string s), (4, I (dval ((s.data.toList.take k)) : Nat)), (5, .bool false), (6, .int .i64 k)] _ a) (fun k => s.size - k) 0
    ⟨Nat.zero_le _, by simp, fun e => absurd e (by omega), hm, h.keep ⟨rfl, rfl, rfl, rfl, trivial⟩⟩ ?_
  clear h hm
  rintro k a w ⟨hk, hdg, h12, hm, h⟩
  have hLn : s.data.toList.length = s.size := Array.length_toList ..
  have hN : dval (s.data.toList.take k) < 1000000000000 := read_bd (e := 0) (by rw [hLn]; exact hk) hLn hdg h12
  have hne : ¬ s = ⟨#[]⟩ := fun e => by rw [e] at h0; exact absurd h0 (Nat.lt_irrefl 0)
  by_cases hlt : k < s.size
  · obtain ⟨c, hc1, hc2⟩ := bt_list hlt
    have hbk := bt_bd s k
    have htk : s.data.toList.take (k + 1) = s.data.toList.take k ++ [c] := by rw [List.take_add_one, hc1]; rfl
    have hkl : (s.data.toList.take k).length = k := by rw [List.length_take]; omega
    by_cases hz : k + 1 = 0
    · exact absurd hz (by omega)
    · have hap : (s.data.toList.take (k + 1)) = (s.data.toList.take k) ++ [c] := htk
      have hk0 : ¬ (k = 0 ∧ bt s 0 = 45) := fun ⟨e1, e2⟩ => by first | omega | exact hneg e2
      by_cases hd : (48 ≤ bt s k ∧ bt s k ≤ 57) ∧ s.size ≤ 12
      · repeat' (first | refine c_seq ?_ | refine c_region ?_ | refine c_nil ?_ | refine k_then ?_ | refine k_thenL ?_ | refine k_thenR ?_ | refine k_thenE ?_ | refine k_inN ?_ | refine k_inR ?_ | refine k_inE ?_ | refine k_inO rfl ?_ | refine c_skip ?_ | refine c_ret ?_ | refine c_exit ?_ | refine c_block ?_ | refine r_succ ?_ | refine c_condT h rfl ?_ | refine c_condF h rfl ?_ | ((first | refine st_op rfl rfl h ?_ | refine st_opn rfl h ?_); clear h a; (first | (show Does _ (.index _ _ _) _ _ _ _; (first | ((refine does_strIdxN (i := k) hlt rfl rfl ?_)) | refine does_indexVA (by omega) rfl rfl ?_ | refine does_indexV1 (by omega) rfl rfl rfl ?_)) | (show Does _ (.convert _ _ _) _ _ _ _; ((refine does_convUI Tryd.underlying5 Tryd.underlying3 rfl (by omega) ?_))) | (show Does _ (.move _) _ _ _ _; refine does_move rfl ?_) | (show Does _ (.assign _) _ _ _ _; refine does_assign rfl ?_) | (show Does _ (.pick _ _ _) _ _ _ _; (first | refine does_pickT rfl rfl ?_ | refine does_pickF rfl rfl ?_)) | (show Does _ (.binOp _ _ _ _ _) _ _ _ _; (first | refine does_lssT rfl rfl (by omega) ?_ | refine does_lssF rfl rfl (by omega) ?_ | refine does_lss rfl rfl ?_ | refine does_gtrT rfl rfl (by omega) ?_ | refine does_gtrF rfl rfl (by omega) ?_ | refine does_gtr rfl rfl ?_ | refine does_eqlT rfl rfl (by omega) ?_ | refine does_eqlF rfl rfl (by omega) ?_ | refine does_eql rfl rfl ?_ | refine does_neqStrS rfl rfl ?_ | refine does_neqStr rfl rfl ?_ | refine does_eqlStrS rfl rfl ?_ | refine does_eqlStr rfl rfl ?_ | refine does_mul rfl rfl (mul_in (by omega) (by omega)) ?_ | refine does_add rfl rfl (by omega) ?_ | refine does_sub rfl rfl (by omega) ?_ | refine does_mul rfl rfl (by omega) ?_)) | (show Does _ (.unOp _ _ _) _ _ _ _; refine does_neg rfl (by omega) ?_) | (show Does _ (.call _) _ _ _ _; refine does_lenStr (StrT.out) rfl ?_)); intro a h; (try simp only [Value.cells, List.toList_toArray, splice, List.set_cons_zero, List.set_cons_succ, List.drop_zero, List.drop_succ_cons, List.take_succ_cons, List.take_zero, Nat.zero_add, Nat.reduceAdd, Nat.reduceMul, Int.reduceAdd, Int.reduceToNat, Int.reduceTMod, Nat.zero_mul, Nat.one_mul, Int.toNat_natCast] at h)) | ((first | refine st_skip rfl rfl h ?_ | refine st_skipn rfl h ?_); clear h a; intro a h) | ((first | refine c_condD h rfl ?_ ?_ | refine c_cond h rfl ?_ ?_) <;> intro hc <;> (try (first | exact absurd trivial hc | exact absurd rfl hc))) | (refine st_guardD rfl rfl h ?_ ?_ <;> clear h <;> intro hc h))
        all_goals
          refine k_thenN ⟨k + 1, ⟨hlt, fun x hx => ?_, fun _ => hd.2, hm, h.keep ⟨rfl, ?_, rfl, rfl, trivial⟩⟩, by omega⟩
          · rw [hap] at hx
            rcases List.mem_append.1 hx with hx | hx
            · exact hdg x hx
            · obtain rfl := List.mem_singleton.1 hx
              omega
          · rw [hap, dval_snoc]
            show some (I _) = some (I _)
            congr 2
            omega
      · have hnt := not_tx hlt hk0 hd
        by_cases h1 : bt s k < 48 <;> by_cases h2 : 57 < bt s k <;> by_cases h3 : 12 < s.size
        all_goals first | (exfalso; omega) | skip
        all_goals
          repeat' (first | refine c_seq ?_ | refine c_region ?_ | refine c_nil ?_ | refine k_then ?_ | refine k_thenL ?_ | refine k_thenR ?_ | refine k_thenE ?_ | refine k_inN ?_ | refine k_inR ?_ | refine k_inE ?_ | refine k_inO rfl ?_ | refine c_skip ?_ | refine c_ret ?_ | refine c_exit ?_ | refine c_block ?_ | refine r_succ ?_ | refine c_condT h rfl ?_ | refine c_condF h rfl ?_ | ((first | refine st_op rfl rfl h ?_ | refine st_opn rfl h ?_); clear h a; (first | (show Does _ (.index _ _ _) _ _ _ _; (first | ((refine does_strIdxN (i := k) hlt rfl rfl ?_)) | refine does_indexVA (by omega) rfl rfl ?_ | refine does_indexV1 (by omega) rfl rfl rfl ?_)) | (show Does _ (.convert _ _ _) _ _ _ _; ((refine does_convUI Tryd.underlying5 Tryd.underlying3 rfl (by omega) ?_))) | (show Does _ (.move _) _ _ _ _; refine does_move rfl ?_) | (show Does _ (.assign _) _ _ _ _; refine does_assign rfl ?_) | (show Does _ (.pick _ _ _) _ _ _ _; (first | refine does_pickT rfl rfl ?_ | refine does_pickF rfl rfl ?_)) | (show Does _ (.binOp _ _ _ _ _) _ _ _ _; (first | refine does_lssT rfl rfl (by omega) ?_ | refine does_lssF rfl rfl (by omega) ?_ | refine does_lss rfl rfl ?_ | refine does_gtrT rfl rfl (by omega) ?_ | refine does_gtrF rfl rfl (by omega) ?_ | refine does_gtr rfl rfl ?_ | refine does_eqlT rfl rfl (by omega) ?_ | refine does_eqlF rfl rfl (by omega) ?_ | refine does_eql rfl rfl ?_ | refine does_neqStrS rfl rfl ?_ | refine does_neqStr rfl rfl ?_ | refine does_eqlStrS rfl rfl ?_ | refine does_eqlStr rfl rfl ?_ | refine does_mul rfl rfl (mul_in (by omega) (by omega)) ?_ | refine does_add rfl rfl (by omega) ?_ | refine does_sub rfl rfl (by omega) ?_ | refine does_mul rfl rfl (by omega) ?_)) | (show Does _ (.unOp _ _ _) _ _ _ _; refine does_neg rfl (by omega) ?_) | (show Does _ (.call _) _ _ _ _; refine does_lenStr (StrT.out) rfl ?_)); intro a h; (try simp only [Value.cells, List.toList_toArray, splice, List.set_cons_zero, List.set_cons_succ, List.drop_zero, List.drop_succ_cons, List.take_succ_cons, List.take_zero, Nat.zero_add, Nat.reduceAdd, Nat.reduceMul, Int.reduceAdd, Int.reduceToNat, Int.reduceTMod, Nat.zero_mul, Nat.one_mul, Int.toNat_natCast] at h)) | ((first | refine st_skip rfl rfl h ?_ | refine st_skipn rfl h ?_); clear h a; intro a h) | ((first | refine c_condD h rfl ?_ ?_ | refine c_cond h rfl ?_ ?_) <;> intro hc <;> (try (first | exact absurd trivial hc | exact absurd rfl hc))) | (refine st_guardD rfl rfl h ?_ ?_ <;> clear h <;> intro hc h))
          all_goals exact k_ret (vs := [_, _]) rfl h ⟨rfl, rfl, trivial⟩ ⟨.inl ⟨rfl, hnt⟩, hm.below⟩
  · obtain rfl : k = s.size := by omega
    rw [List.take_of_length_le (by omega)] at h hN
    have hread : readT s.data.toList = ((dval s.data.toList : Nat) : Int) := by
      unfold readT
      first | rw [if_pos ((neg_list h0).2 hneg)] | rw [if_neg fun e => hneg ((neg_list h0).1 e)]
      try rfl
    repeat' (first | refine c_seq ?_ | refine c_region ?_ | refine c_nil ?_ | refine k_then ?_ | refine k_thenL ?_ | refine k_thenR ?_ | refine k_thenE ?_ | refine k_inN ?_ | refine k_inR ?_ | refine k_inE ?_ | refine k_inO rfl ?_ | refine c_skip ?_ | refine c_ret ?_ | refine c_exit ?_ | refine c_block ?_ | refine r_succ ?_ | refine c_condT h rfl ?_ | refine c_condF h rfl ?_ | ((first | refine st_op rfl rfl h ?_ | refine st_opn rfl h ?_); clear h a; (first | (show Does _ (.call _) _ _ _ _; (first | ((refine does_funM hm en22 rfl (sFormatInt_any _) ?_; clear hm; intro w hm)) | refine does_lenStr (StrT.out) rfl ?_)) | (show Does _ (.binOp _ _ _ _ _) _ _ _ _; (first | ((refine does_eqlStrF rfl rfl hne ?_)) | refine does_lssT rfl rfl (by omega) ?_ | refine does_lssF rfl rfl (by omega) ?_ | refine does_lss rfl rfl ?_ | refine does_gtrT rfl rfl (by omega) ?_ | refine does_gtrF rfl rfl (by omega) ?_ | refine does_gtr rfl rfl ?_ | refine does_eqlT rfl rfl (by omega) ?_ | refine does_eqlF rfl rfl (by omega) ?_ | refine does_eql rfl rfl ?_ | refine does_neqStrS rfl rfl ?_ | refine does_neqStr rfl rfl ?_ | refine does_eqlStrS rfl rfl ?_ | refine does_eqlStr rfl rfl ?_ | refine does_mul rfl rfl (mul_in (by omega) (by omega)) ?_ | refine does_add rfl rfl (by omega) ?_ | refine does_sub rfl rfl (by omega) ?_ | refine does_mul rfl rfl (by omega) ?_)) | (show Does _ (.move _) _ _ _ _; refine does_move rfl ?_) | (show Does _ (.assign _) _ _ _ _; refine does_assign rfl ?_) | (show Does _ (.pick _ _ _) _ _ _ _; (first | refine does_pickT rfl rfl ?_ | refine does_pickF rfl rfl ?_)) | (show Does _ (.unOp _ _ _) _ _ _ _; refine does_neg rfl (by omega) ?_) | (show Does _ (.index _ _ _) _ _ _ _; (first | refine does_indexVA (by omega) rfl rfl ?_ | refine does_indexV1 (by omega) rfl rfl rfl ?_))); intro a h; (try simp only [Value.cells, List.toList_toArray, splice, List.set_cons_zero, List.set_cons_succ, List.drop_zero, List.drop_succ_cons, List.take_succ_cons, List.take_zero, Nat.zero_add, Nat.reduceAdd, Nat.reduceMul, Int.reduceAdd, Int.reduceToNat, Int.reduceTMod, Nat.zero_mul, Nat.one_mul, Int.toNat_natCast] at h)) | ((first | refine st_skip rfl rfl h ?_ | refine st_skipn rfl h ?_); clear h a; intro a h) | ((first | refine c_condD h rfl ?_ ?_ | refine c_cond h rfl ?_ ?_) <;> intro hc <;> (try (first | exact absurd trivial hc | exact absurd rfl hc))) | (refine st_guardD rfl rfl h ?_ ?_ <;> clear h <;> intro hc h))
    all_goals first | exact absurd hc hne | exact k_ret (vs := [_, _]) rfl h ⟨rfl, rfl, trivial⟩ ⟨.inl ⟨rfl, nTx_no hread hc⟩, hm.below⟩ | exact k_ret (vs := [_, _]) rfl h ⟨rfl, rfl, trivial⟩ ⟨.inr ⟨_, rfl, nTx_yes hne (Classical.not_not.1 hc)⟩, hm.below⟩
theorem sParseInt_ok (s : ByteArray) (hs : s.size ≤ 1048576) (h0 : 0 < s.size) : FunV Tryd.prog 40 [.string s] (fun _ => True) (prP s) := by
  by_cases h : bt s 0 = 45
  · exact sParse_true s hs h0 h
  · exact sParse_false s hs h0 h
end Go.Proofs.YthilfmmoeigeoaaDoor.St
