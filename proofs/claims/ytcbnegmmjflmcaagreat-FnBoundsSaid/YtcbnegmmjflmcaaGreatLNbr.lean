/-
  Numbers of a source: where they end.
-/
import Derived.Test.YtcbnegmmjflmcaaGreatLCur
import Derived.Test.YtcbnegmmjflmcaaGreatJ13
import Derived.Test.YtcbnegmmjflmcaaGreatJ16
import Derived.Test.YtcbnegmmjflmcaaGreatJ7
import Derived.Test.YtcbnegmmjflmcaaGreatJ10
set_option linter.unusedSimpArgs false
set_option linter.unusedVariables false
namespace Go.Proofs.YtcbnegmmjflmcaaGreat.St
open Go.RowKit
section
variable {P : Program} {E : Env} {w W0 : World} {X : List Nat} {B : Heap} {L : List Own} {Φ : Value → World → Prop} {ty t t' : TypeId} {x y : Operand}
theorem does_subU8 {m n : Int} (hx : ev E x = some (.int .u8 m)) (hy : ev E y = some (.int .u8 n)) (hb : 0 ≤ m - n ∧ m - n ≤ 255) (k : Φ (.int .u8 (m - n)) w) : Does P (.binOp .sub t x y t') ty E w Φ := by
  refine does_subw hx hy ?_
  rw [show IntKind.u8.wrap (m - n) = m - n by simp [IntKind.wrap, IntKind.signed, IntKind.bits]; omega]
  exact k
theorem does_intAny {op : BinOp} (h : op = .add ∨ op = .mul) {m n : Int} (hx : ev E x = some (.int .i64 m)) (hy : ev E y = some (.int .i64 n)) (k : ∀ u : Int, Φ (.int .i64 u) w) : Does P (.binOp op t x y t') ty E w Φ := by
  rcases h with rfl | rfl
  · exact does_addw hx hy (k _)
  · exact does_mulw hx hy (k _)
end
theorem wrap_bd (m : Int) : -9223372036854775808 ≤ IntKind.i64.wrap m ∧ IntKind.i64.wrap m ≤ 9223372036854775807 := by
  simp only [IntKind.wrap, IntKind.signed, IntKind.bits]
  simp
  omega
def digB (s : ByteArray) (i : Nat) : Prop := 48 ≤ bt s i ∧ bt s i ≤ 57
def letB (s : ByteArray) (i : Nat) : Prop := 97 ≤ bt s i ∧ bt s i ≤ 122
set_option maxHeartbeats 2000000 in
theorem l12Digit_y (x : Int) (hh : 48 ≤ x ∧ x ≤ 57) : Fun Tryz.prog 107 [.int .u8 x] (.bool true) := by
  refine enterFun Tryz.func107 rfl Tryz.ntmps107 rfl (fun W0 w a hm h => ?_)
  repeat' (first | refine c_seq ?_ | refine c_region ?_ | refine c_nil ?_ | refine k_then ?_ | refine c_ret ?_ | ((refine st_op rfl rfl h ?_); clear h a; (first | (show Does _ (.move _) _ _ _ _; refine does_move rfl ?_) | (show Does _ (.assign _) _ _ _ _; refine does_assign rfl ?_) | (show Does _ (.pick _ _ _) _ _ _ _; (refine does_pickT rfl rfl ?_)) | (show Does _ (.binOp _ _ _ _ _) _ _ _ _; (first | refine does_leqT rfl rfl (by omega) ?_ | refine does_geqT rfl rfl (by omega) ?_))); intro a h))
  all_goals (refine k_ret1 rfl h rfl ⟨?_, hm.below⟩)
  all_goals (rfl)
set_option maxHeartbeats 2000000 in
theorem l12Digit_n (x : Int) (hh : ¬ (48 ≤ x ∧ x ≤ 57)) : Fun Tryz.prog 107 [.int .u8 x] (.bool false) := by
  refine enterFun Tryz.func107 rfl Tryz.ntmps107 rfl (fun W0 w a hm h => ?_)
  repeat' (first | refine c_seq ?_ | refine c_region ?_ | refine c_nil ?_ | refine k_then ?_ | refine c_ret ?_ | ((refine st_op rfl rfl h ?_); clear h a; (first | (show Does _ (.move _) _ _ _ _; refine does_move rfl ?_) | (show Does _ (.assign _) _ _ _ _; refine does_assign rfl ?_) | (show Does _ (.pick _ _ _) _ _ _ _; (first | refine does_pickT rfl rfl ?_ | refine does_pickF rfl rfl ?_)) | (show Does _ (.binOp _ _ _ _ _) _ _ _ _; (first | refine does_leqF rfl rfl (by omega) ?_ | refine does_geq rfl rfl ?_))); intro a h) | ((refine st_skip rfl rfl h ?_); clear h a; intro a h) | (refine st_guardD rfl rfl h ?_ ?_ <;> clear h <;> intro hc h))
  all_goals (refine k_ret1 rfl h rfl ⟨?_, hm.below⟩)
  all_goals (rfl)
set_option maxHeartbeats 2000000 in
theorem l12Letter_y (x : Int) (hh : 97 ≤ x ∧ x ≤ 122) : Fun Tryz.prog 109 [.int .u8 x] (.bool true) := by
  refine enterFun Tryz.func109 rfl Tryz.ntmps109 rfl (fun W0 w a hm h => ?_)
  repeat' (first | refine c_seq ?_ | refine c_region ?_ | refine c_nil ?_ | refine k_then ?_ | refine c_ret ?_ | ((refine st_op rfl rfl h ?_); clear h a; (first | (show Does _ (.move _) _ _ _ _; refine does_move rfl ?_) | (show Does _ (.assign _) _ _ _ _; refine does_assign rfl ?_) | (show Does _ (.pick _ _ _) _ _ _ _; (refine does_pickT rfl rfl ?_)) | (show Does _ (.binOp _ _ _ _ _) _ _ _ _; (first | refine does_leqT rfl rfl (by omega) ?_ | refine does_geqT rfl rfl (by omega) ?_))); intro a h))
  all_goals (refine k_ret1 rfl h rfl ⟨?_, hm.below⟩)
  all_goals (rfl)
set_option maxHeartbeats 2000000 in
theorem l12Letter_n (x : Int) (hh : ¬ (97 ≤ x ∧ x ≤ 122)) : Fun Tryz.prog 109 [.int .u8 x] (.bool false) := by
  refine enterFun Tryz.func109 rfl Tryz.ntmps109 rfl (fun W0 w a hm h => ?_)
  repeat' (first | refine c_seq ?_ | refine c_region ?_ | refine c_nil ?_ | refine k_then ?_ | refine c_ret ?_ | ((refine st_op rfl rfl h ?_); clear h a; (first | (show Does _ (.move _) _ _ _ _; refine does_move rfl ?_) | (show Does _ (.assign _) _ _ _ _; refine does_assign rfl ?_) | (show Does _ (.pick _ _ _) _ _ _ _; (first | refine does_pickT rfl rfl ?_ | refine does_pickF rfl rfl ?_)) | (show Does _ (.binOp _ _ _ _ _) _ _ _ _; (first | refine does_leqF rfl rfl (by omega) ?_ | refine does_geq rfl rfl ?_))); intro a h) | ((refine st_skip rfl rfl h ?_); clear h a; intro a h) | (refine st_guardD rfl rfl h ?_ ?_ <;> clear h <;> intro hc h))
  all_goals (refine k_ret1 rfl h rfl ⟨?_, hm.below⟩)
  all_goals (rfl)
theorem pow10_bd {k : Nat} (h : k ≤ 6) : 1 ≤ (((10 ^ k : Nat)) : Int) ∧ (((10 ^ k : Nat)) : Int) ≤ 1000000 := by
  have h1 : 10 ^ k ≤ 10 ^ 6 := Nat.pow_le_pow_right (by omega) h
  have h2 : 1 ≤ 10 ^ k := Nat.one_le_pow _ _ (by omega)
  omega
def nbR (s : ByteArray) (at_ : Nat) (v : Value) : Prop := ∃ (e : Nat) (n : Int) (z : Bool), v = .tuple #[I e, I n, .bool z] ∧ at_ < e ∧ e ≤ s.size
set_option maxHeartbeats 8000000 in
theorem l12Number_ok (s : ByteArray) (at_ : Nat) (hs : s.size ≤ 2000) (hlt : at_ < s.size) (hd : digB s at_) : FunV Tryz.prog 108 [.string s, .int .i64 at_] (fun _ => True) (nbR s at_) := by
  refine enterFunV Tryz.func108 rfl Tryz.ntmps108 rfl (fun W0 w a hp hm h => ?_)
  repeat' (first | refine c_seq ?_ | refine c_region ?_ | refine c_nil ?_ | refine k_then ?_ | refine c_block ?_ | ((refine st_op rfl rfl h ?_); clear h a; (first | (show Does _ (.move _) _ _ _ _; refine does_move rfl ?_) | (show Does _ (.assign _) _ _ _ _; refine does_assign rfl ?_)); intro a h))
  refine cw_cutX 0 (fun a w => ∃ (i : Nat) (u : Int), at_ < i ∧ i ≤ s.size ∧ i ≤ at_ + 6 ∧ Mem W0 [] (fun b => W0.heap[b]?) [] w ∧ Holds [(0, .string s), (1, .int .i64 at_), (7, .int .i64 i), (8, I u)] 106 a) ?_ ?_
  · refine c_loop (σ := Nat × Int) (fun q a w => at_ ≤ q.1 ∧ q.1 ≤ s.size ∧ q.1 ≤ at_ + 6 ∧ Mem W0 [] (fun b => W0.heap[b]?) [] w ∧ Holds [(0, .string s), (1, .int .i64 at_), (7, .int .i64 q.1), (8, I q.2)] _ a) (fun q => s.size - q.1) (at_, 0)
      ⟨Nat.le_refl _, by omega, by omega, hm, h.keep ⟨rfl, rfl, rfl, rfl, trivial⟩⟩ ?_
    clear h hm
    rintro ⟨i, u⟩ a w ⟨h1, h2, h3, hm, h⟩
    simp only at h1 h2 h3 h
    have hb := bt_bd s i
    by_cases hi : i < s.size
    · by_cases hdi : digB s i
      · have hdi' := hdi
        unfold digB at hdi'
        by_cases h6 : i ≤ at_ + 5
        · repeat' (first | refine c_seq ?_ | refine c_region ?_ | refine c_nil ?_ | refine k_then ?_ | refine k_inN ?_ | refine c_skip ?_ | refine c_block ?_ | refine c_condT h rfl ?_ | ((refine st_op rfl rfl h ?_); clear h a; (first | (show Does _ (.index _ _ _) _ _ _ _; (((refine does_strIdxN (i := i) hi rfl rfl ?_)))) | (show Does _ (.binOp _ _ _ _ _) _ _ _ _; (first | ((refine does_subU8 rfl rfl (by omega) ?_)) | ((refine does_add rfl rfl (by omega) ?_)) | ((refine does_intAny (by first | exact .inl rfl | exact .inr rfl) rfl rfl ?_; intro u1)) | refine does_lssT rfl rfl (by omega) ?_ | refine does_leqT rfl rfl (by omega) ?_ | refine does_sub rfl rfl (by omega) ?_)) | (show Does _ (.convert _ _ _) _ _ _ _; ((refine does_convI rfl (by omega) ?_))) | (show Does _ (.call _) _ _ _ _; (first | (refine does_funM hm en107 rfl (l12Digit_y _ (by first | assumption | omega)) ?_; clear hm; intro w hm) | refine does_lenStr (StrT.out) rfl ?_)) | (show Does _ (.move _) _ _ _ _; refine does_move rfl ?_) | (show Does _ (.assign _) _ _ _ _; refine does_assign rfl ?_) | (show Does _ (.pick _ _ _) _ _ _ _; (refine does_pickT rfl rfl ?_))); intro a h))
          exact k_thenN ⟨(i + 1, _), ⟨by omega, by omega, by omega, hm, h.keep ⟨rfl, rfl, rfl, rfl, trivial⟩⟩, by show s.size - (i + 1) < s.size - i; omega⟩
        · repeat' (first | refine c_seq ?_ | refine c_region ?_ | refine c_nil ?_ | refine k_then ?_ | refine k_thenE ?_ | refine c_exit ?_ | refine c_condF h rfl ?_ | ((refine st_op rfl rfl h ?_); clear h a; (first | (show Does _ (.index _ _ _) _ _ _ _; (((refine does_strIdxN (i := i) hi rfl rfl ?_)))) | (show Does _ (.call _) _ _ _ _; (first | (refine does_funM hm en107 rfl (l12Digit_y _ (by first | assumption | omega)) ?_; clear hm; intro w hm) | refine does_lenStr (StrT.out) rfl ?_)) | (show Does _ (.move _) _ _ _ _; refine does_move rfl ?_) | (show Does _ (.pick _ _ _) _ _ _ _; (refine does_pickT rfl rfl ?_)) | (show Does _ (.binOp _ _ _ _ _) _ _ _ _; (first | refine does_lssT rfl rfl (by omega) ?_ | refine does_leqF rfl rfl (by omega) ?_ | refine does_sub rfl rfl (by omega) ?_))); intro a h))
          exact ⟨⟨rfl, i, u, by omega, h2, h3, hm, h.keep ⟨rfl, rfl, rfl, rfl, trivial⟩⟩⟩
      · have hne : i ≠ at_ := fun e => by subst e; exact hdi hd
        have hdi' := hdi
        unfold digB at hdi'
        repeat' (first | refine c_seq ?_ | refine c_region ?_ | refine c_nil ?_ | refine k_then ?_ | refine k_thenE ?_ | refine c_exit ?_ | refine c_condF h rfl ?_ | ((refine st_op rfl rfl h ?_); clear h a; (first | (show Does _ (.index _ _ _) _ _ _ _; (((refine does_strIdxN (i := i) hi rfl rfl ?_)))) | (show Does _ (.call _) _ _ _ _; (first | (refine does_funM hm en107 rfl (l12Digit_n _ (by first | assumption | omega)) ?_; clear hm; intro w hm) | refine does_lenStr (StrT.out) rfl ?_)) | (show Does _ (.move _) _ _ _ _; refine does_move rfl ?_) | (show Does _ (.pick _ _ _) _ _ _ _; (first | refine does_pickT rfl rfl ?_ | refine does_pickF rfl rfl ?_)) | (show Does _ (.binOp _ _ _ _ _) _ _ _ _; (refine does_lssT rfl rfl (by omega) ?_))); intro a h) | ((refine st_skip rfl rfl h ?_); clear h a; intro a h))
        exact ⟨⟨rfl, i, u, by omega, h2, h3, hm, h.keep ⟨rfl, rfl, rfl, rfl, trivial⟩⟩⟩
    · repeat' (first | refine c_seq ?_ | refine c_region ?_ | refine c_nil ?_ | refine k_then ?_ | refine k_thenE ?_ | refine c_exit ?_ | refine c_condF h rfl ?_ | ((refine st_op rfl rfl h ?_); clear h a; (first | (show Does _ (.call _) _ _ _ _; (refine does_lenStr (StrT.out) rfl ?_)) | (show Does _ (.move _) _ _ _ _; refine does_move rfl ?_) | (show Does _ (.pick _ _ _) _ _ _ _; (refine does_pickF rfl rfl ?_)) | (show Does _ (.binOp _ _ _ _ _) _ _ _ _; (refine does_lssF rfl rfl (by omega) ?_))); intro a h) | ((refine st_skip rfl rfl h ?_); clear h a; intro a h))
      exact ⟨⟨rfl, i, u, by omega, h2, h3, hm, h.keep ⟨rfl, rfl, rfl, rfl, trivial⟩⟩⟩
  clear h hm
  rintro a w ⟨i, u, h1, h2, h3, hm, h⟩
  by_cases hi : i < s.size
  · have hb := bt_bd s i
    by_cases hdot : bt s i = 46
    · repeat' (first | refine c_seq ?_ | refine c_region ?_ | refine c_nil ?_ | refine k_then ?_ | refine k_thenR ?_ | refine k_inE ?_ | refine c_skip ?_ | refine c_ret ?_ | refine c_block ?_ | refine c_condF h rfl ?_ | ((refine st_op rfl rfl h ?_); clear h a; (first | (show Does _ (.index _ _ _) _ _ _ _; (((refine does_strIdxN (i := i) hi rfl rfl ?_)))) | (show Does _ (.binOp _ _ _ _ _) _ _ _ _; (first | ((refine does_add rfl rfl (by omega) ?_)) | refine does_gtr rfl rfl ?_ | refine does_eqlF rfl rfl (by omega) ?_ | refine does_neqF rfl rfl (by omega) ?_ | refine does_sub rfl rfl (by omega) ?_)) | (show Does _ (.call _) _ _ _ _; (refine does_lenStr (StrT.out) rfl ?_)) | (show Does _ (.move _) _ _ _ _; refine does_move rfl ?_) | (show Does _ (.assign _) _ _ _ _; refine does_assign rfl ?_) | (show Does _ (.pick _ _ _) _ _ _ _; (refine does_pickF rfl rfl ?_))); intro a h) | ((refine c_condD h rfl ?_ ?_) <;> intro hc <;> (skip)))
      · exact k_ret (vs := [_, _, _]) rfl h ⟨rfl, rfl, rfl, trivial⟩ ⟨⟨i, _, _, rfl, h1, h2⟩, hm.below⟩
      refine cw_cutX 2 (fun a w => ∃ (k : Nat) (f : Int), i + 1 + k ≤ s.size ∧ k ≤ 6 ∧ Mem W0 [] (fun b => W0.heap[b]?) [] w ∧ Holds [(0, .string s), (7, .int .i64 ((i + 1 + k : Nat) : Int)), (8, I u), (9, .int .i64 ((i + 1 : Nat) : Int)), (10, I f), (11, I ((10 ^ k : Nat) : Int))] 106 a) ?_ ?_
      · refine c_loop (σ := Nat × Int) (fun q a w => i + 1 + q.1 ≤ s.size ∧ q.1 ≤ 6 ∧ Mem W0 [] (fun b => W0.heap[b]?) [] w ∧ Holds [(0, .string s), (7, .int .i64 ((i + 1 + q.1 : Nat) : Int)), (8, I u), (9, .int .i64 ((i + 1 : Nat) : Int)), (10, I q.2), (11, I ((10 ^ q.1 : Nat) : Int))] 106 a) (fun q => 6 - q.1) (0, 0)
          ⟨by show i + 1 + 0 ≤ s.size; omega, by show (0 : Nat) ≤ 6; omega, hm, h.keep ⟨rfl, rfl, rfl, rfl, rfl, rfl, trivial⟩⟩ ?_
        clear h hm
        rintro ⟨k, f⟩ a w ⟨h4, h5, hm, h⟩
        simp only at h4 h5 h
        have hb := bt_bd s (i + 1 + k)
        by_cases hk : i + 1 + k < s.size
        · by_cases hdi : digB s (i + 1 + k)
          · have hdi' := hdi
            unfold digB at hdi'
            by_cases h6 : k ≤ 5
            · have hp1 := pow10_bd (k := k) (by omega)
              repeat' (first | refine c_seq ?_ | refine c_region ?_ | refine c_nil ?_ | refine k_then ?_ | refine k_inN ?_ | refine c_skip ?_ | refine c_block ?_ | refine c_condT h rfl ?_ | ((refine st_op rfl rfl h ?_); clear h a; (first | (show Does _ (.index _ _ _) _ _ _ _; (((refine does_strIdxN (i := i + 1 + k) hk rfl rfl ?_)))) | (show Does _ (.binOp _ _ _ _ _) _ _ _ _; (first | ((refine does_subU8 rfl rfl (by omega) ?_)) | ((refine does_add rfl rfl (by omega) ?_)) | ((refine does_mul (m := ((10 ^ k : Nat) : Int)) rfl rfl (by omega) ?_)) | ((refine does_intAny (by first | exact .inl rfl | exact .inr rfl) rfl rfl ?_; intro u1)) | refine does_lssT rfl rfl (by omega) ?_ | refine does_leqT rfl rfl (by omega) ?_ | refine does_sub rfl rfl (by omega) ?_)) | (show Does _ (.convert _ _ _) _ _ _ _; ((refine does_convI rfl (by omega) ?_))) | (show Does _ (.call _) _ _ _ _; (first | (refine does_funM hm en107 rfl (l12Digit_y _ (by first | assumption | omega)) ?_; clear hm; intro w hm) | refine does_lenStr (StrT.out) rfl ?_)) | (show Does _ (.move _) _ _ _ _; refine does_move rfl ?_) | (show Does _ (.assign _) _ _ _ _; refine does_assign rfl ?_) | (show Does _ (.pick _ _ _) _ _ _ _; (refine does_pickT rfl rfl ?_))); intro a h))
              refine k_thenN ⟨(k + 1, u1), ⟨by show i + 1 + (k + 1) ≤ s.size; omega, by show k + 1 ≤ 6; omega, hm, ?_⟩, by show 6 - (k + 1) < 6 - k; omega⟩
              rw [show ((i + 1 + k : Nat) : Int) + 1 = ((i + 1 + (k + 1) : Nat) : Int) by omega, show ((10 ^ k : Nat) : Int) * 10 = ((10 ^ (k + 1) : Nat) : Int) by rw [Nat.pow_succ]; omega] at h
              exact h.keep ⟨rfl, rfl, rfl, rfl, rfl, rfl, trivial⟩
            · repeat' (first | refine c_seq ?_ | refine c_region ?_ | refine c_nil ?_ | refine k_then ?_ | refine k_thenE ?_ | refine c_exit ?_ | refine c_condF h rfl ?_ | ((refine st_op rfl rfl h ?_); clear h a; (first | (show Does _ (.index _ _ _) _ _ _ _; (((refine does_strIdxN (i := i + 1 + k) hk rfl rfl ?_)))) | (show Does _ (.call _) _ _ _ _; (first | (refine does_funM hm en107 rfl (l12Digit_y _ (by first | assumption | omega)) ?_; clear hm; intro w hm) | refine does_lenStr (StrT.out) rfl ?_)) | (show Does _ (.move _) _ _ _ _; refine does_move rfl ?_) | (show Does _ (.pick _ _ _) _ _ _ _; (refine does_pickT rfl rfl ?_)) | (show Does _ (.binOp _ _ _ _ _) _ _ _ _; (first | refine does_lssT rfl rfl (by omega) ?_ | refine does_leqF rfl rfl (by omega) ?_ | refine does_sub rfl rfl (by omega) ?_))); intro a h))
              exact ⟨⟨rfl, k, f, h4, h5, hm, h.keep ⟨rfl, rfl, rfl, rfl, rfl, rfl, trivial⟩⟩⟩
          · have hdi' := hdi
            unfold digB at hdi'
            repeat' (first | refine c_seq ?_ | refine c_region ?_ | refine c_nil ?_ | refine k_then ?_ | refine k_thenE ?_ | refine c_exit ?_ | refine c_condF h rfl ?_ | ((refine st_op rfl rfl h ?_); clear h a; (first | (show Does _ (.index _ _ _) _ _ _ _; (((refine does_strIdxN (i := i + 1 + k) hk rfl rfl ?_)))) | (show Does _ (.call _) _ _ _ _; (first | (refine does_funM hm en107 rfl (l12Digit_n _ (by first | assumption | omega)) ?_; clear hm; intro w hm) | refine does_lenStr (StrT.out) rfl ?_)) | (show Does _ (.move _) _ _ _ _; refine does_move rfl ?_) | (show Does _ (.pick _ _ _) _ _ _ _; (first | refine does_pickT rfl rfl ?_ | refine does_pickF rfl rfl ?_)) | (show Does _ (.binOp _ _ _ _ _) _ _ _ _; (refine does_lssT rfl rfl (by omega) ?_))); intro a h) | ((refine st_skip rfl rfl h ?_); clear h a; intro a h))
            exact ⟨⟨rfl, k, f, h4, h5, hm, h.keep ⟨rfl, rfl, rfl, rfl, rfl, rfl, trivial⟩⟩⟩
        · repeat' (first | refine c_seq ?_ | refine c_region ?_ | refine c_nil ?_ | refine k_then ?_ | refine k_thenE ?_ | refine c_exit ?_ | refine c_condF h rfl ?_ | ((refine st_op rfl rfl h ?_); clear h a; (first | (show Does _ (.call _) _ _ _ _; (refine does_lenStr (StrT.out) rfl ?_)) | (show Does _ (.move _) _ _ _ _; refine does_move rfl ?_) | (show Does _ (.pick _ _ _) _ _ _ _; (refine does_pickF rfl rfl ?_)) | (show Does _ (.binOp _ _ _ _ _) _ _ _ _; (refine does_lssF rfl rfl (by omega) ?_))); intro a h) | ((refine st_skip rfl rfl h ?_); clear h a; intro a h))
          exact ⟨⟨rfl, k, f, h4, h5, hm, h.keep ⟨rfl, rfl, rfl, rfl, rfl, rfl, trivial⟩⟩⟩
      clear h hm
      rintro a w ⟨k, f, h4, h5, hm, h⟩
      have hp1 := pow10_bd h5
      have hw := wrap_bd (f * 256)
      repeat' (first | refine c_seq ?_ | refine c_region ?_ | refine c_nil ?_ | refine k_then ?_ | refine k_thenR ?_ | refine k_inE ?_ | refine c_skip ?_ | refine c_ret ?_ | refine c_condT h rfl ?_ | ((refine st_op rfl rfl h ?_); clear h a; (first | (show Does _ (.binOp _ _ _ _ _) _ _ _ _; (first | refine does_gtr rfl rfl ?_ | refine does_eql rfl rfl ?_ | refine does_sub rfl rfl (by omega) ?_)) | (show Does _ (.move _) _ _ _ _; refine does_move rfl ?_) | (show Does _ (.assign _) _ _ _ _; refine does_assign rfl ?_) | (show Does _ (.pick _ _ _) _ _ _ _; (first | refine does_pickT rfl rfl ?_ | refine does_pickF rfl rfl ?_))); intro a h) | ((refine st_skip rfl rfl h ?_); clear h a; intro a h) | (apply c_drawM (id := 20) 11 [.val _, .val _, .val _, .val _, .val _, .val _, .val _, .val _, .val _, .val _, .val _] mixed (by kernel_rfl) (h := h) (hm := hm); (case vcs => (repeat' (first | exact vcs_nil | refine vcs_cons ?_ ?_ | (intro w hm; (repeat (first | refine dep_val ?_ | refine dep_nil ?_)); first | exact vc_skip rfl | exact vc_alloc rfl | exact vc_box rfl rfl rfl | exact vc_buildSlice rfl rfl rfl rfl | exact vc_makeSlice (by omega) (by omega) rfl rfl rfl | exact vc_store rfl rfl rfl rfl rfl rfl rfl rfl rfl rfl | (apply vc_run rfl; (first | (show Does _ (.binOp _ _ _ _ _) _ _ _ _; (first | ((refine does_quo rfl rfl (by omega) ?_)) | ((refine does_mulw rfl rfl ?_)) | ((refine does_addw rfl rfl ?_)))) | (show Does _ (.move _) _ _ _ _; refine does_move rfl ?_) | (show Does _ (.assign _) _ _ _ _; refine does_assign rfl ?_)); (exact ⟨ext_refl _, rfl⟩)))))); (case hup => kernel_rfl); (case hown => kernel_rfl); (case hnp => kernel_rfl); clear h hm a; intro  w hm; (simp only [List.map_nil, List.nil_append] at hm); (repeat (first | refine dep_val ?_ | refine dep_nil ?_)); intro a h) | ((refine c_condD h rfl ?_ ?_) <;> intro hc <;> (skip)) | (refine st_guardD rfl rfl h ?_ ?_ <;> clear h <;> intro hc h))
      all_goals exact k_ret (vs := [_, _, _]) rfl h ⟨rfl, rfl, rfl, trivial⟩ ⟨⟨_, _, _, rfl, by omega, h4⟩, hm.below⟩
    · repeat' (first | refine c_seq ?_ | refine c_region ?_ | refine c_nil ?_ | refine k_then ?_ | refine k_thenR ?_ | refine k_inE ?_ | refine c_skip ?_ | refine c_ret ?_ | refine c_condT h rfl ?_ | ((refine st_op rfl rfl h ?_); clear h a; (first | (show Does _ (.index _ _ _) _ _ _ _; (((refine does_strIdxN (i := i) hi rfl rfl ?_)))) | (show Does _ (.binOp _ _ _ _ _) _ _ _ _; (first | ((refine does_intAny (by first | exact .inl rfl | exact .inr rfl) rfl rfl ?_; intro u1)) | refine does_gtr rfl rfl ?_ | refine does_eqlF rfl rfl (by omega) ?_ | refine does_neqT rfl rfl (by omega) ?_ | refine does_sub rfl rfl (by omega) ?_)) | (show Does _ (.call _) _ _ _ _; (refine does_lenStr (StrT.out) rfl ?_)) | (show Does _ (.move _) _ _ _ _; refine does_move rfl ?_) | (show Does _ (.assign _) _ _ _ _; refine does_assign rfl ?_) | (show Does _ (.pick _ _ _) _ _ _ _; (refine does_pickF rfl rfl ?_))); intro a h) | ((refine c_condD h rfl ?_ ?_) <;> intro hc <;> (skip)))
      all_goals exact k_ret (vs := [_, _, _]) rfl h ⟨rfl, rfl, rfl, trivial⟩ ⟨⟨i, _, _, rfl, h1, h2⟩, hm.below⟩
  · repeat' (first | refine c_seq ?_ | refine c_region ?_ | refine c_nil ?_ | refine k_then ?_ | refine k_thenR ?_ | refine k_inE ?_ | refine c_skip ?_ | refine c_ret ?_ | refine c_condT h rfl ?_ | ((refine st_op rfl rfl h ?_); clear h a; (first | (show Does _ (.binOp _ _ _ _ _) _ _ _ _; (first | ((refine does_intAny (by first | exact .inl rfl | exact .inr rfl) rfl rfl ?_; intro u1)) | refine does_gtr rfl rfl ?_ | refine does_eqlT rfl rfl (by omega) ?_ | refine does_sub rfl rfl (by omega) ?_)) | (show Does _ (.call _) _ _ _ _; (refine does_lenStr (StrT.out) rfl ?_)) | (show Does _ (.move _) _ _ _ _; refine does_move rfl ?_) | (show Does _ (.assign _) _ _ _ _; refine does_assign rfl ?_) | (show Does _ (.pick _ _ _) _ _ _ _; (refine does_pickT rfl rfl ?_))); intro a h) | ((refine st_skip rfl rfl h ?_); clear h a; intro a h) | ((refine c_condD h rfl ?_ ?_) <;> intro hc <;> (skip)))
    all_goals exact k_ret (vs := [_, _, _]) rfl h ⟨rfl, rfl, rfl, trivial⟩ ⟨⟨i, _, _, rfl, h1, h2⟩, hm.below⟩
end Go.Proofs.YtcbnegmmjflmcaaGreat.St
