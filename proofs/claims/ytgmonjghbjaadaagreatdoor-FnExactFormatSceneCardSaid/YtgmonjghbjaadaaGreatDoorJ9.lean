/-
  Reading a number: what stands in the text of one. Plain.
-/
import Derived.Test.YtgmonjghbjaadaaGreatDoorJ4
import Derived.Test.YtgmonjghbjaadaaGreatDoorJ8
import Derived.Test.YtgmonjghbjaadaaGreatDoorLTex

section
set_option linter.unusedSimpArgs false
set_option linter.unusedVariables false
namespace Go.Proofs.YtgmonjghbjaadaaGreatDoor.St
open Go.RowKit
def dval (l : List UInt8) : Nat := l.foldl (fun a c => a * 10 + (c.toNat - 48)) 0
/-- the text has a minus ahead -/
def negT (l : List UInt8) : Prop := l[0]? = some 45
theorem itoa_pos {n : Int} (h : ¬ n < 0) : Lib.itoa n = Lib.decDigits n.toNat := by simp [Lib.itoa, h]
open Classical in
/-- what a reader computes of the text of a number -/
noncomputable def readT (l : List UInt8) : Int := if negT l then -(dval (l.drop 1) : Int) else dval l
/-- s is the text of n -/
def isTx (s : ByteArray) (n : Int) : Prop := (-1000000000 ≤ n ∧ n ≤ 1000000000) ∧ iTx n = s
end Go.Proofs.YtgmonjghbjaadaaGreatDoor.St
end

section
/-
  Numbers with fractions as texts: both sides.
-/
set_option linter.unusedSimpArgs false
set_option linter.unusedVariables false
namespace Go.Proofs.YtgmonjghbjaadaaGreatDoor.St
open Go.RowKit
theorem does_quoZ {P : Program} {E : Env} {w : World} {Φ : Value → World → Prop} {ty t t' : TypeId} {x y : Operand} {m n : Int} (hx : ev E x = some (.int .i64 m)) (hy : ev E y = some (.int .i64 n)) (hr : 0 ≤ m ∧ m ≤ 9223372036854775807 ∧ 1 ≤ n) (k : Φ (.int .i64 (m / n)) w) :
    Does P (.binOp .quo t x y t') ty E w Φ := does_quo hx hy (by omega) (by rw [Int.tdiv_eq_ediv_of_nonneg hr.1]; exact k)
theorem does_remR {P : Program} {E : Env} {w : World} {Φ : Value → World → Prop} {ty t t' : TypeId} {x y : Operand} {j : IntKind} {m n : Int} (r : Int) (hx : ev E x = some (.int j m)) (hy : ev E y = some (.int j n)) (hr : (0 ≤ m ∧ 0 < n) ∧ r = m % n) (k : Φ (.int j r) w) :
    Does P (.binOp .rem t x y t') ty E w Φ := does_rem hx hy (by omega) (by rw [Int.tmod_eq_emod_of_nonneg hr.1.1, ← hr.2]; exact k)
theorem does_mulR {P : Program} {E : Env} {w : World} {Φ : Value → World → Prop} {ty t t' : TypeId} {x y : Operand} {m n : Int} (r : Int) (hx : ev E x = some (.int .i64 m)) (hy : ev E y = some (.int .i64 n)) (hr : m * n = r ∧ -9223372036854775808 ≤ r ∧ r ≤ 9223372036854775807) (k : Φ (.int .i64 r) w) :
    Does P (.binOp .mul t x y t') ty E w Φ := does_mul hx hy (by omega) (by rw [hr.1]; exact k)
/-- a fraction of 256: how many digits, and which -/
def c1N (r : Int) : Prop := (r * 10 + 255) / 256 < 10 ∧ (r * 10 + 255) / 256 * 256 / 10 = r
def c2N (r : Int) : Prop := (r * 100 + 255) / 256 < 100 ∧ (r * 100 + 255) / 256 * 256 / 100 = r
def padT (k : Nat) (f : Int) : List UInt8 := List.replicate (k - (Lib.itoa f).length) 48 ++ Lib.itoa f
open Classical in
noncomputable def fracT (r : Int) : List UInt8 := if c1N r then padT 1 ((r * 10 + 255) / 256) else if c2N r then padT 2 ((r * 100 + 255) / 256) else padT 3 ((r * 1000 + 255) / 256)
open Classical in
noncomputable def numT (n : Int) : List UInt8 := if 0 ≤ n ∧ n ≤ 2559999 then (if n % 256 = 0 then Lib.itoa (n / 256) else Lib.itoa (n / 256) ++ [46] ++ fracT (n % 256)) else []
theorem itoa_small {f : Int} {k : Nat} (h0 : 0 ≤ f) (h : f < 10 ^ k) (hk : 0 < k) : (Lib.itoa f).length ≤ k := by
  rw [itoa_pos (by omega)]
  exact decDigits_bd k f.toNat (by
    have : ((10 ^ k : Nat) : Int) = 10 ^ k := by simp
    omega) hk
set_option maxHeartbeats 2000000 in
theorem power1_ok  : Fun Tryz.prog 128 [I 1] (I 10) := by
  refine enterFun Tryz.func128 rfl Tryz.ntmps128 rfl (fun W0 w a hm h => ?_)
  repeat' (first | refine c_seq ?_ | refine c_region ?_ | refine c_nil ?_ | refine k_then ?_ | refine k_thenL ?_ | refine k_thenE ?_ | refine k_inN ?_ | refine k_inE ?_ | refine c_skip ?_ | refine c_ret ?_ | refine c_exit ?_ | refine c_block ?_ | refine r_succ ?_ | refine c_condT h rfl ?_ | refine c_condF h rfl ?_ | (refine c_rounds 2 ?_) | ((refine st_op rfl rfl h ?_); clear h a; (first | (show Does _ (.move _) _ _ _ _; refine does_move rfl ?_) | (show Does _ (.assign _) _ _ _ _; refine does_assign rfl ?_) | (show Does _ (.binOp _ _ _ _ _) _ _ _ _; (first | refine does_lssT rfl rfl (by omega) ?_ | refine does_lssF rfl rfl (by omega) ?_ | refine does_mul rfl rfl (mul_in (by omega) (by omega)) ?_ | refine does_add rfl rfl (by omega) ?_))); intro a h; (try simp only [Value.cells, List.toList_toArray, splice, List.set_cons_zero, List.set_cons_succ, List.drop_zero, List.drop_succ_cons, List.take_succ_cons, List.take_zero, Nat.zero_add, Nat.reduceAdd, Nat.reduceMul, Int.reduceAdd, Int.reduceToNat, Int.reduceTMod, Nat.zero_mul, Nat.one_mul, Int.toNat_natCast] at h)))
  all_goals (refine k_ret1 rfl h rfl ⟨?_, hm.below⟩)
  all_goals (rfl)
set_option maxHeartbeats 2000000 in
theorem power2_ok  : Fun Tryz.prog 128 [I 2] (I 100) := by
  refine enterFun Tryz.func128 rfl Tryz.ntmps128 rfl (fun W0 w a hm h => ?_)
  repeat' (first | refine c_seq ?_ | refine c_region ?_ | refine c_nil ?_ | refine k_then ?_ | refine k_thenL ?_ | refine k_thenE ?_ | refine k_inN ?_ | refine k_inE ?_ | refine c_skip ?_ | refine c_ret ?_ | refine c_exit ?_ | refine c_block ?_ | refine r_succ ?_ | refine c_condT h rfl ?_ | refine c_condF h rfl ?_ | (refine c_rounds 3 ?_) | ((refine st_op rfl rfl h ?_); clear h a; (first | (show Does _ (.move _) _ _ _ _; refine does_move rfl ?_) | (show Does _ (.assign _) _ _ _ _; refine does_assign rfl ?_) | (show Does _ (.binOp _ _ _ _ _) _ _ _ _; (first | refine does_lssT rfl rfl (by omega) ?_ | refine does_lssF rfl rfl (by omega) ?_ | refine does_mul rfl rfl (mul_in (by omega) (by omega)) ?_ | refine does_add rfl rfl (by omega) ?_))); intro a h; (try simp only [Value.cells, List.toList_toArray, splice, List.set_cons_zero, List.set_cons_succ, List.drop_zero, List.drop_succ_cons, List.take_succ_cons, List.take_zero, Nat.zero_add, Nat.reduceAdd, Nat.reduceMul, Int.reduceAdd, Int.reduceToNat, Int.reduceTMod, Nat.zero_mul, Nat.one_mul, Int.toNat_natCast] at h)))
  all_goals (refine k_ret1 rfl h rfl ⟨?_, hm.below⟩)
  all_goals (rfl)
set_option maxHeartbeats 2000000 in
theorem power3_ok  : Fun Tryz.prog 128 [I 3] (I 1000) := by
  refine enterFun Tryz.func128 rfl Tryz.ntmps128 rfl (fun W0 w a hm h => ?_)
  repeat' (first | refine c_seq ?_ | refine c_region ?_ | refine c_nil ?_ | refine k_then ?_ | refine k_thenL ?_ | refine k_thenE ?_ | refine k_inN ?_ | refine k_inE ?_ | refine c_skip ?_ | refine c_ret ?_ | refine c_exit ?_ | refine c_block ?_ | refine r_succ ?_ | refine c_condT h rfl ?_ | refine c_condF h rfl ?_ | (refine c_rounds 4 ?_) | ((refine st_op rfl rfl h ?_); clear h a; (first | (show Does _ (.move _) _ _ _ _; refine does_move rfl ?_) | (show Does _ (.assign _) _ _ _ _; refine does_assign rfl ?_) | (show Does _ (.binOp _ _ _ _ _) _ _ _ _; (first | refine does_lssT rfl rfl (by omega) ?_ | refine does_lssF rfl rfl (by omega) ?_ | refine does_mul rfl rfl (mul_in (by omega) (by omega)) ?_ | refine does_add rfl rfl (by omega) ?_))); intro a h; (try simp only [Value.cells, List.toList_toArray, splice, List.set_cons_zero, List.set_cons_succ, List.drop_zero, List.drop_succ_cons, List.take_succ_cons, List.take_zero, Nat.zero_add, Nat.reduceAdd, Nat.reduceMul, Int.reduceAdd, Int.reduceToNat, Int.reduceTMod, Nat.zero_mul, Nat.one_mul, Int.toNat_natCast] at h)))
  all_goals (refine k_ret1 rfl h rfl ⟨?_, hm.below⟩)
  all_goals (rfl)
set_option maxHeartbeats 4000000 in
theorem pad_ok (f : Int) (k : Nat) (hf : 0 ≤ f ∧ f ≤ 1000) (hk : 1 ≤ k ∧ k ≤ 4) (hl : (Lib.itoa f).length ≤ k) : Fun Tryz.prog 109 [I f, .int .i64 k] (.string (bs (padT k f))) := by
  refine enterFun Tryz.func109 rfl Tryz.ntmps109 rfl (fun W0 w a hm h => ?_)
  repeat' (first | refine c_seq ?_ | refine c_region ?_ | refine c_nil ?_ | refine k_then ?_ | refine c_block ?_ | ((refine st_op rfl rfl h ?_); clear h a; (first | (show Does _ (.call _) _ _ _ _; (((refine does_funM hm en15 rfl (sFormatInt_ok f (by omega)) ?_; clear hm; intro w hm)))) | (show Does _ (.move _) _ _ _ _; refine does_move rfl ?_) | (show Does _ (.assign _) _ _ _ _; refine does_assign rfl ?_)); intro a h; (try simp only [Value.cells, List.toList_toArray, splice, List.set_cons_zero, List.set_cons_succ, List.drop_zero, List.drop_succ_cons, List.take_succ_cons, List.take_zero, Nat.zero_add, Nat.reduceAdd, Nat.reduceMul, Int.reduceAdd, Int.reduceToNat, Int.reduceTMod, Nat.zero_mul, Nat.one_mul, Int.toNat_natCast] at h)))
  refine c_loop (σ := Nat) (fun z a w => z + (Lib.itoa f).length ≤ k ∧ Mem W0 [] (fun b => W0.heap[b]?) [] w ∧ Holds [(1, .int .i64 k), (5, .string (bs (List.replicate z 48 ++ Lib.itoa f)))] _ a) (fun z => k - z) 0
    ⟨by omega, hm, h.keep ⟨rfl, rfl, trivial⟩⟩ ?_
  clear h hm
  rintro z a w ⟨hz, hm, h⟩
  have hsz : (bs (List.replicate z 48 ++ Lib.itoa f)).size = _ := bs_size (List.replicate z 48 ++ Lib.itoa f)
  rw [List.length_append, List.length_replicate] at hsz
  have hs1 : (⟨#[48]⟩ : ByteArray).size = 1 := rfl
  by_cases hlt : z + (Lib.itoa f).length < k
  · repeat' (first | refine c_seq ?_ | refine c_region ?_ | refine c_nil ?_ | refine k_then ?_ | refine k_inN ?_ | refine c_skip ?_ | refine c_block ?_ | refine c_condT h rfl ?_ | ((refine st_op rfl rfl h ?_); clear h a; (first | (show Does _ (.binOp _ _ _ _ _) _ _ _ _; (first | ((refine does_addStr rfl rfl (by omega) ?_)) | refine does_lssT rfl rfl (by omega) ?_)) | (show Does _ (.move _) _ _ _ _; refine does_move rfl ?_) | (show Does _ (.assign _) _ _ _ _; refine does_assign rfl ?_) | (show Does _ (.call _) _ _ _ _; refine does_lenStr (StrT.out) rfl ?_)); intro a h; (try simp only [Value.cells, List.toList_toArray, splice, List.set_cons_zero, List.set_cons_succ, List.drop_zero, List.drop_succ_cons, List.take_succ_cons, List.take_zero, Nat.zero_add, Nat.reduceAdd, Nat.reduceMul, Int.reduceAdd, Int.reduceToNat, Int.reduceTMod, Nat.zero_mul, Nat.one_mul, Int.toNat_natCast] at h)))
    have e : (⟨#[48]⟩ : ByteArray) ++ bs (List.replicate z 48 ++ Lib.itoa f) = bs (List.replicate (z + 1) 48 ++ Lib.itoa f) := by
      rw [show (⟨#[48]⟩ : ByteArray) = bs [48] from rfl, bs_append, List.replicate_succ]
      rfl
    rw [e] at h
    exact k_thenN ⟨z + 1, ⟨by omega, hm, h.keep ⟨rfl, rfl, trivial⟩⟩, by omega⟩
  · repeat' (first | refine c_seq ?_ | refine c_region ?_ | refine c_nil ?_ | refine k_then ?_ | refine k_thenE ?_ | refine k_inE ?_ | refine c_ret ?_ | refine c_exit ?_ | refine c_condF h rfl ?_ | ((refine st_op rfl rfl h ?_); clear h a; (first | (show Does _ (.move _) _ _ _ _; refine does_move rfl ?_) | (show Does _ (.assign _) _ _ _ _; refine does_assign rfl ?_) | (show Does _ (.binOp _ _ _ _ _) _ _ _ _; (refine does_lssF rfl rfl (by omega) ?_)) | (show Does _ (.call _) _ _ _ _; refine does_lenStr (StrT.out) rfl ?_)); intro a h; (try simp only [Value.cells, List.toList_toArray, splice, List.set_cons_zero, List.set_cons_succ, List.drop_zero, List.drop_succ_cons, List.take_succ_cons, List.take_zero, Nat.zero_add, Nat.reduceAdd, Nat.reduceMul, Int.reduceAdd, Int.reduceToNat, Int.reduceTMod, Nat.zero_mul, Nat.one_mul, Int.toNat_natCast] at h)))
    (refine k_ret1 rfl h rfl ⟨?_, hm.below⟩)
    rw [padT, show k - (Lib.itoa f).length = z by omega]
theorem addStr_sz {a : List UInt8} {k : Nat} (h : a.length ≤ k) : (bs a).size ≤ k := by
  have : (bs a).size = _ := bs_size a
  omega
theorem padT_len {k : Nat} {f : Int} (h : (Lib.itoa f).length ≤ k) : (padT k f).length = k := by
  rw [padT, List.length_append, List.length_replicate]
  omega
set_option maxHeartbeats 8000000 in
theorem sFormatNumber_ok (n : Int) (hn : 0 ≤ n ∧ n ≤ 2559999) : Fun Tryz.prog 81 [I n] (.string (bs (numT n))) := by
  have hqs : (iTx (n / 256)).size ≤ 6 := addStr_sz (itoa_small (k := 6) (by omega) (by omega) (by omega))
  have h46 : (⟨#[46]⟩ : ByteArray).size = 1 := rfl
  have hq2 := ByteArray.size_append (a := iTx (n / 256)) (b := ⟨#[46]⟩)
  obtain ⟨r, hrr⟩ : ∃ r, r = n % 256 := ⟨_, rfl⟩
  have hrb : 0 ≤ r ∧ r ≤ 255 := by omega
  have hq := sFormatInt_ok (n / 256) (by omega)
  refine enterFun Tryz.func81 rfl Tryz.ntmps81 rfl (fun W0 w a hm h => ?_)
  rw [numT, if_pos hn, ← hrr, fracT]
  by_cases hr : r = 0
  · rw [if_pos hr]
    repeat' (first | refine c_seq ?_ | refine c_region ?_ | refine c_nil ?_ | refine k_then ?_ | refine k_thenR ?_ | refine c_skip ?_ | refine c_ret ?_ | refine c_condT h rfl ?_ | refine c_condF h rfl ?_ | ((refine st_op rfl rfl h ?_); clear h a; (first | (show Does _ (.binOp _ _ _ _ _) _ _ _ _; (first | ((refine does_quoZ rfl rfl (by omega) ?_)) | ((refine does_remR r rfl rfl ⟨by omega, hrr⟩ ?_)) | refine does_eqlT rfl rfl (by omega) ?_)) | (show Does _ (.call _) _ _ _ _; (first | ((refine does_funM hm en42 rfl (sIn_y _ _ _ hn) ?_; clear hm; intro w hm)) | ((refine does_funM hm en15 rfl hq ?_; clear hm; intro w hm)))) | (show Does _ (.move _) _ _ _ _; refine does_move rfl ?_) | (show Does _ (.assign _) _ _ _ _; refine does_assign rfl ?_) | (show Does _ (.unOp _ _ _) _ _ _ _; (refine does_not rfl ?_))); intro a h; (try simp only [Value.cells, List.toList_toArray, splice, List.set_cons_zero, List.set_cons_succ, List.drop_zero, List.drop_succ_cons, List.take_succ_cons, List.take_zero, Nat.zero_add, Nat.reduceAdd, Nat.reduceMul, Int.reduceAdd, Int.reduceToNat, Int.reduceTMod, Nat.zero_mul, Nat.one_mul, Int.toNat_natCast] at h)))
    (refine k_ret1 rfl h rfl ⟨?_, hm.below⟩)
    rfl
  · rw [if_neg hr]
    by_cases h1 : c1N r
    · rw [if_pos h1]
      · have h1' := h1
        unfold c1N at h1'
        have hfb : 0 ≤ (r * 10 + 255) / 256 ∧ (r * 10 + 255) / 256 < 10 := by omega
        have hil : (Lib.itoa ((r * 10 + 255) / 256)).length ≤ 1 := itoa_small hfb.1 (by omega) (by omega)
        have hps : (bs (padT 1 ((r * 10 + 255) / 256))).size ≤ 1 := addStr_sz (Nat.le_of_eq (padT_len hil))
        repeat' (first | refine c_seq ?_ | refine c_region ?_ | refine c_nil ?_ | refine k_then ?_ | refine k_thenR ?_ | refine k_inR ?_ | refine c_skip ?_ | refine c_ret ?_ | refine c_block ?_ | refine r_succ ?_ | refine c_condT h rfl ?_ | refine c_condF h rfl ?_ | (refine c_rounds 1 ?_) | ((refine st_op rfl rfl h ?_); clear h a; (first | (show Does _ (.binOp _ _ _ _ _) _ _ _ _; (first | ((refine does_mulR 10 rfl rfl (by omega) ?_)) | ((refine does_quoZ rfl rfl (by omega) ?_)) | ((refine does_remR r rfl rfl ⟨by omega, hrr⟩ ?_)) | ((refine does_addStr rfl rfl (by omega) ?_)) | refine does_lssT rfl rfl (by omega) ?_ | refine does_leqT rfl rfl (by omega) ?_ | refine does_eqlT rfl rfl (by omega) ?_ | refine does_eqlF rfl rfl (by omega) ?_ | refine does_mul rfl rfl (mul_in (by omega) (by omega)) ?_ | refine does_add rfl rfl (by omega) ?_)) | (show Does _ (.call _) _ _ _ _; (first | ((refine does_funM hm en42 rfl (sIn_y _ _ _ hn) ?_; clear hm; intro w hm)) | ((refine does_funM hm en15 rfl hq ?_; clear hm; intro w hm)) | ((refine does_funM hm en109 rfl (pad_ok ((r * 10 + 255) / 256) 1 (by omega) (by omega) hil) ?_; clear hm; intro w hm)))) | (show Does _ (.move _) _ _ _ _; refine does_move rfl ?_) | (show Does _ (.assign _) _ _ _ _; refine does_assign rfl ?_) | (show Does _ (.pick _ _ _) _ _ _ _; (refine does_pickT rfl rfl ?_)) | (show Does _ (.unOp _ _ _) _ _ _ _; (refine does_not rfl ?_))); intro a h; (try simp only [Value.cells, List.toList_toArray, splice, List.set_cons_zero, List.set_cons_succ, List.drop_zero, List.drop_succ_cons, List.take_succ_cons, List.take_zero, Nat.zero_add, Nat.reduceAdd, Nat.reduceMul, Int.reduceAdd, Int.reduceToNat, Int.reduceTMod, Nat.zero_mul, Nat.one_mul, Int.toNat_natCast] at h)))
        all_goals first | (exfalso; omega) | skip
        all_goals (refine k_ret1 rfl h rfl ⟨?_, hm.below⟩)
        all_goals rw [← bs_append, ← bs_append]
    · rw [if_neg h1]
      have h1' := h1
      unfold c1N at h1'
      by_cases h2 : c2N r
      · rw [if_pos h2]
        have h2' := h2
        unfold c2N at h2'
        have hfb : 0 ≤ (r * 100 + 255) / 256 ∧ (r * 100 + 255) / 256 < 100 := by omega
        have hil : (Lib.itoa ((r * 100 + 255) / 256)).length ≤ 2 := itoa_small hfb.1 (by omega) (by omega)
        have hps : (bs (padT 2 ((r * 100 + 255) / 256))).size ≤ 2 := addStr_sz (Nat.le_of_eq (padT_len hil))
        repeat' (first | refine c_seq ?_ | refine c_region ?_ | refine c_nil ?_ | refine k_then ?_ | refine k_thenL ?_ | refine k_thenR ?_ | refine k_inN ?_ | refine k_inR ?_ | refine c_skip ?_ | refine c_ret ?_ | refine c_block ?_ | refine r_succ ?_ | refine c_condT h rfl ?_ | refine c_condF h rfl ?_ | (refine c_rounds 2 ?_) | ((refine st_op rfl rfl h ?_); clear h a; (first | (show Does _ (.binOp _ _ _ _ _) _ _ _ _; (first | ((refine does_mulR 10 rfl rfl (by omega) ?_)) | ((refine does_mulR 100 rfl rfl (by omega) ?_)) | ((refine does_quoZ rfl rfl (by omega) ?_)) | ((refine does_remR r rfl rfl ⟨by omega, hrr⟩ ?_)) | ((refine does_addStr rfl rfl (by omega) ?_)) | refine does_lssT rfl rfl (by omega) ?_ | refine does_lss rfl rfl ?_ | refine does_leqT rfl rfl (by omega) ?_ | refine does_eqlT rfl rfl (by omega) ?_ | refine does_eqlF rfl rfl (by omega) ?_ | refine does_mul rfl rfl (mul_in (by omega) (by omega)) ?_ | refine does_add rfl rfl (by omega) ?_)) | (show Does _ (.call _) _ _ _ _; (first | ((refine does_funM hm en42 rfl (sIn_y _ _ _ hn) ?_; clear hm; intro w hm)) | ((refine does_funM hm en15 rfl hq ?_; clear hm; intro w hm)) | ((refine does_funM hm en109 rfl (pad_ok ((r * 100 + 255) / 256) 2 (by omega) (by omega) hil) ?_; clear hm; intro w hm)))) | (show Does _ (.move _) _ _ _ _; refine does_move rfl ?_) | (show Does _ (.assign _) _ _ _ _; refine does_assign rfl ?_) | (show Does _ (.pick _ _ _) _ _ _ _; (first | refine does_pickT rfl rfl ?_ | refine does_pickF rfl rfl ?_)) | (show Does _ (.unOp _ _ _) _ _ _ _; (refine does_not rfl ?_))); intro a h; (try simp only [Value.cells, List.toList_toArray, splice, List.set_cons_zero, List.set_cons_succ, List.drop_zero, List.drop_succ_cons, List.take_succ_cons, List.take_zero, Nat.zero_add, Nat.reduceAdd, Nat.reduceMul, Int.reduceAdd, Int.reduceToNat, Int.reduceTMod, Nat.zero_mul, Nat.one_mul, Int.toNat_natCast] at h)) | ((refine st_skip rfl rfl h ?_); clear h a; intro a h) | (refine st_guardD rfl rfl h ?_ ?_ <;> clear h <;> intro hc h))
        all_goals first | (exfalso; omega) | skip
        all_goals (refine k_ret1 rfl h rfl ⟨?_, hm.below⟩)
        all_goals rw [← bs_append, ← bs_append]
      · rw [if_neg h2]
        have h2' := h2
        unfold c2N at h2'
        have hfb : 0 ≤ (r * 1000 + 255) / 256 ∧ (r * 1000 + 255) / 256 < 1000 := by omega
        have hil : (Lib.itoa ((r * 1000 + 255) / 256)).length ≤ 3 := itoa_small hfb.1 (by omega) (by omega)
        have hps : (bs (padT 3 ((r * 1000 + 255) / 256))).size ≤ 3 := addStr_sz (Nat.le_of_eq (padT_len hil))
        repeat' (first | refine c_seq ?_ | refine c_region ?_ | refine c_nil ?_ | refine k_then ?_ | refine k_thenL ?_ | refine k_thenR ?_ | refine k_inN ?_ | refine k_inR ?_ | refine c_skip ?_ | refine c_ret ?_ | refine c_block ?_ | refine r_succ ?_ | refine c_condT h rfl ?_ | refine c_condF h rfl ?_ | (refine c_rounds 3 ?_) | ((refine st_op rfl rfl h ?_); clear h a; (first | (show Does _ (.binOp _ _ _ _ _) _ _ _ _; (first | ((refine does_mulR 10 rfl rfl (by omega) ?_)) | ((refine does_mulR 100 rfl rfl (by omega) ?_)) | ((refine does_mulR 1000 rfl rfl (by omega) ?_)) | ((refine does_quoZ rfl rfl (by omega) ?_)) | ((refine does_remR r rfl rfl ⟨by omega, hrr⟩ ?_)) | ((refine does_addStr rfl rfl (by omega) ?_)) | refine does_lssT rfl rfl (by omega) ?_ | refine does_lss rfl rfl ?_ | refine does_leqT rfl rfl (by omega) ?_ | refine does_eqlT rfl rfl (by omega) ?_ | refine does_eqlF rfl rfl (by omega) ?_ | refine does_mul rfl rfl (mul_in (by omega) (by omega)) ?_ | refine does_add rfl rfl (by omega) ?_)) | (show Does _ (.call _) _ _ _ _; (first | ((refine does_funM hm en42 rfl (sIn_y _ _ _ hn) ?_; clear hm; intro w hm)) | ((refine does_funM hm en15 rfl hq ?_; clear hm; intro w hm)) | ((refine does_funM hm en109 rfl (pad_ok ((r * 1000 + 255) / 256) 3 (by omega) (by omega) hil) ?_; clear hm; intro w hm)))) | (show Does _ (.move _) _ _ _ _; refine does_move rfl ?_) | (show Does _ (.assign _) _ _ _ _; refine does_assign rfl ?_) | (show Does _ (.pick _ _ _) _ _ _ _; (first | refine does_pickT rfl rfl ?_ | refine does_pickF rfl rfl ?_)) | (show Does _ (.unOp _ _ _) _ _ _ _; (refine does_not rfl ?_))); intro a h; (try simp only [Value.cells, List.toList_toArray, splice, List.set_cons_zero, List.set_cons_succ, List.drop_zero, List.drop_succ_cons, List.take_succ_cons, List.take_zero, Nat.zero_add, Nat.reduceAdd, Nat.reduceMul, Int.reduceAdd, Int.reduceToNat, Int.reduceTMod, Nat.zero_mul, Nat.one_mul, Int.toNat_natCast] at h)) | ((refine st_skip rfl rfl h ?_); clear h a; intro a h) | (refine st_guardD rfl rfl h ?_ ?_ <;> clear h <;> intro hc h))
        all_goals first | (exfalso; omega) | skip
        all_goals (refine k_ret1 rfl h rfl ⟨?_, hm.below⟩)
        all_goals rw [← bs_append, ← bs_append]
end Go.Proofs.YtgmonjghbjaadaaGreatDoor.St
end
