/-
  Contracts of the functions that draw a source: some text, not too long.
-/
import Derived.Test.YtcbnegmmjflmcaaGreatJ12
import Derived.Test.YtcbnegmmjflmcaaGreatJ13
import Derived.Laws.Slices
import Derived.Laws.DeepStrings4

section
set_option linter.unusedSimpArgs false
set_option linter.unusedVariables false
namespace Go.Proofs.YtcbnegmmjflmcaaGreat.St
open Go.RowKit
def szE : Nat → Nat
  | 0 => 20
  | d + 1 => 2 * szE d + 64
theorem szE_bd (d : Nat) (hd : d ≤ 3) : 20 ≤ szE d ∧ szE d ≤ 608 := by
  match d, hd with
  | 0, _ => exact ⟨by decide, by decide⟩
  | 1, _ => exact ⟨by decide, by decide⟩
  | 2, _ => exact ⟨by decide, by decide⟩
  | 3, _ => exact ⟨by decide, by decide⟩
abbrev l14L : List ByteArray := [⟨#[117]⟩, ⟨#[118]⟩, ⟨#[120]⟩, ⟨#[121]⟩, ⟨#[122]⟩, ⟨#[116]⟩, ⟨#[49]⟩, ⟨#[48, 46, 53]⟩, ⟨#[50]⟩, ⟨#[48, 46, 50, 53]⟩]
theorem l14L_bd : ∀ s ∈ l14L, 1 ≤ s.size ∧ s.size ≤ 4 := by
  intro s hs
  simp only [List.mem_cons, List.not_mem_nil, or_false] at hs
  rcases hs with rfl | rfl | rfl | rfl | rfl | rfl | rfl | rfl | rfl | rfl <;> decide
set_option maxHeartbeats 16000000 in
theorem l14Expr_ok (b : Nat) (p : Option Addr) (bs : List Int) (c : Nat) (hbs : bytesOk bs) (hl : bs.length ≤ 1048576) (d : Nat) : d ≤ 3 → ∀ (i : Nat) (h : Int) (hi : i ≤ bs.length),
    FunU Tryz.prog 84 [.pointer (some ⟨b, 0, none⟩), .int .i64 d] b curT (curC p bs.length c i h) (fun H => Sl H p eB 1 bs) (curR p bs.length c (strR 1 (szE d))) := by
  induction d with
  | zero =>
    intro hd i h hi
    refine enterFunU Tryz.func84 rfl Tryz.ntmps84 rfl (fun W0 w a hp hm h => ?_)
    repeat' (first | refine c_seq ?_ | refine c_region ?_ | refine c_nil ?_ | refine k_then ?_ | refine k_thenR ?_ | refine c_ret ?_ | refine c_condT h rfl ?_ | ((refine st_op rfl rfl h ?_); clear h a; (first | (show Does _ (.call _) _ _ _ _; (((refine does_funU 1 hm en99 rfl rfl (l01Str_ok _ _ _ _ _ _ _ l14L 1 4 (by assumption) (by omega) (by omega) ⟨by decide, by decide⟩ l14L_bd) ⟨Sl.mono (by assumption) (le_hole (i := 1) hm rfl), sl_hole (i := 1) (j := 0) hm rfl rfl (by omega)⟩ ?_; clear hm; rintro v cs1 L1 w ⟨⟨s1, rfl, hs1⟩, ⟨i1, h1, rfl, hi1⟩, rfl⟩ hm; simp only [List.cons_append, List.nil_append, List.set_cons_zero, List.set_cons_succ] at hm)))) | (show Does _ (.buildSlice _ _ _) _ _ _ _; (refine does_buildSlice hm rfl rfl rfl ?_; clear hm; intro b w hm; (simp only [rep, nqr, Value.cells, splice, nqq, Nat.reduceAdd, Nat.reduceMul, Int.reduceAdd, Int.reduceToNat] at hm))) | (show Does _ (.move _) _ _ _ _; refine does_move rfl ?_) | (show Does _ (.assign _) _ _ _ _; refine does_assign rfl ?_) | (show Does _ (.pick _ _ _) _ _ _ _; (refine does_pickT rfl rfl ?_)) | (show Does _ (.binOp _ _ _ _ _) _ _ _ _; (refine does_leqT rfl rfl (by omega) ?_))); intro a h) | ((refine st_skip rfl rfl h ?_); clear h a; intro a h))
    exact k_ret1 rfl h rfl ⟨_, [], ⟨⟨_, rfl, by omega, by have : szE 0 = 20 := rfl; omega⟩, ⟨_, _, rfl, by omega⟩, rfl⟩, hm.drop⟩
  | succ d ih =>
    intro hd i h hi
    have hsz : szE (d + 1) = 2 * szE d + 64 := rfl
    have hbd := szE_bd d (by omega)
    have hih := ih (by omega)
    refine enterFunU Tryz.func84 rfl Tryz.ntmps84 rfl (fun W0 w a hp hm h => ?_)
    rw [show ((d + 1 : Nat) : Int) = (d : Int) + 1 from rfl] at h
    repeat' (first | refine c_seq ?_ | refine c_region ?_ | refine c_nil ?_ | refine k_then ?_ | refine k_thenR ?_ | refine k_inN ?_ | refine k_inR ?_ | refine c_skip ?_ | refine c_ret ?_ | refine c_block ?_ | ((refine st_op rfl rfl h ?_); clear h a; (first | (show Does _ (.call _) _ _ _ _; (first | ((refine does_funU 1 hm en99 rfl rfl (l01Str_ok _ _ _ _ _ _ _ l14L 1 4 (by assumption) (by omega) (by omega) ⟨by decide, by decide⟩ l14L_bd) ⟨Sl.mono (by assumption) (le_hole (i := 1) hm rfl), sl_hole (i := 1) (j := 0) hm rfl rfl (by omega)⟩ ?_; clear hm; rintro v cs1 L1 w ⟨⟨s1, rfl, hs1⟩, ⟨i1, h1, rfl, hi1⟩, rfl⟩ hm; simp only [List.cons_append, List.nil_append, List.set_cons_zero, List.set_cons_succ] at hm)) | ((refine does_funU 0 hm en84 rfl rfl (hih _ _ (by assumption)) (Sl.mono (by assumption) (le_hole (i := 0) hm rfl)) ?_; clear hm; rintro v cs1 L1 w ⟨⟨s1, rfl, hs1, hs2⟩, ⟨i1, h1, rfl, hi1⟩, rfl⟩ hm; simp only [List.cons_append, List.nil_append, List.set_cons_zero, List.set_cons_succ] at hm)) | (refine does_funU 0 hm en49 rfl rfl (l01Once_ok _ _ _ _ _ _ _ (by assumption) (by omega) (by omega) (by omega)) (by first | exact Sl.mono (by assumption) (le_hole (i := 0) hm rfl) | trivial) ?_; clear hm; rintro v cs1 L1 w ⟨⟨zb, rfl⟩, ⟨i1, h1, rfl, hi1⟩, rfl⟩ hm; simp only [List.cons_append, List.nil_append, List.set_cons_zero, List.set_cons_succ] at hm) | (refine does_funU 0 hm en28 rfl rfl (l01Below_ok _ _ _ _ _ _ _ (by assumption) (by omega) (by omega) (by omega)) (by first | exact Sl.mono (by assumption) (le_hole (i := 0) hm rfl) | trivial) ?_; clear hm; rintro v cs1 L1 w ⟨⟨x, rfl, hx1, hx2⟩, ⟨i1, h1, rfl, hi1⟩, rfl⟩ hm; simp only [List.cons_append, List.nil_append, List.set_cons_zero, List.set_cons_succ] at hm))) | (show Does _ (.binOp _ _ _ _ _) _ _ _ _; (first | ((refine does_subTo (u := (d : Int)) rfl rfl (by omega) (by omega) ?_)) | ((refine does_addStrA rfl rfl (by first | exact litZ (k := 16) (by decide) | assumption) (by first | exact litZ (k := 16) (by decide) | assumption) (by first | exact litL (k := 1) (by decide) | assumption | exact Nat.zero_le _) (by first | exact litL (k := 1) (by decide) | assumption | exact Nat.zero_le _) (by omega) ?_; rintro s1 ⟨hs1, hs2⟩)) | refine does_leqF rfl rfl (by omega) ?_ | refine does_eql rfl rfl ?_)) | (show Does _ (.buildSlice _ _ _) _ _ _ _; (refine does_buildSlice hm rfl rfl rfl ?_; clear hm; intro b w hm; (simp only [rep, nqr, Value.cells, splice, nqq, Nat.reduceAdd, Nat.reduceMul, Int.reduceAdd, Int.reduceToNat] at hm))) | (show Does _ (.move _) _ _ _ _; refine does_move rfl ?_) | (show Does _ (.assign _) _ _ _ _; refine does_assign rfl ?_) | (show Does _ (.pick _ _ _) _ _ _ _; (refine does_pickF rfl rfl ?_))); intro a h) | ((first | refine c_condD h rfl ?_ ?_ | refine c_cond h rfl ?_ ?_) <;> intro hc <;> (skip)))
    all_goals first
      | exact k_ret1 rfl h rfl ⟨_, [], ⟨⟨_, rfl, by omega, by omega⟩, ⟨_, _, rfl, by omega⟩, rfl⟩, hm⟩
      | exact k_ret1 rfl h rfl ⟨_, [], ⟨⟨_, rfl, by omega, by omega⟩, ⟨_, _, rfl, by omega⟩, rfl⟩, hm.drop⟩
set_option maxHeartbeats 8000000 in
theorem l14Source_ok (b : Nat) (p : Option Addr) (bs : List Int) (c i : Nat) (h : Int) (hbs : bytesOk bs) (hl : bs.length ≤ 1048576) (hi : i ≤ bs.length) :
    FunU Tryz.prog 67 [.pointer (some ⟨b, 0, none⟩)] b curT (curC p bs.length c i h) (fun H => Sl H p eB 1 bs) (curR p bs.length c (strR 1 2000)) := by
  have hz2 : szE 2 = 272 := rfl
  have hz3 : szE 3 = 608 := rfl
  have hz1 : szE 1 = 104 := rfl
  have hE := fun d => l14Expr_ok b p bs c hbs hl d
  refine enterFunU Tryz.func67 rfl Tryz.ntmps67 rfl (fun W0 w a hp hm h => ?_)
  repeat' (first | refine c_seq ?_ | refine c_region ?_ | refine c_nil ?_ | refine k_then ?_ | refine c_skip ?_ | refine c_ret ?_ | ((refine st_op rfl rfl h ?_); clear h a; (first | (show Does _ (.call _) _ _ _ _; (first | ((refine does_funU 0 hm en49 rfl rfl (l01Once_ok _ _ _ _ _ _ _ (by assumption) (by omega) (by omega) (by omega)) (Sl.mono (by assumption) (le_hole (i := 0) hm rfl)) ?_; clear hm; rintro v cs1 L1 w ⟨⟨zb, rfl⟩, ⟨i1, h1, rfl, hi1⟩, rfl⟩ hm; simp only [List.cons_append, List.nil_append, List.set_cons_zero, List.set_cons_succ] at hm)) | ((refine does_funU 0 hm en84 rfl rfl (hE 2 (by omega) _ _ (by assumption)) (Sl.mono (by assumption) (le_hole (i := 0) hm rfl)) ?_; clear hm; rintro v cs1 L1 w ⟨⟨s1, rfl, hs1, hs2⟩, ⟨i1, h1, rfl, hi1⟩, rfl⟩ hm; simp only [List.cons_append, List.nil_append, List.set_cons_zero, List.set_cons_succ] at hm)) | ((refine does_funU 0 hm en84 rfl rfl (hE 3 (by omega) _ _ (by assumption)) (Sl.mono (by assumption) (le_hole (i := 0) hm rfl)) ?_; clear hm; rintro v cs1 L1 w ⟨⟨s1, rfl, hs1, hs2⟩, ⟨i1, h1, rfl, hi1⟩, rfl⟩ hm; simp only [List.cons_append, List.nil_append, List.set_cons_zero, List.set_cons_succ] at hm)) | ((refine does_funU 0 hm en84 rfl rfl (hE 1 (by omega) _ _ (by assumption)) (Sl.mono (by assumption) (le_hole (i := 0) hm rfl)) ?_; clear hm; rintro v cs1 L1 w ⟨⟨s1, rfl, hs1, hs2⟩, ⟨i1, h1, rfl, hi1⟩, rfl⟩ hm; simp only [List.cons_append, List.nil_append, List.set_cons_zero, List.set_cons_succ] at hm)))) | (show Does _ (.index _ _ _) _ _ _ _; (((refine does_strIdx (show 0 ≤ (0 : Int) ∧ (0 : Int) < _ from ⟨by omega, by omega⟩) rfl rfl ?_)))) | (show Does _ (.binOp _ _ _ _ _) _ _ _ _; (first | ((refine does_addStrA rfl rfl (by first | exact litZ (k := 16) (by decide) | assumption) (by first | exact litZ (k := 16) (by decide) | assumption) (by first | exact litL (k := 1) (by decide) | assumption | exact Nat.zero_le _) (by first | exact litL (k := 1) (by decide) | assumption | exact Nat.zero_le _) (by omega) ?_; rintro s1 ⟨hs1, hs2⟩)) | refine does_eql rfl rfl ?_)) | (show Does _ (.move _) _ _ _ _; refine does_move rfl ?_) | (show Does _ (.assign _) _ _ _ _; refine does_assign rfl ?_)); intro a h; (first | simp only [Value.cells, splice, nqq, Nat.reduceAdd, Nat.reduceMul, Int.reduceAdd, Int.reduceToNat, Int.reduceTMod] at h | skip)) | ((first | refine c_condD h rfl ?_ ?_ | refine c_cond h rfl ?_ ?_) <;> intro hc <;> (skip)))
  all_goals exact k_ret1 rfl h rfl ⟨_, [], ⟨⟨_, rfl, by omega, by omega⟩, ⟨_, _, rfl, by omega⟩, rfl⟩, hm⟩
end Go.Proofs.YtcbnegmmjflmcaaGreat.St
end

section
/-
  Parts of strings.
-/
set_option linter.unusedSimpArgs false
set_option linter.unusedVariables false
namespace Go.Proofs.YtcbnegmmjflmcaaGreat.St
open Go.RowKit
section
variable {P : Program} {w : World} {E : Env} {Φ : Value → World → Prop} {ty t : TypeId} {x lo hi : Operand} {s : ByteArray}
theorem does_strLoHi {j j' : IntKind} (i m : Nat) (hu : P.underlying t = some .string) (hx : ev E x = some (.string s)) (hy : ev E lo = some (.int j i)) (hz : ev E hi = some (.int j' m)) (h0 : i ≤ m ∧ m ≤ s.size) (k : Φ (.string (s.extract i m)) w) : Does P (.slice t x (some lo) (some hi) none) ty E w Φ := by
  refine ⟨fun ρ hρ => ?_⟩
  have hr := run_slice_string_if (P := P) w t s j j' (i : Int) (m : Int) hu
  have : (execOp ρ (mk (.slice t x (some lo) (some hi) none) ty)).run P w = .ok (.value (.string (s.extract i m))) w := by
    simp only [execOp, mk, hρ _ _ hx, hρ _ _ hy, hρ _ _ hz, Sem.run_bind, Option.map_none, Option.map_some, run_sliceAt_string (P := P) w t _ _ _ _ hu, hr, Result.andThen_ok]
    rw [if_pos (by omega), if_pos (by omega)]
    rfl
  rw [this]; exact k
theorem does_strLoHiN {j j' : IntKind} {a b : Int} (i m : Nat) (hu : P.underlying t = some .string) (hx : ev E x = some (.string s)) (hy : ev E lo = some (.int j a)) (hz : ev E hi = some (.int j' b)) (ha : a = (i : Int)) (hb : b = (m : Int)) (h0 : i ≤ m ∧ m ≤ s.size) (k : Φ (.string (s.extract i m)) w) : Does P (.slice t x (some lo) (some hi) none) ty E w Φ := by
  subst ha hb
  exact does_strLoHi i m hu hx hy hz h0 k
end
end Go.Proofs.YtcbnegmmjflmcaaGreat.St
end
