/-
  Contracts of the functions that mark compiled code.
-/
import Derived.Test.YtbcboklmeifghaaGreatJ4
import Derived.Test.YtbcboklmeifghaaGreatJ3

section
set_option linter.unusedSimpArgs false
set_option linter.unusedVariables false
namespace Go.Proofs.YtbcboklmeifghaaGreat.St
open Go.RowKit
def mDig : Nat → Int → ByteArray → ByteArray
  | 0, _, acc => acc
  | f + 1, k, acc => if 0 < k then mDig f (k.tdiv 10) (strOfNums [48 + k.tmod 10] ++ acc) else acc
def mText (k : Int) : ByteArray := if k ≤ 0 then ⟨#[109, 48]⟩ else ⟨#[109]⟩ ++ mDig 19 k ⟨#[]⟩
theorem strOfNums_one (n : Int) : (strOfNums [n]).size = 1 := rfl
def p10 (f : Nat) : Int := 10 ^ f
theorem digs {k : Int} (h : 0 < k) {f : Nat} (hf : k < p10 f) : ∃ f', f = f' + 1 ∧ k.tdiv 10 < p10 f' ∧ 0 ≤ k.tdiv 10 ∧ 0 ≤ k.tmod 10 ∧ k.tmod 10 ≤ 9 := by
  unfold p10 at *
  cases f with
  | zero => simp at hf; omega
  | succ f =>
    refine ⟨f, rfl, ?_⟩
    have e : (10 : Int) ^ (f + 1) = 10 * 10 ^ f := by rw [Int.pow_succ, Int.mul_comm]
    rw [e] at hf
    generalize (10 : Int) ^ f = p at hf
    rw [Int.tdiv_eq_ediv_of_nonneg (by omega), Int.tmod_eq_emod_of_nonneg (by omega)]
    omega
set_option maxHeartbeats 4000000 in
theorem markText_ok (k : Int) (hk : k < 5000000000000000000) : Fun Tryz.prog 103 [I k] (.string (mText k)) := by
  refine enterFun Tryz.func103 rfl Tryz.ntmps103 rfl (fun W0 w a hm h => ?_)
  by_cases h0 : k ≤ 0
  · repeat' (first | refine c_seq ?_ | refine c_region ?_ | refine c_nil ?_ | refine k_then ?_ | refine k_thenR ?_ | refine c_ret ?_ | refine c_condT h rfl ?_ | ((refine st_op rfl rfl h ?_); clear h a; (first | (show Does _ (.move _) _ _ _ _; refine does_move rfl ?_) | (show Does _ (.assign _) _ _ _ _; refine does_assign rfl ?_) | (show Does _ (.binOp _ _ _ _ _) _ _ _ _; (refine does_leqT rfl rfl (by omega) ?_))); intro a h; (try simp only [Value.cells, List.toList_toArray, splice, List.set_cons_zero, List.set_cons_succ, List.drop_zero, List.drop_succ_cons, List.take_succ_cons, List.take_zero, Nat.zero_add, Nat.reduceAdd, Nat.reduceMul, Int.reduceAdd, Int.reduceToNat, Int.reduceTMod, Nat.zero_mul, Nat.one_mul, Int.toNat_natCast] at h)))
    (refine k_ret1 rfl h rfl ⟨?_, hm.below⟩)
    rw [mText, if_pos h0]
  · repeat' (first | refine c_seq ?_ | refine c_region ?_ | refine c_nil ?_ | refine k_then ?_ | refine c_skip ?_ | refine c_block ?_ | refine c_condF h rfl ?_ | ((refine st_op rfl rfl h ?_); clear h a; (first | (show Does _ (.move _) _ _ _ _; refine does_move rfl ?_) | (show Does _ (.assign _) _ _ _ _; refine does_assign rfl ?_) | (show Does _ (.binOp _ _ _ _ _) _ _ _ _; (refine does_leqF rfl rfl (by omega) ?_))); intro a h; (try simp only [Value.cells, List.toList_toArray, splice, List.set_cons_zero, List.set_cons_succ, List.drop_zero, List.drop_succ_cons, List.take_succ_cons, List.take_zero, Nat.zero_add, Nat.reduceAdd, Nat.reduceMul, Int.reduceAdd, Int.reduceToNat, Int.reduceTMod, Nat.zero_mul, Nat.one_mul, Int.toNat_natCast] at h)))
    refine c_loop (σ := Nat × Int × ByteArray) (fun s a w => ((0 ≤ s.2.1 ∧ s.2.1 ≤ k) ∧ s.2.1 < p10 s.1) ∧ s.2.2.size + s.1 ≤ 19 ∧ mDig s.1 s.2.1 s.2.2 = mDig 19 k ⟨#[]⟩ ∧ Mem W0 [] (fun b => W0.heap[b]?) [] w ∧ Holds [(0, I s.2.1), (3, .string s.2.2)] _ a) (fun s => s.1) (19, k, ⟨#[]⟩)
      ⟨⟨⟨by show 0 ≤ k; omega, by show k ≤ k; omega⟩, by show k < (10 : Int) ^ 19; omega⟩, Nat.le_refl 19, rfl, hm, h.keep ⟨rfl, rfl, trivial⟩⟩ ?_
    clear h hm
    rintro ⟨f, m, acc⟩ a w ⟨⟨⟨hm0, hmk⟩, hmf⟩, hsz, hd, hm, h⟩
    simp only at hm0 hmk hmf hsz hd hm h
    by_cases hlt : 0 < m
    · obtain ⟨f', rfl, h1, h2, h3, h4⟩ := digs hlt hmf
      have hs1 := strOfNums_one (48 + m.tmod 10)
      have h5 : m.tdiv 10 ≤ m := by rw [Int.tdiv_eq_ediv_of_nonneg hm0]; omega
      repeat' (first | refine c_seq ?_ | refine c_region ?_ | refine c_nil ?_ | refine k_then ?_ | refine c_skip ?_ | refine c_block ?_ | refine c_condT h rfl ?_ | ((refine st_op rfl rfl h ?_); clear h a; (first | (show Does _ (.move _) _ _ _ _; refine does_move rfl ?_) | (show Does _ (.binOp _ _ _ _ _) _ _ _ _; (first | refine does_gtrT rfl rfl (by omega) ?_ | refine does_add rfl rfl (by omega) ?_ | refine does_rem rfl rfl (by omega) ?_))); intro a h; (try simp only [Value.cells, List.toList_toArray, splice, List.set_cons_zero, List.set_cons_succ, List.drop_zero, List.drop_succ_cons, List.take_succ_cons, List.take_zero, Nat.zero_add, Nat.reduceAdd, Nat.reduceMul, Int.reduceAdd, Int.reduceToNat, Int.reduceTMod, Nat.zero_mul, Nat.one_mul, Int.toNat_natCast] at h)))
      refine st_op rfl rfl h ?_; clear h a; refine does_convU8 Tryz.underlying3 Tryz.underlying5 rfl (by omega) ?_; intro a h
      repeat' (first | refine c_region ?_ | refine c_nil ?_ | refine k_then ?_ | refine k_inN ?_ | ((refine st_op rfl rfl h ?_); clear h a; (first | (show Does _ (.convert _ _ _) _ _ _ _; ((refine does_bytes1 0 Tryz.underlying175 Tryz.underlying5 Tryz.underlying9 hm rfl rfl ?_))) | (show Does _ (.binOp _ _ _ _ _) _ _ _ _; (first | ((refine does_addStr rfl rfl (by omega) ?_)) | refine does_quo rfl rfl (by omega) ?_)) | (show Does _ (.buildSlice _ _ _) _ _ _ _; (refine does_buildSlice hm rfl rfl rfl ?_; clear hm; intro b w hm; (try simp only [rep, List.replicate_succ, List.replicate_zero, List.flatten_cons, List.flatten_nil, List.cons_append, List.nil_append, Nat.zero_mul, Nat.one_mul, Nat.reduceMul, Value.cells, List.toList_toArray, List.set_cons_zero, List.set_cons_succ, splice, Nat.zero_add, Nat.reduceAdd, Nat.reduceMul, Int.reduceAdd, Int.reduceToNat, Nat.zero_mul, Nat.one_mul, Int.toNat_natCast] at hm))) | (show Does _ (.move _) _ _ _ _; refine does_move rfl ?_) | (show Does _ (.assign _) _ _ _ _; refine does_assign rfl ?_)); intro a h; (try simp only [Value.cells, List.toList_toArray, splice, List.set_cons_zero, List.set_cons_succ, List.drop_zero, List.drop_succ_cons, List.take_succ_cons, List.take_zero, Nat.zero_add, Nat.reduceAdd, Nat.reduceMul, Int.reduceAdd, Int.reduceToNat, Int.reduceTMod, Nat.zero_mul, Nat.one_mul, Int.toNat_natCast] at h)))
      refine k_thenN ⟨(f', m.tdiv 10, strOfNums [48 + m.tmod 10] ++ acc), ⟨⟨⟨h2, by show m.tdiv 10 ≤ k; omega⟩, h1⟩, by show (strOfNums [48 + m.tmod 10] ++ acc).size + f' ≤ 19; rw [ByteArray.size_append, hs1]; omega, ?_, hm.drop, h.keep ⟨rfl, rfl, trivial⟩⟩, by show f' < f' + 1; omega⟩
      rw [← hd]
      simp only [mDig, if_pos hlt]
    · repeat' (first | refine c_seq ?_ | refine c_region ?_ | refine c_nil ?_ | refine k_then ?_ | refine k_thenE ?_ | refine k_inE ?_ | refine c_ret ?_ | refine c_exit ?_ | refine c_condF h rfl ?_ | ((refine st_op rfl rfl h ?_); clear h a; (first | (show Does _ (.binOp _ _ _ _ _) _ _ _ _; (first | ((refine does_addStr rfl rfl (by simp only [show (⟨#[109]⟩ : ByteArray).size = 1 from rfl]; omega) ?_)) | refine does_gtrF rfl rfl (by omega) ?_)) | (show Does _ (.move _) _ _ _ _; refine does_move rfl ?_) | (show Does _ (.assign _) _ _ _ _; refine does_assign rfl ?_)); intro a h; (try simp only [Value.cells, List.toList_toArray, splice, List.set_cons_zero, List.set_cons_succ, List.drop_zero, List.drop_succ_cons, List.take_succ_cons, List.take_zero, Nat.zero_add, Nat.reduceAdd, Nat.reduceMul, Int.reduceAdd, Int.reduceToNat, Int.reduceTMod, Nat.zero_mul, Nat.one_mul, Int.toNat_natCast] at h)))
      (refine k_ret1 rfl h rfl ⟨?_, hm.below⟩)
      have : mDig f m acc = acc := by cases f <;> simp [mDig, hlt]
      rw [mText, if_neg h0, ← hd, this]
def rampS (m : Int) (n : Nat) : List ByteArray := (List.range n).map fun (i : Nat) => mText (m + 1 * (i : Int))
abbrev atIns (m : Int) : TInstruction := (m, mText (m + 1), m + 1 + 1)
def rampIns (m : Int) (n : Nat) : List TInstruction := (List.range n).map fun (i : Nat) => atIns (m + 3 * (i : Int))
end Go.Proofs.YtbcboklmeifghaaGreat.St
end

section
/-
  Frozen memory that is new: what a call hands back with slices within slices.
-/
set_option linter.unusedSimpArgs false
set_option linter.unusedVariables false
namespace Go.Proofs.YtbcboklmeifghaaGreat.St
open Go.RowKit
def newPart (W0 : World) (B : Heap) : Heap := fun b => if b < W0.heap.size then none else B b
section
variable {P : Program} {E : Env} {w W0 : World} {X : List Nat} {B B' : Heap} {L : List Own} {Φ : Value → World → Prop} {ty t : TypeId} {x y : Operand}
theorem At.newPart {q : Addr} {cs : List Value} (h : At B q cs) (hb : W0.heap.size ≤ q.block) : At (newPart W0 B) q cs := by
  obtain ⟨h1, arr, T, fz, h2, h3⟩ := h
  refine ⟨h1, arr, T, fz, ?_, h3⟩
  show (if q.block < W0.heap.size then none else B q.block) = _
  rw [if_neg (by omega)]
  exact h2
theorem add_block (q : Addr) (n : Nat) : (q.add n).block = q.block := by
  unfold Addr.add
  split <;> rfl
theorem Sl.newPart {α : Type} {p : Option Addr} {enc : α → List Value} {sz : Nat} {xs : List α} (h : Sl B p enc sz xs) (hb : ∀ a, p = some a → W0.heap.size ≤ a.block) : Sl (newPart W0 B) p enc sz xs := fun i x hi => by
  obtain ⟨a, ha, hat⟩ := h i x hi
  exact ⟨a, ha, hat.newPart (by rw [add_block]; exact hb a ha)⟩
end
end Go.Proofs.YtbcboklmeifghaaGreat.St
end
