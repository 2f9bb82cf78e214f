/-
  Contracts of the functions that compare programs, lists of programs and of surfaces.
-/
import Derived.Test.YtbcboklmeifghaaGreatLPgs
import Derived.Test.YtbcboklmeifghaaGreatLSfs
import Derived.Test.YtbcboklmeifghaaGreatLNum
import Derived.Test.YtbcboklmeifghaaGreatStOwn
import Derived.Test.YtbcboklmeifghaaGreatJ4

section
set_option linter.unusedSimpArgs false
set_option linter.unusedVariables false
namespace Go.Proofs.YtbcboklmeifghaaGreat.St
open Go.RowKit
end Go.Proofs.YtbcboklmeifghaaGreat.St
end

section
/-
  Contracts of the functions on textures: sizes, copies, sameness.
-/
set_option linter.unusedSimpArgs false
set_option linter.unusedVariables false
namespace Go.Proofs.YtbcboklmeifghaaGreat.St
open Go.RowKit
set_option maxHeartbeats 2000000 in
theorem toTexture_ok (g : Int) (p : Option Addr) (xs : List Int) (c : Nat) (hxs : xs.length ≤ 1048576) : FunG Tryz.prog 25 [.agg #[I g, .slice p xs.length c]] (fun H => Sl H p eI 1 xs)
    (fun v L' => ∃ u, v = .agg #[I g, u] ∧ L' = [.row u 3 1 (xs.map eI).flatten]) := by
  refine enterFunG Tryz.func25 rfl Tryz.ntmps25 rfl (fun W0 w a hp hm h => ?_)
  repeat' (first | refine c_seq ?_ | refine c_region ?_ | refine c_nil ?_ | refine k_then ?_ | ((first | refine st_op rfl rfl h ?_ | refine st_opn rfl h ?_); clear h a; (first | (show Does _ (.box _ _) _ _ _ _; (refine does_box hm rfl rfl ?_; clear hm; intro b w hm)) | (show Does _ (.alloc _) _ _ _ _; (refine does_alloc hm ?_; clear hm; intro b w hm)) | (show Does _ (.store _ _ _) _ _ _ _; ((refine does_storeO 0 hm rfl rfl rfl rfl rfl rfl rfl ?_; clear hm; intro w hm; (try simp only [Value.cells, List.toList_toArray, List.set_cons_zero, List.set_cons_succ, splice, Nat.zero_add, Nat.reduceAdd, Nat.reduceMul, Int.reduceAdd, Int.reduceToNat, Nat.zero_mul, Nat.one_mul, Int.toNat_natCast] at hm)))) | (show Does _ (.fieldAddr _ _ _) _ _ _ _; (refine does_fieldAddrL rfl ?_)) | (show Does _ (.load _ _) _ _ _ _; (refine does_loadO 2 hm rfl rfl rfl ?_))); intro a h; (try simp only [Value.cells, List.toList_toArray, splice, List.set_cons_zero, List.set_cons_succ, List.drop_zero, List.drop_succ_cons, List.take_succ_cons, List.take_zero, Nat.zero_add, Nat.reduceAdd, Nat.reduceMul, Int.reduceAdd, Int.reduceToNat, Int.reduceTMod, Nat.zero_mul, Nat.one_mul, Int.toNat_natCast] at h)))
  refine st_op rfl rfl h ?_; clear h a; refine does_funN hm en56 rfl (toIntN_ok _ _ _ (by omega)) (by repeat' (exact Sl.up (by assumption) hm)) ?_; clear hm; intro v w hm a h
  obtain ⟨p3, c3, rfl, hcc3, hcm3⟩ := row_slice (i := 0) hm rfl (fun _ => rfl) (by omega)
  repeat' (first | refine c_seq ?_ | refine c_region ?_ | refine c_nil ?_ | refine k_then ?_ | refine c_ret ?_ | ((first | refine st_op rfl rfl h ?_ | refine st_opn rfl h ?_); clear h a; (first | (show Does _ (.store _ _ _) _ _ _ _; (first | (refine does_storeO 1 hm rfl rfl rfl rfl rfl rfl rfl ?_; clear hm; intro w hm; (try simp only [Value.cells, List.toList_toArray, List.set_cons_zero, List.set_cons_succ, splice, Nat.zero_add, Nat.reduceAdd, Nat.reduceMul, Int.reduceAdd, Int.reduceToNat, Nat.zero_mul, Nat.one_mul, Int.toNat_natCast] at hm)) | (refine does_storeO 2 hm rfl rfl rfl rfl rfl rfl rfl ?_; clear hm; intro w hm; (try simp only [Value.cells, List.toList_toArray, List.set_cons_zero, List.set_cons_succ, splice, Nat.zero_add, Nat.reduceAdd, Nat.reduceMul, Int.reduceAdd, Int.reduceToNat, Nat.zero_mul, Nat.one_mul, Int.toNat_natCast] at hm)))) | (show Does _ (.fieldAddr _ _ _) _ _ _ _; (refine does_fieldAddrL rfl ?_)) | (show Does _ (.load _ _) _ _ _ _; (refine does_loadOA 1 hm rfl rfl rfl ?_))); intro a h; (try simp only [Value.cells, List.toList_toArray, splice, List.set_cons_zero, List.set_cons_succ, List.drop_zero, List.drop_succ_cons, List.take_succ_cons, List.take_zero, Nat.zero_add, Nat.reduceAdd, Nat.reduceMul, Int.reduceAdd, Int.reduceToNat, Int.reduceTMod, Nat.zero_mul, Nat.one_mul, Int.toNat_natCast] at h)))
  exact k_ret (vs := [_]) rfl h ⟨rv_cellA (i := 2) hm rfl rfl rfl, trivial⟩ ⟨_, ⟨_, rfl, rfl⟩, hm.sub (List.Sublist.cons_cons _ (List.nil_sublist _))⟩
def TextureR (g : Int) (xs : List Int) (v : Value) (H : Heap) : Prop := ∃ p c, v = .agg #[I g, .slice p xs.length c] ∧ xs.length ≤ c ∧ c ≤ maxLen ∧ Sl H p eI 1 xs
instance (g : Int) (xs : List Int) : MonoR (TextureR g xs) := ⟨fun _ _ _ hle ⟨p, c, h0, h1, h2, h3⟩ => ⟨p, c, h0, h1, h2, h3.mono hle⟩⟩
set_option maxHeartbeats 2000000 in
theorem szTexture_ok (g : Int) (p : Option Addr) (n c : Nat) (left : Int) (hn : n ≤ 9223372036854775807) (hl : 0 ≤ left ∧ left ≤ 1048576) : Fun Tryz.prog 19 [.agg #[I g, .slice p n c], I left] (I (if left - n < 0 then -1 else left - n)) := by
  refine enterFun Tryz.func19 rfl Tryz.ntmps19 rfl (fun W0 w a hm h => ?_)
  repeat' (first | refine c_seq ?_ | refine c_region ?_ | refine c_nil ?_ | refine k_then ?_ | refine k_thenR ?_ | refine c_skip ?_ | refine c_ret ?_ | ((refine st_op rfl rfl h ?_); clear h a; (first | (show Does _ (.box _ _) _ _ _ _; (refine does_box hm rfl rfl ?_; clear hm; intro b w hm)) | (show Does _ (.call _) _ _ _ _; (refine does_funM hm en48 rfl (szIntS_ok _ _ _ _ (by first | assumption | omega) (by first | assumption | omega)) ?_; clear hm; intro w hm)) | (show Does _ (.move _) _ _ _ _; refine does_move rfl ?_) | (show Does _ (.assign _) _ _ _ _; refine does_assign rfl ?_) | (show Does _ (.fieldAddr _ _ _) _ _ _ _; (refine does_fieldAddrL rfl ?_)) | (show Does _ (.load _ _) _ _ _ _; (refine does_loadO 0 hm rfl rfl rfl ?_)) | (show Does _ (.binOp _ _ _ _ _) _ _ _ _; (refine does_lss rfl rfl ?_))); intro a h; (try simp only [Value.cells, List.toList_toArray, splice, List.set_cons_zero, List.set_cons_succ, List.drop_zero, List.drop_succ_cons, List.take_succ_cons, List.take_zero, Nat.zero_add, Nat.reduceAdd, Nat.reduceMul, Int.reduceAdd, Int.reduceToNat, Int.reduceTMod, Nat.zero_mul, Nat.one_mul, Int.toNat_natCast] at h)) | ((refine c_condD h rfl ?_ ?_) <;> intro hc <;> (try (fail))))
  all_goals (refine k_ret1 rfl h rfl ⟨?_, hm.below⟩)
  all_goals (first | rfl | exact intE (by omega))
set_option maxHeartbeats 2000000 in
theorem eqTexture_same (g : Int) (p q : Option Addr) (xs : List Int) (c d : Nat) (hxs : xs.length ≤ 1048576) : FunP Tryz.prog 32 [.agg #[I g, .slice p xs.length c], .agg #[I g, .slice q xs.length d]] (fun H => Sl H p eI 1 xs ∧ Sl H q eI 1 xs) (.bool true) := by
  refine enterFunP Tryz.func32 rfl Tryz.ntmps32 rfl (fun W0 w a hp hm h => ?_)
  obtain ⟨hx, hy⟩ := hp
  repeat' (first | refine c_seq ?_ | refine c_region ?_ | refine c_nil ?_ | refine k_then ?_ | refine c_skip ?_ | refine c_ret ?_ | refine c_condF h rfl ?_ | ((refine st_op rfl rfl h ?_); clear h a; (first | (show Does _ (.box _ _) _ _ _ _; (refine does_box hm rfl rfl ?_; clear hm; intro b w hm)) | (show Does _ (.call _) _ _ _ _; (refine does_funP2 hm en16 rfl (by repeat' (first | with_reducible refine And.intro ?_ ?_ | exact Sl.up (by assumption) hm)) (eqIntN_ok _ _ _ _ _ _ (by simp only [maxLen]; omega)) ?_; clear hm; intro w hm)) | (show Does _ (.assign _) _ _ _ _; refine does_assign rfl ?_) | (show Does _ (.fieldAddr _ _ _) _ _ _ _; (refine does_fieldAddrL rfl ?_)) | (show Does _ (.load _ _) _ _ _ _; (first | refine does_loadO 0 hm rfl rfl rfl ?_ | refine does_loadO 1 hm rfl rfl rfl ?_)) | (show Does _ (.binOp _ _ _ _ _) _ _ _ _; (refine does_neqF rfl rfl (by omega) ?_)) | (show Does _ (.unOp _ _ _) _ _ _ _; (refine does_notD rfl ?_))); intro a h; (try simp only [Value.cells, List.toList_toArray, splice, List.set_cons_zero, List.set_cons_succ, List.drop_zero, List.drop_succ_cons, List.take_succ_cons, List.take_zero, Nat.zero_add, Nat.reduceAdd, Nat.reduceMul, Int.reduceAdd, Int.reduceToNat, Int.reduceTMod, Nat.zero_mul, Nat.one_mul, Int.toNat_natCast] at h)) | ((refine c_condD h rfl ?_ ?_) <;> intro hc <;> (try (exact absurd trivial hc))))
  all_goals first | exact absurd rfl hc | ((refine k_ret1 rfl h rfl ⟨?_, hm.below⟩); rfl)
end Go.Proofs.YtbcboklmeifghaaGreat.St
end
