/-
  Regions that draw their order, walked order by order: for short ones with stores in them.
-/
import Derived.Test.YtbcboklmeifghaaGreatJ2
import Derived.RegionTactic
import Derived.Test.YtbcboklmeifghaaGreatScal

section
set_option linter.unusedSimpArgs false
set_option linter.unusedVariables false
namespace Go.Proofs.YtbcboklmeifghaaGreat.St
open Go.RowKit
section
variable {P : Program} {Q : Exit → Act → World → Prop} {a : Act} {w W0 : World} {X : List Nat} {B : Heap} {L : List Own} {l : List Oper} {E : Env} {n fuel : Nat} {listed : Array Bool} {i j k3 d : Nat} {op : Op} {ty : TypeId} {pos : String} {af : Array Edge} {g : Option (Nat × Bool)}
structure AW (P : Program) (l : List Oper) (Q : Exit → Act → World → Prop) (fuel : Nat) (listed : Array Bool) (a : Act) (w : World) : Prop where
  out : wpAny P .any l.toArray Q fuel listed a w
structure AO (P : Program) (l : List Oper) (Q : Exit → Act → World → Prop) (fuel : Nat) (listed : Array Bool) (i : Nat) (a : Act) (w : World) : Prop where
  out : wpOp P l.toArray Q i (wpAny P .any l.toArray Q fuel (listed.setIfInBounds i true)) a w
theorem aw_region {id : Nat} (hmix : P.follows .mixedOrders = true) (hm : Mem W0 X B L w) (k : ∀ w', Mem W0 X B L w' → AW P l Q l.length (Array.replicate l.length false) a w') : CW P (Code.region id l.toArray true) Q a w := by
  refine ⟨wp_region_any hmix ?_⟩
  have := (k _ (hm.ext (ext_drew w))).out
  simpa using this
theorem aw0 (hr : Region.ready .any l.toArray listed = []) (h : Cont Q .normal a w) : AW P l Q 0 listed a w := ⟨hr, h.out⟩
theorem aw1 (i : Nat) (hr : Region.ready .any l.toArray listed = [i]) (h : AO P l Q fuel listed i a w) : AW P l Q (fuel + 1) listed a w :=
  ⟨fun e => (by rw [hr] at e; cases e), fun x hx => (by rw [hr] at hx; simp only [List.mem_singleton] at hx; subst hx; exact h.out)⟩
theorem aw2 (i j : Nat) (hr : Region.ready .any l.toArray listed = [i, j]) (h : AO P l Q fuel listed i a w) (h' : AO P l Q fuel listed j a w) : AW P l Q (fuel + 1) listed a w :=
  ⟨fun e => (by rw [hr] at e; cases e), fun x hx => (by
    rw [hr] at hx
    rcases List.mem_cons.1 hx with rfl | hx
    · exact h.out
    · simp only [List.mem_singleton] at hx; subst hx; exact h'.out)⟩
theorem aw3 (i j k : Nat) (hr : Region.ready .any l.toArray listed = [i, j, k]) (h : AO P l Q fuel listed i a w) (h' : AO P l Q fuel listed j a w) (h'' : AO P l Q fuel listed k a w) : AW P l Q (fuel + 1) listed a w :=
  ⟨fun e => (by rw [hr] at e; cases e), fun x hx => (by
    rw [hr] at hx
    rcases List.mem_cons.1 hx with rfl | hx
    · exact h.out
    · rcases List.mem_cons.1 hx with rfl | hx
      · exact h'.out
      · simp only [List.mem_singleton] at hx; subst hx; exact h''.out)⟩
theorem ao_op (hi : l[i]? = some ⟨some d, op, ty, pos, af, g⟩) (hg : wantedE l E g = some true) (hd : Nat.blt d n = true) (h : Holds E n a)
    (k : Does P op ty E w (fun v w' => ∀ a', Holds ((d, v) :: E) n a' → AW P l Q fuel (listed.setIfInBounds i true) a' w')) : AO P l Q fuel listed i a w := by
  refine ⟨wpOp_step (o := ⟨some d, op, ty, pos, af, g⟩) (by simpa using hi) fun K hK => ?_⟩
  rw [wanted_of (o := ⟨some d, op, ty, pos, af, g⟩) h hg, if_pos rfl]
  exact oper_of_upon (upon_mono (fun v w' hv => hK _ _ (hv _ (h.put hd v)).out) (k.out _ h.sat))
theorem ao_opn (hi : l[i]? = some ⟨none, op, ty, pos, af, g⟩) (hg : wantedE l E g = some true) (h : Holds E n a)
    (k : Does P op ty E w (fun _ w' => ∀ a', Holds E n a' → AW P l Q fuel (listed.setIfInBounds i true) a' w')) : AO P l Q fuel listed i a w := by
  refine ⟨wpOp_step (o := ⟨none, op, ty, pos, af, g⟩) (by simpa using hi) fun K hK => ?_⟩
  rw [wanted_of (o := ⟨none, op, ty, pos, af, g⟩) h hg, if_pos rfl]
  exact oper_of_upon (upon_mono (fun v w' hv => hK _ _ (hv _ (h.nop v)).out) (k.out _ h.sat))
end
end Go.Proofs.YtbcboklmeifghaaGreat.St
end

section
/-
  Contracts of the corners of a box.
-/
set_option linter.unusedSimpArgs false
set_option linter.unusedVariables false
namespace Go.Proofs.YtbcboklmeifghaaGreat.St.G
open Go.RowKit
set_option maxHeartbeats 4000000 in
theorem corners_ok (a b c d e f : Int) : Fun Tryz.prog 153 [.agg #[I a, I b, I c, I d, I e, I f]] (.tuple #[.agg #[I a, I b, I c], .agg #[I d, I e, I f]]) := by
  refine enterFun Tryz.func153 rfl Tryz.ntmps153 rfl (fun W0 w a hm h => ?_)
  repeat' (first | refine c_seq ?_ | refine c_region ?_ | refine c_nil ?_ | refine k_then ?_ | ((refine st_op rfl rfl h ?_); clear h a; (first | (show Does _ (.box _ _) _ _ _ _; (refine does_box hm rfl rfl ?_; clear hm; intro b w hm)) | (show Does _ (.alloc _) _ _ _ _; (refine does_alloc hm ?_; clear hm; intro b w hm))); intro a h; (try simp only [Value.cells, List.toList_toArray, splice, List.set_cons_zero, List.set_cons_succ, List.drop_zero, List.drop_succ_cons, List.take_succ_cons, List.take_zero, Nat.zero_add, Nat.reduceAdd, Nat.reduceMul, Int.reduceAdd, Int.reduceToNat, Int.reduceTMod, Nat.zero_mul, Nat.one_mul, Int.toNat_natCast] at h)))
  refine aw_region mixed hm ?_; clear hm; intro w hm
  repeat' (first | ((first | refine ao_op rfl rfl rfl h ?_ | refine ao_opn rfl rfl h ?_); clear h a; (first | (show Does _ (.store _ _ _) _ _ _ _; (first | (refine does_storeO 0 hm rfl rfl rfl rfl rfl rfl rfl ?_; clear hm; intro w hm; (try simp only [Value.cells, List.toList_toArray, List.set_cons_zero, List.set_cons_succ, splice, Nat.zero_add, Nat.reduceAdd, Nat.reduceMul, Int.reduceAdd, Int.reduceToNat, Nat.zero_mul, Nat.one_mul, Int.toNat_natCast] at hm)) | (refine does_storeO 1 hm rfl rfl rfl rfl rfl rfl rfl ?_; clear hm; intro w hm; (try simp only [Value.cells, List.toList_toArray, List.set_cons_zero, List.set_cons_succ, splice, Nat.zero_add, Nat.reduceAdd, Nat.reduceMul, Int.reduceAdd, Int.reduceToNat, Nat.zero_mul, Nat.one_mul, Int.toNat_natCast] at hm)))) | (show Does _ (.fieldAddr _ _ _) _ _ _ _; (refine does_fieldAddrL rfl ?_)) | (show Does _ (.load _ _) _ _ _ _; (refine does_loadOA 2 hm rfl rfl rfl ?_)) | (show Does _ (.build _ _) _ _ _ _; refine does_build rfl rfl ?_)); intro a h; (try simp only [Value.cells, List.toList_toArray, splice, List.set_cons_zero, List.set_cons_succ, List.drop_zero, List.drop_succ_cons, List.take_succ_cons, List.take_zero, Nat.zero_add, Nat.reduceAdd, Nat.reduceMul, Int.reduceAdd, Int.reduceToNat, Int.reduceTMod, Nat.zero_mul, Nat.one_mul, Int.toNat_natCast] at h)) | refine aw0 (by decide +kernel) ?_ | refine aw1 0 (by decide +kernel) ?_ | refine aw1 1 (by decide +kernel) ?_ | refine aw1 2 (by decide +kernel) ?_ | refine aw1 3 (by decide +kernel) ?_ | refine aw1 4 (by decide +kernel) ?_ | refine aw1 5 (by decide +kernel) ?_ | refine aw1 6 (by decide +kernel) ?_ | refine aw1 7 (by decide +kernel) ?_ | refine aw2 0 3 (by decide +kernel) ?_ ?_ | refine aw2 0 4 (by decide +kernel) ?_ ?_ | refine aw2 0 5 (by decide +kernel) ?_ ?_ | refine aw2 1 3 (by decide +kernel) ?_ ?_ | refine aw2 1 4 (by decide +kernel) ?_ ?_ | refine aw2 1 5 (by decide +kernel) ?_ ?_ | refine aw2 2 3 (by decide +kernel) ?_ ?_ | refine aw2 2 4 (by decide +kernel) ?_ ?_ | refine aw2 2 5 (by decide +kernel) ?_ ?_ | refine aw2 3 6 (by decide +kernel) ?_ ?_ | refine aw2 4 6 (by decide +kernel) ?_ ?_ | refine aw2 5 6 (by decide +kernel) ?_ ?_)
  all_goals (refine k_then ?_; refine c_ret ?_; exact k_ret (vs := [_, _]) rfl h ⟨rv_cellA (i := 1) hm rfl rfl rfl, rv_cellA (i := 0) hm rfl rfl rfl, trivial⟩ ⟨rfl, hm.below⟩)
set_option maxHeartbeats 2000000 in
theorem atMost_ok (a b c d e f : Int) : Fun Tryz.prog 143 [.agg #[I a, I b, I c], .agg #[I d, I e, I f]] (.bool (dB (a ≤ d ∧ b ≤ e ∧ c ≤ f))) := by
  refine enterFun Tryz.func143 rfl Tryz.ntmps143 rfl (fun W0 w a hm h => ?_)
  repeat' (first | refine c_seq ?_ | refine c_region ?_ | refine c_nil ?_ | refine k_then ?_ | refine c_ret ?_ | ((refine st_op rfl rfl h ?_); clear h a; (first | (show Does _ (.box _ _) _ _ _ _; (refine does_box hm rfl rfl ?_; clear hm; intro b w hm)) | (show Does _ (.move _) _ _ _ _; refine does_move rfl ?_) | (show Does _ (.assign _) _ _ _ _; refine does_assign rfl ?_) | (show Does _ (.pick _ _ _) _ _ _ _; (first | refine does_pickT rfl rfl ?_ | refine does_pickF rfl rfl ?_)) | (show Does _ (.fieldAddr _ _ _) _ _ _ _; (refine does_fieldAddrL rfl ?_)) | (show Does _ (.load _ _) _ _ _ _; (first | refine does_loadO 0 hm rfl rfl rfl ?_ | refine does_loadO 1 hm rfl rfl rfl ?_)) | (show Does _ (.binOp _ _ _ _ _) _ _ _ _; (refine does_leq rfl rfl ?_))); intro a h; (try simp only [Value.cells, List.toList_toArray, splice, List.set_cons_zero, List.set_cons_succ, List.drop_zero, List.drop_succ_cons, List.take_succ_cons, List.take_zero, Nat.zero_add, Nat.reduceAdd, Nat.reduceMul, Int.reduceAdd, Int.reduceToNat, Int.reduceTMod, Nat.zero_mul, Nat.one_mul, Int.toNat_natCast] at h)) | ((refine st_skip rfl rfl h ?_); clear h a; intro a h) | (refine st_guardD rfl rfl h ?_ ?_ <;> clear h <;> intro hc h))
  all_goals (refine k_ret1 rfl h rfl ⟨?_, hm.below⟩)
  all_goals (((first | exact boolF (by omega) | exact boolI (by omega)); done))
end Go.Proofs.YtbcboklmeifghaaGreat.St.G
end
