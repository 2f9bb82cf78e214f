/-
  Nodes as values of their own types; known names and fitting calls.
-/
import Derived.Test.YtgmonjghbjaadaaGreatDoorJ17
import Derived.Test.YtgmonjghbjaadaaGreatDoorJ3

section
set_option linter.unusedSimpArgs false
set_option linter.unusedVariables false
namespace Go.Proofs.YtgmonjghbjaadaaGreatDoor.St
open Go.RowKit
structure RowR {α : Type} (enc : α → List Value) (sz : Nat) (Q : List α → Prop) (v : Value) (N : Heap) : Prop where
  out : ∃ p c xs, v = .slice p xs.length c ∧ xs.length ≤ c ∧ c ≤ maxLen ∧ Sl N p enc sz xs ∧ Q xs
instance {α : Type} (enc : α → List Value) (sz : Nat) (Q : List α → Prop) : MonoR (RowR enc sz Q) := ⟨fun _ _ _ hle ⟨⟨p, c, xs, h0, h1, h2, h3, h4⟩⟩ => ⟨⟨p, c, xs, h0, h1, h2, h3.mono hle, h4⟩⟩⟩
theorem FunV2.toR {P : Program} {f : FuncId} {vs : List Value} {pre : Heap → Prop} {T : TypeId} {sz : Nat} {α : Type} {enc : α → List Value} {Q : List α → Prop} (h : FunV2 P f vs pre T sz (fun cs => ∃ xs, cs = (xs.map enc).flatten ∧ Q xs)) (hf : ∀ x, (enc x).length = sz) (hsz : 0 < sz) : FunR P f vs pre (RowR enc sz Q) := by
  refine ⟨fun w hp => (h.out w hp).mono fun _ w' ⟨v, n, cs, he, ⟨xs, hcs, hq⟩, hx, ho⟩ => ?_⟩
  subst hcs
  have hm := (Mem.start w).addRow hx ho
  obtain ⟨p, c, e, h1, h2, h3⟩ := row_newsI (i := 0) hm rfl hf hsz
  exact ⟨v, he, hx, ⟨⟨p, c, xs, e, h1, h2, h3, hq⟩⟩⟩
abbrev OwnersR (ns : List PNode) (ys : List TAssignment) : Value → Heap → Prop := RowR eI 1 (OwnL ns ys)
theorem ownersR_ok2 (p q : Option Addr) (xs : List TNode) (ys : List TAssignment) (c d : Nat) (hys : ys.length ≤ 1048576) (hv : vProg (xs.map aN) ys) :
    FunR Tryz.prog 115 [.agg #[.slice p xs.length c, .slice q ys.length d]] (fun H => ProgH H p q xs ys) (OwnersR (xs.map aN) ys) := (owners_ok p q xs ys c d hys hv).toR (fun _ => rfl) (by omega)
class Conc (P : Program) (t : TypeId) : Prop where
  out : ∃ d, P.underlying t = some d ∧ (match d with | .interface _ => true | _ => false) = false
theorem does_assertYC {P : Program} {E : Env} {w : World} {Φ : Value → World → Prop} {ty t xt : TypeId} {x : Operand} {v : Value} [hc : Conc P t] (hx : ev E x = some (.iface t v)) (k : Φ (.tuple [v, .bool true].toArray) w) : Does P (.typeAssert x xt t true) ty E w Φ := by
  obtain ⟨d, h1, h2⟩ := hc.out
  exact does_assertY h1 (by cases d <;> first | rfl | cases h2) hx k
theorem does_assertNC {P : Program} {E : Env} {w : World} {Φ : Value → World → Prop} {ty t xt u s_ b_ : TypeId} {x : Operand} {v z : Value} [hc : Conc P t] (hx : ev E x = some (.iface u v)) (hne : Nat.beq u t = false) [hz : Sz P t z s_ b_] (k : Φ (.tuple [z, .bool false].toArray) w) : Does P (.typeAssert x xt t true) ty E w Φ := by
  obtain ⟨d, h1, h2⟩ := hc.out
  exact does_assertN h1 (by cases d <;> first | rfl | cases h2) hx hne k
instance : Conc Tryz.prog 173 := ⟨_, Tryz.underlying173, rfl⟩
instance : Conc Tryz.prog 174 := ⟨_, Tryz.underlying174, rfl⟩
instance : Conc Tryz.prog 175 := ⟨_, Tryz.underlying175, rfl⟩
abbrev Tvar : TypeId := 173
abbrev Tcall : TypeId := 174
abbrev Tplain : TypeId := 175
set_option maxHeartbeats 2000000 in
theorem exprOf_v (x : TNode) (h2 : x.a.op = 2) : Fun Tryz.prog 117 [.agg (eN x).toArray] (.iface Tvar (.agg (eN x).toArray)) := by
  refine enterFun Tryz.func117 rfl Tryz.ntmps117 rfl (fun W0 w a hm h => ?_)
  repeat' (first | refine c_seq ?_ | refine c_region ?_ | refine c_nil ?_ | refine k_then ?_ | refine k_thenR ?_ | refine k_inR ?_ | refine c_ret ?_ | refine c_block ?_ | refine c_condT h rfl ?_ | ((refine st_op rfl rfl h ?_); clear h a; (first | (show Does _ (.makeInterface _ _) _ _ _ _; ((refine does_mkIface Tryz.underlying173 rfl rfl ?_))) | (show Does _ (.box _ _) _ _ _ _; (refine does_box hm rfl rfl ?_; clear hm; intro b w hm)) | (show Does _ (.assign _) _ _ _ _; refine does_assign rfl ?_) | (show Does _ (.fieldAddr _ _ _) _ _ _ _; (refine does_fieldAddrL rfl ?_)) | (show Does _ (.load _ _) _ _ _ _; (first | refine zl hm rfl rfl ?_ | refine za hm rfl rfl ?_)) | (show Does _ (.binOp _ _ _ _ _) _ _ _ _; refine zeql rfl rfl ?_) | (show Does _ (.build _ _) _ _ _ _; refine does_build rfl rfl ?_)); intro a h; (try simp only [Value.cells, splice, nz, Nat.reduceAdd, Nat.reduceMul, Int.reduceAdd, Int.reduceToNat, Int.reduceTMod] at h)))
  (refine k_ret1 rfl h rfl ⟨?_, hm.below⟩)
  rfl
set_option maxHeartbeats 2000000 in
theorem exprOf_c (x : TNode) (h2 : x.a.op = 8) : Fun Tryz.prog 117 [.agg (eN x).toArray] (.iface Tcall (.agg (eN x).toArray)) := by
  refine enterFun Tryz.func117 rfl Tryz.ntmps117 rfl (fun W0 w a hm h => ?_)
  repeat' (first | refine c_seq ?_ | refine c_region ?_ | refine c_nil ?_ | refine k_then ?_ | refine k_thenR ?_ | refine k_inR ?_ | refine c_ret ?_ | refine c_block ?_ | refine c_condT h rfl ?_ | refine c_condF h rfl ?_ | ((refine st_op rfl rfl h ?_); clear h a; (first | (show Does _ (.makeInterface _ _) _ _ _ _; ((refine does_mkIface Tryz.underlying174 rfl rfl ?_))) | (show Does _ (.box _ _) _ _ _ _; (refine does_box hm rfl rfl ?_; clear hm; intro b w hm)) | (show Does _ (.assign _) _ _ _ _; refine does_assign rfl ?_) | (show Does _ (.fieldAddr _ _ _) _ _ _ _; (refine does_fieldAddrL rfl ?_)) | (show Does _ (.load _ _) _ _ _ _; (first | refine zl hm rfl rfl ?_ | refine za hm rfl rfl ?_)) | (show Does _ (.binOp _ _ _ _ _) _ _ _ _; refine zeql rfl rfl ?_) | (show Does _ (.build _ _) _ _ _ _; refine does_build rfl rfl ?_)); intro a h; (try simp only [Value.cells, splice, nz, Nat.reduceAdd, Nat.reduceMul, Int.reduceAdd, Int.reduceToNat, Int.reduceTMod] at h)))
  (refine k_ret1 rfl h rfl ⟨?_, hm.below⟩)
  rfl
set_option maxHeartbeats 2000000 in
theorem exprOf_p (x : TNode) (h2 : ¬ x.a.op = 2) (h8 : ¬ x.a.op = 8) : Fun Tryz.prog 117 [.agg (eN x).toArray] (.iface Tplain (.agg (eN x).toArray)) := by
  refine enterFun Tryz.func117 rfl Tryz.ntmps117 rfl (fun W0 w a hm h => ?_)
  repeat' (first | refine c_seq ?_ | refine c_region ?_ | refine c_nil ?_ | refine k_then ?_ | refine k_inN ?_ | refine c_skip ?_ | refine c_ret ?_ | refine c_block ?_ | refine c_condF h rfl ?_ | ((refine st_op rfl rfl h ?_); clear h a; (first | (show Does _ (.makeInterface _ _) _ _ _ _; ((refine does_mkIface Tryz.underlying175 rfl rfl ?_))) | (show Does _ (.box _ _) _ _ _ _; (refine does_box hm rfl rfl ?_; clear hm; intro b w hm)) | (show Does _ (.assign _) _ _ _ _; refine does_assign rfl ?_) | (show Does _ (.fieldAddr _ _ _) _ _ _ _; (refine does_fieldAddrL rfl ?_)) | (show Does _ (.load _ _) _ _ _ _; (first | refine zl hm rfl rfl ?_ | refine za hm rfl rfl ?_)) | (show Does _ (.binOp _ _ _ _ _) _ _ _ _; refine zeql rfl rfl ?_) | (show Does _ (.build _ _) _ _ _ _; refine does_build rfl rfl ?_)); intro a h; (try simp only [Value.cells, splice, nz, Nat.reduceAdd, Nat.reduceMul, Int.reduceAdd, Int.reduceToNat, Int.reduceTMod] at h)))
  (refine k_ret1 rfl h rfl ⟨?_, hm.below⟩)
  rfl
def MapH (H : Heap) (b : Nat) (f : ByteArray → Option Int) : Prop := ∃ o, H b = some o ∧ MapS o f
def knV (f : ByteArray → Option Int) (s : ByteArray) (k : Int) : Prop := isVar s ∨ ∃ v, f s = some v ∧ v < k
set_option maxHeartbeats 4000000 in
theorem known_v (x : TNode) (k : Int) (b : Nat) (f : ByteArray → Option Int) : FunP Tryz.prog 116 [.iface Tvar (.agg (eN x).toArray), I k, .map (some b)] (fun H => MapH H b f) (.bool (dB (knV f x.a.name k))) := by
  by_cases hv : isVar x.a.name
  all_goals cases hf : f x.a.name
  all_goals
    refine enterFunP Tryz.func116 rfl Tryz.ntmps116 rfl (fun W0 w a hp hm h => ?_)
    obtain ⟨o, hb, hM⟩ := hp
    repeat' (first | refine c_seq ?_ | refine c_region ?_ | refine c_nil ?_ | refine k_then ?_ | refine k_thenR ?_ | refine k_inR ?_ | refine c_ret ?_ | refine c_block ?_ | refine c_condT h rfl ?_ | ((first | refine st_op rfl rfl h ?_ | refine st_opn rfl h ?_); clear h a; (first | (show Does _ (.typeAssert _ _ _ _) _ _ _ _; ((refine does_assertYC rfl ?_))) | (show Does _ (.lookup _ _ _ _) _ _ _ _; (first | ((refine does_lookupYs hf Tryz.underlying152 Tryz.underlying9 (hm.base _ _ hb) hM rfl rfl ?_)) | ((refine does_lookupYn hf Tryz.underlying152 Tryz.underlying9 (hm.base _ _ hb) hM rfl rfl ?_)))) | (show Does _ (.alloc _) _ _ _ _; (refine does_alloc hm ?_; clear hm; intro b w hm)) | (show Does _ (.store _ _ _) _ _ _ _; ((refine zs hm rfl rfl rfl rfl rfl rfl ?_); clear hm; intro w hm; (try simp only [Value.cells, splice, nz, ns, Nat.reduceAdd, Nat.reduceMul, Int.reduceAdd, Int.reduceToNat] at hm))) | (show Does _ (.call _) _ _ _ _; ((first | refine does_funM hm en119 rfl (iVar_y _ (by assumption)) ?_ | refine does_funM hm en119 rfl (iVar_n _ (by assumption)) ?_); clear hm; intro w hm)) | (show Does _ (.move _) _ _ _ _; refine does_move rfl ?_) | (show Does _ (.assign _) _ _ _ _; refine does_assign rfl ?_) | (show Does _ (.pick _ _ _) _ _ _ _; (first | refine does_pickT rfl rfl ?_ | refine does_pickF rfl rfl ?_)) | (show Does _ (.fieldAddr _ _ _) _ _ _ _; (refine does_fieldAddrL rfl ?_)) | (show Does _ (.load _ _) _ _ _ _; (refine zl hm rfl rfl ?_)) | (show Does _ (.binOp _ _ _ _ _) _ _ _ _; (refine zlss rfl rfl ?_)) | (show Does _ (.extract _ _) _ _ _ _; refine does_extract rfl rfl ?_)); intro a h; (try simp only [Value.cells, splice, nz, Nat.reduceAdd, Nat.reduceMul, Int.reduceAdd, Int.reduceToNat, Int.reduceTMod] at h)) | ((refine st_skip rfl rfl h ?_); clear h a; intro a h))
    all_goals (refine k_ret1 rfl h rfl ⟨?_, hm.below⟩)
    all_goals first
      | exact boolT (.inl hv)
      | exact boolI ⟨fun e => .inr ⟨_, hf, e⟩, fun e => by
          rcases e with e | ⟨v, h1, h2⟩
          · exact absurd e hv
          · rw [hf] at h1; cases h1; exact h2⟩
      | exact boolF (fun e => by
          rcases e with e | ⟨v, h1, h2⟩
          · exact absurd e hv
          · rw [hf] at h1; cases h1)
set_option maxHeartbeats 4000000 in
theorem known_c (x : TNode) (k : Int) (b : Nat) : Fun Tryz.prog 116 [.iface Tcall (.agg (eN x).toArray), I k, .map (some b)] (.bool (dB (0 ≤ ar x.a.name))) := by
  refine enterFun Tryz.func116 rfl Tryz.ntmps116 rfl (fun W0 w a hm h => ?_)
  repeat' (first | refine c_seq ?_ | refine c_region ?_ | refine c_nil ?_ | refine k_then ?_ | refine k_thenR ?_ | refine k_inR ?_ | refine c_ret ?_ | refine c_block ?_ | refine c_condT h rfl ?_ | refine c_condF h rfl ?_ | ((first | refine st_op rfl rfl h ?_ | refine st_opn rfl h ?_); clear h a; (first | (show Does _ (.typeAssert _ _ _ _) _ _ _ _; (first | ((refine does_assertNC rfl rfl ?_)) | ((refine does_assertYC rfl ?_)))) | (show Does _ (.alloc _) _ _ _ _; (refine does_alloc hm ?_; clear hm; intro b w hm)) | (show Does _ (.store _ _ _) _ _ _ _; ((refine zs hm rfl rfl rfl rfl rfl rfl ?_); clear hm; intro w hm; (try simp only [Value.cells, splice, nz, ns, Nat.reduceAdd, Nat.reduceMul, Int.reduceAdd, Int.reduceToNat] at hm))) | (show Does _ (.call _) _ _ _ _; ((refine does_funM hm en137 rfl (iArity_ok _) ?_); clear hm; intro w hm)) | (show Does _ (.move _) _ _ _ _; refine does_move rfl ?_) | (show Does _ (.assign _) _ _ _ _; refine does_assign rfl ?_) | (show Does _ (.fieldAddr _ _ _) _ _ _ _; (refine does_fieldAddrL rfl ?_)) | (show Does _ (.load _ _) _ _ _ _; (refine zl hm rfl rfl ?_)) | (show Does _ (.binOp _ _ _ _ _) _ _ _ _; (refine zgeq rfl rfl ?_)) | (show Does _ (.extract _ _) _ _ _ _; refine does_extract rfl rfl ?_)); intro a h; (try simp only [Value.cells, splice, nz, Nat.reduceAdd, Nat.reduceMul, Int.reduceAdd, Int.reduceToNat, Int.reduceTMod] at h)))
  all_goals (refine k_ret1 rfl h rfl ⟨?_, hm.below⟩)
  all_goals rfl
set_option maxHeartbeats 4000000 in
theorem known_p (x : TNode) (k : Int) (b : Nat) : Fun Tryz.prog 116 [.iface Tplain (.agg (eN x).toArray), I k, .map (some b)] (.bool true) := by
  refine enterFun Tryz.func116 rfl Tryz.ntmps116 rfl (fun W0 w a hm h => ?_)
  repeat' (first | refine c_seq ?_ | refine c_region ?_ | refine c_nil ?_ | refine k_then ?_ | refine k_inN ?_ | refine c_skip ?_ | refine c_ret ?_ | refine c_block ?_ | refine c_condF h rfl ?_ | ((refine st_op rfl rfl h ?_); clear h a; (first | (show Does _ (.typeAssert _ _ _ _) _ _ _ _; ((refine does_assertNC rfl rfl ?_))) | (show Does _ (.move _) _ _ _ _; refine does_move rfl ?_) | (show Does _ (.assign _) _ _ _ _; refine does_assign rfl ?_) | (show Does _ (.extract _ _) _ _ _ _; refine does_extract rfl rfl ?_)); intro a h; (try simp only [Value.cells, splice, nz, Nat.reduceAdd, Nat.reduceMul, Int.reduceAdd, Int.reduceToNat, Int.reduceTMod] at h)))
  all_goals (refine k_ret1 rfl h rfl ⟨?_, hm.below⟩)
  all_goals rfl
set_option maxHeartbeats 4000000 in
theorem fitting_c (x : TNode) (hl : x.a.args.length ≤ 1048576) : Fun Tryz.prog 118 [.iface Tcall (.agg (eN x).toArray)] (.bool (dB ((x.a.args.length : Int) = ar x.a.name))) := by
  refine enterFun Tryz.func118 rfl Tryz.ntmps118 rfl (fun W0 w a hm h => ?_)
  repeat' (first | refine c_seq ?_ | refine c_region ?_ | refine c_nil ?_ | refine k_then ?_ | refine c_ret ?_ | ((first | refine st_op rfl rfl h ?_ | refine st_opn rfl h ?_); clear h a; (first | (show Does _ (.typeAssert _ _ _ _) _ _ _ _; ((refine does_assertYC rfl ?_))) | (show Does _ (.alloc _) _ _ _ _; (refine does_alloc hm ?_; clear hm; intro b w hm)) | (show Does _ (.store _ _ _) _ _ _ _; ((refine zs hm rfl rfl rfl rfl rfl rfl ?_); clear hm; intro w hm; (try simp only [Value.cells, splice, nz, ns, Nat.reduceAdd, Nat.reduceMul, Int.reduceAdd, Int.reduceToNat] at hm))) | (show Does _ (.move _) _ _ _ _; refine does_move rfl ?_) | (show Does _ (.assign _) _ _ _ _; refine does_assign rfl ?_) | (show Does _ (.extract _ _) _ _ _ _; refine does_extract rfl rfl ?_)); intro a h; (try simp only [Value.cells, splice, nz, Nat.reduceAdd, Nat.reduceMul, Int.reduceAdd, Int.reduceToNat, Int.reduceTMod] at h)) | (apply c_drawM (id := 2) 14 [.val _, .val _, .val _, .val _, .val _, .val _, .val _, .val _, .val _, .val _, .val _, .val _, .val _, .val _] mixed (by kernel_rfl) (h := h) (hm := hm); (case vcs => (repeat' (first | exact vcs_nil | refine vcs_cons ?_ ?_ | (intro w hm; (repeat (first | refine dep_val ?_ | refine dep_nil ?_)); first | exact vc_skip rfl | exact vc_alloc rfl | exact vc_box rfl rfl rfl | exact vc_buildSlice rfl rfl rfl rfl | exact vc_makeSlice (by omega) (by omega) rfl rfl rfl | exact vc_store rfl rfl rfl rfl rfl rfl rfl rfl rfl rfl | (apply vc_run rfl; (first | (show Does _ (.call _) _ _ _ _; (first | (refine does_funX en137 rfl (iArity_ok _) ?_) | refine does_lenS (SliceT.out) rfl ?_)) | (show Does _ (.move _) _ _ _ _; refine does_move rfl ?_) | (show Does _ (.assign _) _ _ _ _; refine does_assign rfl ?_) | (show Does _ (.pick _ _ _) _ _ _ _; (refine does_pickF rfl rfl ?_)) | (show Does _ (.fieldAddr _ _ _) _ _ _ _; (refine does_fieldAddrL rfl ?_)) | (show Does _ (.load _ _) _ _ _ _; (refine does_loadO 0 hm rfl rfl rfl ?_)) | (show Does _ (.binOp _ _ _ _ _) _ _ _ _; (refine does_eql rfl rfl ?_)) | (show Does _ (.unOp _ _ _) _ _ _ _; (refine does_not rfl ?_))); (first | exact ⟨ext_refl _, rfl⟩ | exact fun _ hx => ⟨hx, rfl⟩)))))); (case hup => kernel_rfl); (case hown => kernel_rfl); (case hnp => kernel_rfl); clear h hm a; intro  w hm; (try simp only [List.map_nil, List.nil_append] at hm); (repeat (first | refine dep_val ?_ | refine dep_nil ?_)); intro a h; (try simp only [Value.cells, List.toList_toArray, splice, List.set_cons_zero, List.set_cons_succ, List.drop_zero, List.drop_succ_cons, List.take_succ_cons, List.take_zero, Nat.zero_add, Nat.reduceAdd, Nat.reduceMul, Int.reduceAdd, Int.reduceToNat, Int.reduceTMod, Nat.zero_mul, Nat.one_mul, Int.toNat_natCast] at h)))
  all_goals (refine k_ret1 rfl h rfl ⟨?_, hm.below⟩)
  all_goals rfl
set_option maxHeartbeats 4000000 in
theorem fitting_n (x : TNode) (T : TypeId) (hT : T = Tvar ∨ T = Tplain) : Fun Tryz.prog 118 [.iface T (.agg (eN x).toArray)] (.bool true) := by
  rcases hT with rfl | rfl
  all_goals
    refine enterFun Tryz.func118 rfl Tryz.ntmps118 rfl (fun W0 w a hm h => ?_)
    repeat' (first | refine c_seq ?_ | refine c_region ?_ | refine c_nil ?_ | refine k_then ?_ | refine c_ret ?_ | ((first | refine st_op rfl rfl h ?_ | refine st_opn rfl h ?_); clear h a; (first | (show Does _ (.typeAssert _ _ _ _) _ _ _ _; ((refine does_assertNC rfl rfl ?_))) | (show Does _ (.alloc _) _ _ _ _; (refine does_alloc hm ?_; clear hm; intro b w hm)) | (show Does _ (.store _ _ _) _ _ _ _; ((refine zs hm rfl rfl rfl rfl rfl rfl ?_); clear hm; intro w hm; (try simp only [Value.cells, splice, nz, ns, Nat.reduceAdd, Nat.reduceMul, Int.reduceAdd, Int.reduceToNat] at hm))) | (show Does _ (.move _) _ _ _ _; refine does_move rfl ?_) | (show Does _ (.assign _) _ _ _ _; refine does_assign rfl ?_) | (show Does _ (.extract _ _) _ _ _ _; refine does_extract rfl rfl ?_)); intro a h; (try simp only [Value.cells, splice, nz, Nat.reduceAdd, Nat.reduceMul, Int.reduceAdd, Int.reduceToNat, Int.reduceTMod] at h)) | (apply c_drawM (id := 2) 14 [.val _, .val _, .val _, .val _, .val _, .val _, .val _, .val _, .val _, .val _, .val _, .val _, .val _, .val _] mixed (by kernel_rfl) (h := h) (hm := hm); (case vcs => (repeat' (first | exact vcs_nil | refine vcs_cons ?_ ?_ | (intro w hm; (repeat (first | refine dep_val ?_ | refine dep_nil ?_)); first | exact vc_skip rfl | exact vc_alloc rfl | exact vc_box rfl rfl rfl | exact vc_buildSlice rfl rfl rfl rfl | exact vc_makeSlice (by omega) (by omega) rfl rfl rfl | exact vc_store rfl rfl rfl rfl rfl rfl rfl rfl rfl rfl | (apply vc_run rfl; (first | (show Does _ (.move _) _ _ _ _; refine does_move rfl ?_) | (show Does _ (.assign _) _ _ _ _; refine does_assign rfl ?_) | (show Does _ (.pick _ _ _) _ _ _ _; (refine does_pickT rfl rfl ?_)) | (show Does _ (.unOp _ _ _) _ _ _ _; (refine does_not rfl ?_))); (exact ⟨ext_refl _, rfl⟩)))))); (case hup => kernel_rfl); (case hown => kernel_rfl); (case hnp => kernel_rfl); clear h hm a; intro  w hm; (try simp only [List.map_nil, List.nil_append] at hm); (repeat (first | refine dep_val ?_ | refine dep_nil ?_)); intro a h; (try simp only [Value.cells, List.toList_toArray, splice, List.set_cons_zero, List.set_cons_succ, List.drop_zero, List.drop_succ_cons, List.take_succ_cons, List.take_zero, Nat.zero_add, Nat.reduceAdd, Nat.reduceMul, Int.reduceAdd, Int.reduceToNat, Int.reduceTMod, Nat.zero_mul, Nat.one_mul, Int.toNat_natCast] at h)))
    all_goals (refine k_ret1 rfl h rfl ⟨?_, hm.below⟩)
    all_goals rfl
end Go.Proofs.YtgmonjghbjaadaaGreatDoor.St
end

section
/-
  What it means that a program passes all checks.
-/
set_option linter.unusedSimpArgs false
set_option linter.unusedVariables false
namespace Go.Proofs.YtgmonjghbjaadaaGreatDoor.St
open Go.RowKit
/-- a name is assigned ahead of n -/
def bef (ys : List TAssignment) (s : ByteArray) (n : Int) : Prop := ∃ j : Nat, (j : Int) < n ∧ (ys[j]?.map Prod.fst) = some s
theorem lastA_lt (ys : List TAssignment) (s : ByteArray) (n : Int) : ∀ k, 0 ≤ lastA ys s n k ↔ ∃ j : Nat, j < k ∧ (j : Int) < n ∧ (ys[j]?.map Prod.fst) = some s
  | 0 => by simp [lastA]
  | k + 1 => by
    have ih := lastA_lt ys s n k
    simp only [lastA]
    split
    · rename_i h
      exact ⟨fun _ => ⟨k, by omega, h.1, h.2⟩, fun _ => by omega⟩
    · rename_i h
      rw [ih]
      constructor
      · rintro ⟨j, h1, h2, h3⟩
        exact ⟨j, by omega, h2, h3⟩
      · rintro ⟨j, h1, h2, h3⟩
        refine ⟨j, ?_, h2, h3⟩
        by_cases hjk : j = k
        · subst hjk
          exact absurd ⟨h2, h3⟩ h
        · omega
theorem map_some_lt {ys : List TAssignment} {j : Nat} {s : ByteArray} (h : (ys[j]?.map Prod.fst) = some s) : j < ys.length := by
  cases hy : ys[j]? with
  | none => rw [hy] at h; cases h
  | some y => exact (List.getElem?_eq_some_iff.1 hy).1
theorem lastA_bef (ys : List TAssignment) (s : ByteArray) (n : Int) : 0 ≤ lastA ys s n ys.length ↔ bef ys s n := by
  rw [lastA_lt]
  exact ⟨fun ⟨j, _, h2, h3⟩ => ⟨j, h2, h3⟩, fun ⟨j, h2, h3⟩ => ⟨j, map_some_lt h3, h2, h3⟩⟩
theorem firstA_none {ys : List TAssignment} {s : ByteArray} : ∀ {k : Nat}, firstA ys k s = none → ∀ j, j < k → ¬ (ys[j]?.map Prod.fst) = some s
  | 0, _, j, hj => absurd hj (Nat.not_lt_zero _)
  | k + 1, h, j, hj => by
    simp only [firstA] at h
    cases hf : firstA ys k s with
    | some u => rw [hf] at h; cases h
    | none =>
      rw [hf] at h
      simp only at h
      split at h
      · cases h
      · by_cases hjk : j = k
        · subst hjk; assumption
        · exact firstA_none hf j (by omega)
theorem firstA_least {ys : List TAssignment} {s : ByteArray} : ∀ {k : Nat} {v : Int}, firstA ys k s = some v → ∀ j : Nat, j < k → (j : Int) < v → ¬ (ys[j]?.map Prod.fst) = some s
  | 0, v, h, j, hj, _ => absurd hj (Nat.not_lt_zero _)
  | k + 1, v, h, j, hj, hjv => by
    simp only [firstA] at h
    cases hf : firstA ys k s with
    | some u =>
      rw [hf] at h
      cases h
      obtain ⟨j', h1, h2, h3⟩ := firstA_bd hf
      exact firstA_least hf j (by omega) hjv
    | none =>
      rw [hf] at h
      simp only at h
      split at h
      · cases h
        exact firstA_none hf j (by omega)
      · cases h
theorem firstA_lt (ys : List TAssignment) (s : ByteArray) (n : Int) : (∃ v, firstA ys ys.length s = some v ∧ v < n) ↔ bef ys s n := by
  constructor
  · rintro ⟨v, h, hv⟩
    obtain ⟨j, rfl, h2, h3⟩ := firstA_bd h
    exact ⟨j, hv, h3⟩
  · rintro ⟨j, h1, h2⟩
    have hj := map_some_lt h2
    cases hf : firstA ys ys.length s with
    | none => exact absurd h2 (firstA_none hf j hj)
    | some v =>
      refine ⟨v, rfl, ?_⟩
      by_cases hlt : (j : Int) < v
      · exact absurd h2 (firstA_least hf j hj hlt)
      · omega
theorem knV_iff (ys : List TAssignment) (s : ByteArray) (n : Int) : knV (firstA ys ys.length) s n ↔ isVar s ∨ bef ys s n := by
  unfold knV
  rw [firstA_lt]
abbrev sColor : ByteArray := ⟨#[99, 111, 108, 111, 114]⟩
def nodeOk (ns : List PNode) (ys : List TAssignment) (i : Nat) (x : PNode) : Prop := (x.op = 2 → isVar x.name ∨ ∃ k : Nat, Own1 ns ys i k ∧ bef ys x.name k) ∧ (x.op = 8 → 0 ≤ ar x.name)
def arityOk (x : PNode) : Prop := x.op = 8 → (x.args.length : Int) = ar x.name
def asgOk (ys : List TAssignment) (k : Nat) (y : TAssignment) : Prop := ¬ isVar y.1 ∧ ¬ bef ys y.1 k
/-- the program passes all checks -/
structure okP (ns : List PNode) (ys : List TAssignment) : Prop where
  val : vProg ns ys
  names : ∀ (i : Nat) (x : PNode), ns[i]? = some x → nodeOk ns ys i x
  arity : ∀ (i : Nat) (x : PNode), ns[i]? = some x → arityOk x
  asg : ∀ (k : Nat) (y : TAssignment), ys[k]? = some y → asgOk ys k y
  color : bef ys sColor ys.length
/-- what a check answers -/
def ChkR (ns : List PNode) (ys : List TAssignment) (v : Value) : Prop := ∃ c k, v = .tuple #[I c, I k] ∧ (c = 0 ↔ okP ns ys) ∧ (c = 0 → k = 0)
theorem ChkR.no {ns : List PNode} {ys : List TAssignment} {c k : Int} (hc : c ≠ 0) (h : ¬ okP ns ys) : ChkR ns ys (.tuple #[I c, I k]) := ⟨c, k, rfl, ⟨fun e => absurd e hc, fun e => absurd e h⟩, fun e => absurd e hc⟩
theorem ChkR.yes {ns : List PNode} {ys : List TAssignment} (h : okP ns ys) : ChkR ns ys (.tuple #[I 0, I 0]) := ⟨0, 0, rfl, ⟨fun _ => h, fun _ => rfl⟩, fun _ => rfl⟩
theorem MapH.up {W0 w : World} {X : List Nat} {B : Heap} {L : List Own} {b : Nat} {f : ByteArray → Option Int} (h : MapH B b f) (hm : Mem W0 X B L w) : MapH (fun b => w.heap[b]?) b f := by
  obtain ⟨o, h1, h2⟩ := h
  exact ⟨o, hm.base _ _ h1, h2⟩
end Go.Proofs.YtgmonjghbjaadaaGreatDoor.St
end
