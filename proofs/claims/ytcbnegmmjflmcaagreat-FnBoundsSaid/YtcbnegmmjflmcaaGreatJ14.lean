/-
  Plain laws of valid programs: each node belongs to just one assignment.
-/
import Derived.Test.YtcbnegmmjflmcaaGreatLVpr
import Derived.Test.YtcbnegmmjflmcaaGreatJ4
import Derived.Test.YtcbnegmmjflmcaaGreatJ7
import Derived.Test.YtcbnegmmjflmcaaGreatJ3
import Derived.Test.YtcbnegmmjflmcaaGreatJ12

section
set_option linter.unusedSimpArgs false
set_option linter.unusedVariables false
namespace Go.Proofs.YtcbnegmmjflmcaaGreat.St
open Go.RowKit
theorem count_two {m : Int} : ∀ {ls : List (List Int)} {i j : Nat} {a b : List Int}, i < j → ls[i]? = some a → ls[j]? = some b → m ∈ a → m ∈ b → 2 ≤ ls.flatten.count m
  | [], i, j, a, b, _, h, _, _, _ => by simp at h
  | l :: ls, 0, j + 1, a, b, _, h1, h2, ha, hb => by
    simp only [List.getElem?_cons_zero, Option.some.injEq] at h1
    simp only [List.getElem?_cons_succ] at h2
    subst h1
    have c1 := List.count_pos_iff.2 ha
    have c2 : 0 < ls.flatten.count m := List.count_pos_iff.2 (List.mem_flatten.2 ⟨b, List.mem_of_getElem? h2, hb⟩)
    simp only [List.flatten_cons, List.count_append]
    omega
  | l :: ls, i + 1, j + 1, a, b, hij, h1, h2, ha, hb => by
    simp only [List.getElem?_cons_succ] at h1 h2
    have := count_two (by omega : i < j) h1 h2 ha hb
    simp only [List.flatten_cons, List.count_append]
    omega
  | l :: ls, i, 0, a, b, hij, _, _, _, _ => absurd hij (Nat.not_lt_zero _)
def lsP (ns : List PNode) (ys : List TAssignment) : List (List Int) := ns.map PNode.args ++ ys.map fun y => [y.2]
theorem lsP_flat (ns : List PNode) (ys : List TAssignment) : (lsP ns ys).flatten = refsN ns ++ ys.map Prod.snd := by
  have : ∀ ys : List TAssignment, (ys.map fun y => [y.2]).flatten = ys.map Prod.snd := fun ys => by induction ys <;> simp_all
  rw [lsP, List.flatten_append, this]
  rfl
theorem lsP_node {ns : List PNode} {ys : List TAssignment} {i : Nat} {x : PNode} (h : ns[i]? = some x) : (lsP ns ys)[i]? = some x.args := by
  have hl := (List.getElem?_eq_some_iff.1 h).1
  rw [lsP, List.getElem?_append_left (by simpa using hl), List.getElem?_map, h]
  rfl
theorem lsP_asg {ns : List PNode} {ys : List TAssignment} {k : Nat} {y : TAssignment} (h : ys[k]? = some y) : (lsP ns ys)[ns.length + k]? = some [y.2] := by
  rw [lsP, List.getElem?_append_right (by simp), List.length_map, Nat.add_sub_cancel_left, List.getElem?_map, h]
  rfl
theorem vProg.sole {ns : List PNode} {ys : List TAssignment} (hv : vProg ns ys) {m : Nat} (hm : m < ns.length) {i j : Nat} {a b : List Int} (h1 : (lsP ns ys)[i]? = some a) (h2 : (lsP ns ys)[j]? = some b) (ha : (m : Int) ∈ a) (hb : (m : Int) ∈ b) : i = j := by
  have h := hv.once m hm
  unfold cnt at h
  rw [← lsP_flat] at h
  rcases Nat.lt_trichotomy i j with hlt | heq | hgt
  · have := count_two hlt h1 h2 ha hb
    omega
  · exact heq
  · have := count_two hgt h2 h1 hb ha
    omega
/-- the node m belongs to the assignment k -/
inductive Own1 (ns : List PNode) (ys : List TAssignment) : Nat → Nat → Prop where
  | root {k m : Nat} {y : TAssignment} (h : ys[k]? = some y) (hm : y.2 = m) : Own1 ns ys m k
  | arg {i m k : Nat} {x : PNode} (h : ns[i]? = some x) (hm : (m : Int) ∈ x.args) (ho : Own1 ns ys i k) : Own1 ns ys m k
theorem args_lt {ns : List PNode} {ys : List TAssignment} (hv : vProg ns ys) {i m : Nat} {x : PNode} (h : ns[i]? = some x) (hm : (m : Int) ∈ x.args) : m < i := by
  obtain ⟨j, hj⟩ := List.mem_iff_getElem?.1 hm
  have hl := (List.getElem?_eq_some_iff.1 hj).1
  have := (hv.nodes i x h).1 j hl
  have e : x.args.getD j 0 = m := by simp [List.getD, hj]
  rw [e] at this
  omega
theorem args_nn {ns : List PNode} {ys : List TAssignment} (hv : vProg ns ys) {i : Nat} {z : Int} {x : PNode} (h : ns[i]? = some x) (hm : z ∈ x.args) : ∃ m : Nat, z = m ∧ m < i := by
  obtain ⟨j, hj⟩ := List.mem_iff_getElem?.1 hm
  have hl := (List.getElem?_eq_some_iff.1 hj).1
  have := (hv.nodes i x h).1 j hl
  have e : x.args.getD j 0 = z := by simp [List.getD, hj]
  rw [e] at this
  exact ⟨z.toNat, by omega, by omega⟩
theorem own_unique {ns : List PNode} {ys : List TAssignment} (hv : vProg ns ys) : ∀ (d m : Nat), ns.length - m ≤ d → m < ns.length → ∀ {k k'}, Own1 ns ys m k → Own1 ns ys m k' → k = k'
  | 0, m, hd, hm, _, _, _, _ => by omega
  | d + 1, m, hd, hm, k, k', h1, h2 => by
    cases h1 with
    | root h hy =>
      cases h2 with
      | root h' hy' =>
        have := hv.sole hm (lsP_asg h) (lsP_asg h') (by simp [hy]) (by simp [hy'])
        omega
      | arg h' hm' ho' =>
        have := hv.sole hm (lsP_asg h) (lsP_node h') (by simp [hy]) hm'
        have := (List.getElem?_eq_some_iff.1 h').1
        omega
    | arg h hmm ho =>
      cases h2 with
      | root h' hy' =>
        have := hv.sole hm (lsP_node h) (lsP_asg h') hmm (by simp [hy'])
        have := (List.getElem?_eq_some_iff.1 h).1
        omega
      | arg h' hm' ho' =>
        have := hv.sole hm (lsP_node h) (lsP_node h') hmm hm'
        subst this
        have hlt := args_lt hv h hmm
        have hil := (List.getElem?_eq_some_iff.1 h).1
        exact own_unique hv d _ (by omega) hil ho ho'
theorem used {ns : List PNode} {ys : List TAssignment} (hv : vProg ns ys) {m : Nat} (hm : m < ns.length) : (∃ (k : Nat) (y : TAssignment), ys[k]? = some y ∧ y.2 = m) ∨ ∃ (i : Nat) (x : PNode), ns[i]? = some x ∧ (m : Int) ∈ x.args := by
  have h := hv.once m hm
  unfold cnt at h
  have hmem : (m : Int) ∈ refsN ns ++ ys.map Prod.snd := List.count_pos_iff.1 (by omega)
  rcases List.mem_append.1 hmem with h | h
  · obtain ⟨l, hl, hml⟩ := List.mem_flatten.1 h
    obtain ⟨x, hx, rfl⟩ := List.mem_map.1 hl
    obtain ⟨i, hi⟩ := List.mem_iff_getElem?.1 hx
    exact .inr ⟨i, x, hi, hml⟩
  · obtain ⟨y, hy, hym⟩ := List.mem_map.1 h
    obtain ⟨k, hk⟩ := List.mem_iff_getElem?.1 hy
    exact .inl ⟨k, y, hk, hym⟩
/-- m lies below i -/
inductive Sub1 (ns : List PNode) : Nat → Nat → Prop where
  | refl {i : Nat} : Sub1 ns i i
  | arg {i j m : Nat} {x : PNode} (h : ns[i]? = some x) (hj : (j : Int) ∈ x.args) (hs : Sub1 ns j m) : Sub1 ns i m
theorem Own1.down {ns : List PNode} {ys : List TAssignment} {i m k : Nat} (hs : Sub1 ns i m) (ho : Own1 ns ys i k) : Own1 ns ys m k := by
  induction hs with
  | refl => exact ho
  | arg h hj _ ih => exact ih (.arg h hj ho)
theorem Sub1.lt {ns : List PNode} {ys : List TAssignment} (hv : vProg ns ys) {i m : Nat} (hs : Sub1 ns i m) : m ≤ i := by
  induction hs with
  | refl => exact Nat.le_refl _
  | arg h hj _ ih =>
    have := args_lt hv h hj
    omega
structure OwnL (ns : List PNode) (ys : List TAssignment) (os : List Int) : Prop where
  len : os.length = ns.length
  own : ∀ m, m < ns.length → ∃ k : Nat, os[m]? = some (k : Int) ∧ Own1 ns ys m k
theorem OwnL.eq {ns : List PNode} {ys : List TAssignment} (hv : vProg ns ys) {os os' : List Int} (h : OwnL ns ys os) (h' : OwnL ns ys os') : os = os' := by
  apply List.ext_getElem?
  intro m
  by_cases hm : m < ns.length
  · obtain ⟨k, h1, h2⟩ := h.own m hm
    obtain ⟨k', h1', h2'⟩ := h'.own m hm
    rw [h1, h1', own_unique hv _ m (Nat.le_refl _) hm h2 h2']
  · rw [List.getElem?_eq_none (by rw [h.len]; omega), List.getElem?_eq_none (by rw [h'.len]; omega)]
end Go.Proofs.YtcbnegmmjflmcaaGreat.St
end

section
/-
  To which assignment each node of a valid program belongs: the program's walk down from the roots, and the reference's walk over the nodes.
-/
set_option linter.unusedSimpArgs false
set_option linter.unusedVariables false
namespace Go.Proofs.YtcbnegmmjflmcaaGreat.St
open Go.RowKit
structure VisS (D : Nat → Prop) (k : Nat) (us us' : List Int) : Prop where
  len : us'.length = us.length
  yes : ∀ m, D m → us'[m]? = some (k : Int)
  no : ∀ m, ¬ D m → us'[m]? = us[m]?
theorem VisS.congr {D D' : Nat → Prop} {k : Nat} {us us' : List Int} (h : VisS D k us us') (hd : ∀ m, D m ↔ D' m) : VisS D' k us us' :=
  ⟨h.len, fun m hm => h.yes m ((hd m).2 hm), fun m hm => h.no m fun e => hm ((hd m).1 e)⟩
theorem VisS.set {us : List Int} {i : Nat} (k : Nat) (h : i < us.length) : VisS (fun m => m = i) k us (us.set i k) :=
  ⟨by simp, fun m hm => by subst hm; exact List.getElem?_set_self h, fun m hm => List.getElem?_set_ne fun e => hm e.symm⟩
abbrev ptr0 (b : Nat) : Value := .pointer (some ⟨b, 0, none⟩)
end Go.Proofs.YtcbnegmmjflmcaaGreat.St
end

section
/-
  Texts compared, the outcome known.
-/
set_option linter.unusedSimpArgs false
set_option linter.unusedVariables false
namespace Go.Proofs.YtcbnegmmjflmcaaGreat.St
open Go.RowKit
section
variable {P : Program} {w : World} {E : Env} {Φ : Value → World → Prop} {ty t t' : TypeId} {x y : Operand}
theorem does_eqlStrT [StrT P t] {m n : ByteArray} (hx : ev E x = some (.string m)) (hy : ev E y = some (.string n)) (h : m = n) (k : Φ (.bool true) w) :
    Does P (.binOp .eql t x y t') ty E w Φ := does_eqlStr hx hy (by rw [bT h]; exact k)
theorem does_eqlStrF [StrT P t] {m n : ByteArray} (hx : ev E x = some (.string m)) (hy : ev E y = some (.string n)) (h : ¬ m = n) (k : Φ (.bool false) w) :
    Does P (.binOp .eql t x y t') ty E w Φ := does_eqlStr hx hy (by rw [bF h]; exact k)
end
end Go.Proofs.YtcbnegmmjflmcaaGreat.St
end

section
/-
  Predefined variables, and how many arguments a function of the language has.
-/
set_option linter.unusedSimpArgs false
set_option linter.unusedVariables false
namespace Go.Proofs.YtcbnegmmjflmcaaGreat.St
open Go.RowKit
def isVar (s : ByteArray) : Prop := s = ⟨#[117]⟩ ∨ s = ⟨#[118]⟩ ∨ s = ⟨#[120]⟩ ∨ s = ⟨#[121]⟩ ∨ s = ⟨#[122]⟩ ∨ s = ⟨#[116]⟩
def ar (s : ByteArray) : Int := if s = ⟨#[97, 98, 115]⟩ ∨ s = ⟨#[102, 108, 111, 111, 114]⟩ ∨ s = ⟨#[100, 117]⟩ ∨ s = ⟨#[100, 118]⟩ then 1 else if s = ⟨#[109, 105, 110]⟩ ∨ s = ⟨#[109, 97, 120]⟩ ∨ s = ⟨#[115, 116, 101, 112]⟩ ∨ s = ⟨#[110, 111, 105, 115, 101]⟩ ∨ s = ⟨#[116, 101, 120]⟩ then 2 else if s = ⟨#[99, 108, 97, 109, 112]⟩ ∨ s = ⟨#[109, 105, 120]⟩ then 3 else -1
theorem arCases (s : ByteArray) : s = ⟨#[97, 98, 115]⟩ ∨ s = ⟨#[102, 108, 111, 111, 114]⟩ ∨ s = ⟨#[100, 117]⟩ ∨ s = ⟨#[100, 118]⟩ ∨ s = ⟨#[109, 105, 110]⟩ ∨ s = ⟨#[109, 97, 120]⟩ ∨ s = ⟨#[115, 116, 101, 112]⟩ ∨ s = ⟨#[110, 111, 105, 115, 101]⟩ ∨ s = ⟨#[116, 101, 120]⟩ ∨ s = ⟨#[99, 108, 97, 109, 112]⟩ ∨ s = ⟨#[109, 105, 120]⟩ ∨ (¬ s = ⟨#[97, 98, 115]⟩ ∧ ¬ s = ⟨#[102, 108, 111, 111, 114]⟩ ∧ ¬ s = ⟨#[100, 117]⟩ ∧ ¬ s = ⟨#[100, 118]⟩ ∧ ¬ s = ⟨#[109, 105, 110]⟩ ∧ ¬ s = ⟨#[109, 97, 120]⟩ ∧ ¬ s = ⟨#[115, 116, 101, 112]⟩ ∧ ¬ s = ⟨#[110, 111, 105, 115, 101]⟩ ∧ ¬ s = ⟨#[116, 101, 120]⟩ ∧ ¬ s = ⟨#[99, 108, 97, 109, 112]⟩ ∧ ¬ s = ⟨#[109, 105, 120]⟩) := by
  by_cases e0 : s = ⟨#[97, 98, 115]⟩
  · exact (fun e => .inl e) e0
  by_cases e1 : s = ⟨#[102, 108, 111, 111, 114]⟩
  · exact (fun e => .inr (.inl e)) e1
  by_cases e2 : s = ⟨#[100, 117]⟩
  · exact (fun e => .inr (.inr (.inl e))) e2
  by_cases e3 : s = ⟨#[100, 118]⟩
  · exact (fun e => .inr (.inr (.inr (.inl e)))) e3
  by_cases e4 : s = ⟨#[109, 105, 110]⟩
  · exact (fun e => .inr (.inr (.inr (.inr (.inl e))))) e4
  by_cases e5 : s = ⟨#[109, 97, 120]⟩
  · exact (fun e => .inr (.inr (.inr (.inr (.inr (.inl e)))))) e5
  by_cases e6 : s = ⟨#[115, 116, 101, 112]⟩
  · exact (fun e => .inr (.inr (.inr (.inr (.inr (.inr (.inl e))))))) e6
  by_cases e7 : s = ⟨#[110, 111, 105, 115, 101]⟩
  · exact (fun e => .inr (.inr (.inr (.inr (.inr (.inr (.inr (.inl e)))))))) e7
  by_cases e8 : s = ⟨#[116, 101, 120]⟩
  · exact (fun e => .inr (.inr (.inr (.inr (.inr (.inr (.inr (.inr (.inl e))))))))) e8
  by_cases e9 : s = ⟨#[99, 108, 97, 109, 112]⟩
  · exact (fun e => .inr (.inr (.inr (.inr (.inr (.inr (.inr (.inr (.inr (.inl e)))))))))) e9
  by_cases e10 : s = ⟨#[109, 105, 120]⟩
  · exact (fun e => .inr (.inr (.inr (.inr (.inr (.inr (.inr (.inr (.inr (.inr (.inl e))))))))))) e10
  exact .inr (.inr (.inr (.inr (.inr (.inr (.inr (.inr (.inr (.inr (.inr (⟨e0, e1, e2, e3, e4, e5, e6, e7, e8, e9, e10⟩)))))))))))
theorem varCases (s : ByteArray) : s = ⟨#[117]⟩ ∨ s = ⟨#[118]⟩ ∨ s = ⟨#[120]⟩ ∨ s = ⟨#[121]⟩ ∨ s = ⟨#[122]⟩ ∨ s = ⟨#[116]⟩ ∨ (¬ s = ⟨#[117]⟩ ∧ ¬ s = ⟨#[118]⟩ ∧ ¬ s = ⟨#[120]⟩ ∧ ¬ s = ⟨#[121]⟩ ∧ ¬ s = ⟨#[122]⟩ ∧ ¬ s = ⟨#[116]⟩) := by
  by_cases e0 : s = ⟨#[117]⟩
  · exact (fun e => .inl e) e0
  by_cases e1 : s = ⟨#[118]⟩
  · exact (fun e => .inr (.inl e)) e1
  by_cases e2 : s = ⟨#[120]⟩
  · exact (fun e => .inr (.inr (.inl e))) e2
  by_cases e3 : s = ⟨#[121]⟩
  · exact (fun e => .inr (.inr (.inr (.inl e)))) e3
  by_cases e4 : s = ⟨#[122]⟩
  · exact (fun e => .inr (.inr (.inr (.inr (.inl e))))) e4
  by_cases e5 : s = ⟨#[116]⟩
  · exact (fun e => .inr (.inr (.inr (.inr (.inr (.inl e)))))) e5
  exact .inr (.inr (.inr (.inr (.inr (.inr (⟨e0, e1, e2, e3, e4, e5⟩))))))
set_option maxHeartbeats 8000000 in
theorem sArity_ok (s : ByteArray) : Fun Tryz.prog 87 [.string s] (I (ar s)) := by
  rcases arCases s with rfl | rfl | rfl | rfl | rfl | rfl | rfl | rfl | rfl | rfl | rfl | ⟨e0, e1, e2, e3, e4, e5, e6, e7, e8, e9, e10⟩
  all_goals
    refine enterFun Tryz.func87 rfl Tryz.ntmps87 rfl (fun W0 w a hm h => ?_)
    repeat' (first | refine c_seq ?_ | refine c_region ?_ | refine c_nil ?_ | refine k_then ?_ | refine k_thenR ?_ | refine k_inN ?_ | refine k_inR ?_ | refine c_skip ?_ | refine c_ret ?_ | refine c_block ?_ | refine c_condT h rfl ?_ | refine c_condF h rfl ?_ | ((refine st_op rfl rfl h ?_); clear h a; (first | (show Does _ (.binOp _ _ _ _ _) _ _ _ _; (first | (refine does_eqlStrT rfl rfl (by first | assumption | rfl) ?_) | (refine does_eqlStrF rfl rfl (by first | assumption | decide) ?_))) | (show Does _ (.move _) _ _ _ _; refine does_move rfl ?_) | (show Does _ (.assign _) _ _ _ _; refine does_assign rfl ?_)); intro a h))
    all_goals (refine k_ret1 rfl h rfl ⟨?_, hm.below⟩)
    all_goals first | exact intE (by decide) | exact intE (by unfold ar; simp only [*, or_self, if_false])
set_option maxHeartbeats 8000000 in
theorem sVar_ok (s : ByteArray) : Fun Tryz.prog 88 [.string s] (.bool (dB (isVar s))) := by
  rcases varCases s with rfl | rfl | rfl | rfl | rfl | rfl | ⟨e0, e1, e2, e3, e4, e5⟩
  all_goals
    refine enterFun Tryz.func88 rfl Tryz.ntmps88 rfl (fun W0 w a hm h => ?_)
    repeat' (first | refine c_seq ?_ | refine c_region ?_ | refine c_nil ?_ | refine k_then ?_ | refine k_thenL ?_ | refine k_thenR ?_ | refine k_thenE ?_ | refine k_inN ?_ | refine k_inR ?_ | refine k_inE ?_ | refine c_skip ?_ | refine c_ret ?_ | refine c_exit ?_ | refine c_block ?_ | refine r_succ ?_ | refine c_condT h rfl ?_ | refine c_condF h rfl ?_ | (refine c_rounds 7 ?_) | ((refine st_op rfl rfl h ?_); clear h a; (first | (show Does _ (.binOp _ _ _ _ _) _ _ _ _; (first | (refine does_eqlStrT rfl rfl (by first | assumption | rfl) ?_) | (refine does_eqlStrF rfl rfl (by first | assumption | decide) ?_) | (refine does_eqlStrF rfl rfl (by intro e; exact absurd e.symm (by assumption)) ?_) | refine does_lssT rfl rfl (by omega) ?_ | refine does_lssF rfl rfl (by omega) ?_ | refine does_add rfl rfl (by omega) ?_)) | (show Does _ (.buildSlice _ _ _) _ _ _ _; (refine does_buildSlice hm rfl rfl rfl ?_; clear hm; intro b w hm; (simp only [rep, nqr, Value.cells, splice, nqq, Nat.reduceAdd, Nat.reduceMul, Int.reduceAdd, Int.reduceToNat] at hm))) | (show Does _ (.move _) _ _ _ _; refine does_move rfl ?_) | (show Does _ (.assign _) _ _ _ _; refine does_assign rfl ?_) | (show Does _ (.load _ _) _ _ _ _; (refine does_loadO 0 hm rfl rfl rfl ?_)) | (show Does _ (.call _) _ _ _ _; refine does_lenS (SliceT.out) rfl ?_) | (show Does _ (.indexAddr _ _ _) _ _ _ _; (refine does_indexSL (by omega) rfl rfl ?_))); intro a h; (first | simp only [Value.cells, splice, nqq, Nat.reduceAdd, Nat.reduceMul, Int.reduceAdd, Int.reduceToNat, Int.reduceTMod] at h | skip)))
    all_goals (refine k_ret1 rfl h rfl ⟨?_, hm.below⟩)
    all_goals first | exact boolT (by unfold isVar; simp only [true_or, or_true]) | exact boolF (by unfold isVar; simp only [*, or_self, not_false_eq_true])
theorem sVar_y (s : ByteArray) (h : isVar s) : Fun Tryz.prog 88 [.string s] (.bool true) := by
  have := sVar_ok s
  rwa [bT h] at this
theorem sVar_n (s : ByteArray) (h : ¬ isVar s) : Fun Tryz.prog 88 [.string s] (.bool false) := by
  have := sVar_ok s
  rwa [bF h] at this
end Go.Proofs.YtcbnegmmjflmcaaGreat.St
end
