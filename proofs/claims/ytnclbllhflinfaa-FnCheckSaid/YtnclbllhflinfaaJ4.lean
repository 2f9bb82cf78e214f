/-
  Plain laws of valid programs: each node belongs to just one assignment.
-/
import Derived.Test.YtnclbllhflinfaaLVpr
import Derived.Test.YtnclbllhflinfaaStOwn

section
set_option linter.unusedSimpArgs false
set_option linter.unusedVariables false
namespace Go.Proofs.Ytnclbllhflinfaa.St
open Go.RowKit
theorem count_two {m : Int} : ∀ {ls : List (List Int)} {i j : Nat} {a b : List Int}, i < j → ls[i]? = some a → ls[j]? = some b → m ∈ a → m ∈ b → 2 ≤ ls.flatten.count m
  | [], i, j, a, b, _, h, _, _, _ => by simp at h
  | l :: ls, 0, j + 1, a, b, _, h1, h2, ha, hb => by
    simp only [List.getElem?_cons_zero, Option.some.injEq] at h1
    simp only [List.getElem?_cons_succ] at h2
    subst h1
    have c1 := List.count_pos_iff.2 ha
    have c2 : 0 < ls.flatten.count m := List.count_pos_iff.2 (List.mem_flatten.2 ⟨b, List.mem_of_getElem? h2, hb⟩)
    simp only [List.flatten_cons, List.count_append]
    omega
  | l :: ls, i + 1, j + 1, a, b, hij, h1, h2, ha, hb => by
    simp only [List.getElem?_cons_succ] at h1 h2
    have := count_two (by omega : i < j) h1 h2 ha hb
    simp only [List.flatten_cons, List.count_append]
    omega
  | l :: ls, i, 0, a, b, hij, _, _, _, _ => absurd hij (Nat.not_lt_zero _)
def lsP (ns : List PNode) (ys : List TAssignment) : List (List Int) := ns.map PNode.args ++ ys.map fun y => [y.2]
theorem lsP_flat (ns : List PNode) (ys : List TAssignment) : (lsP ns ys).flatten = refsN ns ++ ys.map Prod.snd := by
  have : ∀ ys : List TAssignment, (ys.map fun y => [y.2]).flatten = ys.map Prod.snd := fun ys => by induction ys <;> simp_all
  rw [lsP, List.flatten_append, this]
  rfl
theorem lsP_node {ns : List PNode} {ys : List TAssignment} {i : Nat} {x : PNode} (h : ns[i]? = some x) : (lsP ns ys)[i]? = some x.args := by
  have hl := (List.getElem?_eq_some_iff.1 h).1
  rw [lsP, List.getElem?_append_left (by simpa using hl), List.getElem?_map, h]
  rfl
theorem lsP_asg {ns : List PNode} {ys : List TAssignment} {k : Nat} {y : TAssignment} (h : ys[k]? = some y) : (lsP ns ys)[ns.length + k]? = some [y.2] := by
  rw [lsP, List.getElem?_append_right (by simp), List.length_map, Nat.add_sub_cancel_left, List.getElem?_map, h]
  rfl
theorem vProg.sole {ns : List PNode} {ys : List TAssignment} (hv : vProg ns ys) {m : Nat} (hm : m < ns.length) {i j : Nat} {a b : List Int} (h1 : (lsP ns ys)[i]? = some a) (h2 : (lsP ns ys)[j]? = some b) (ha : (m : Int) ∈ a) (hb : (m : Int) ∈ b) : i = j := by
  have h := hv.once m hm
  unfold cnt at h
  rw [← lsP_flat] at h
  rcases Nat.lt_trichotomy i j with hlt | heq | hgt
  · have := count_two hlt h1 h2 ha hb
    omega
  · exact heq
  · have := count_two hgt h2 h1 hb ha
    omega
/-- the node m belongs to the assignment k -/
inductive Own1 (ns : List PNode) (ys : List TAssignment) : Nat → Nat → Prop where
  | root {k m : Nat} {y : TAssignment} (h : ys[k]? = some y) (hm : y.2 = m) : Own1 ns ys m k
  | arg {i m k : Nat} {x : PNode} (h : ns[i]? = some x) (hm : (m : Int) ∈ x.args) (ho : Own1 ns ys i k) : Own1 ns ys m k
theorem args_lt {ns : List PNode} {ys : List TAssignment} (hv : vProg ns ys) {i m : Nat} {x : PNode} (h : ns[i]? = some x) (hm : (m : Int) ∈ x.args) : m < i := by
  obtain ⟨j, hj⟩ := List.mem_iff_getElem?.1 hm
  have hl := (List.getElem?_eq_some_iff.1 hj).1
  have := (hv.nodes i x h).1 j hl
  have e : x.args.getD j 0 = m := by simp [List.getD, hj]
  rw [e] at this
  omega
theorem args_nn {ns : List PNode} {ys : List TAssignment} (hv : vProg ns ys) {i : Nat} {z : Int} {x : PNode} (h : ns[i]? = some x) (hm : z ∈ x.args) : ∃ m : Nat, z = m ∧ m < i := by
  obtain ⟨j, hj⟩ := List.mem_iff_getElem?.1 hm
  have hl := (List.getElem?_eq_some_iff.1 hj).1
  have := (hv.nodes i x h).1 j hl
  have e : x.args.getD j 0 = z := by simp [List.getD, hj]
  rw [e] at this
  exact ⟨z.toNat, by omega, by omega⟩
theorem own_unique {ns : List PNode} {ys : List TAssignment} (hv : vProg ns ys) : ∀ (d m : Nat), ns.length - m ≤ d → m < ns.length → ∀ {k k'}, Own1 ns ys m k → Own1 ns ys m k' → k = k'
  | 0, m, hd, hm, _, _, _, _ => by omega
  | d + 1, m, hd, hm, k, k', h1, h2 => by
    cases h1 with
    | root h hy =>
      cases h2 with
      | root h' hy' =>
        have := hv.sole hm (lsP_asg h) (lsP_asg h') (by simp [hy]) (by simp [hy'])
        omega
      | arg h' hm' ho' =>
        have := hv.sole hm (lsP_asg h) (lsP_node h') (by simp [hy]) hm'
        have := (List.getElem?_eq_some_iff.1 h').1
        omega
    | arg h hmm ho =>
      cases h2 with
      | root h' hy' =>
        have := hv.sole hm (lsP_node h) (lsP_asg h') hmm (by simp [hy'])
        have := (List.getElem?_eq_some_iff.1 h).1
        omega
      | arg h' hm' ho' =>
        have := hv.sole hm (lsP_node h) (lsP_node h') hmm hm'
        subst this
        have hlt := args_lt hv h hmm
        have hil := (List.getElem?_eq_some_iff.1 h).1
        exact own_unique hv d _ (by omega) hil ho ho'
theorem used {ns : List PNode} {ys : List TAssignment} (hv : vProg ns ys) {m : Nat} (hm : m < ns.length) : (∃ (k : Nat) (y : TAssignment), ys[k]? = some y ∧ y.2 = m) ∨ ∃ (i : Nat) (x : PNode), ns[i]? = some x ∧ (m : Int) ∈ x.args := by
  have h := hv.once m hm
  unfold cnt at h
  have hmem : (m : Int) ∈ refsN ns ++ ys.map Prod.snd := List.count_pos_iff.1 (by omega)
  rcases List.mem_append.1 hmem with h | h
  · obtain ⟨l, hl, hml⟩ := List.mem_flatten.1 h
    obtain ⟨x, hx, rfl⟩ := List.mem_map.1 hl
    obtain ⟨i, hi⟩ := List.mem_iff_getElem?.1 hx
    exact .inr ⟨i, x, hi, hml⟩
  · obtain ⟨y, hy, hym⟩ := List.mem_map.1 h
    obtain ⟨k, hk⟩ := List.mem_iff_getElem?.1 hy
    exact .inl ⟨k, y, hk, hym⟩
theorem own_exists {ns : List PNode} {ys : List TAssignment} (hv : vProg ns ys) : ∀ (d m : Nat), ns.length - m ≤ d → m < ns.length → ∃ k, Own1 ns ys m k
  | 0, m, hd, hm => by omega
  | d + 1, m, hd, hm => by
    rcases used hv hm with ⟨k, y, hk, hy⟩ | ⟨i, x, hi, hmx⟩
    · exact ⟨k, .root hk hy⟩
    · have hlt := args_lt hv hi hmx
      have hil := (List.getElem?_eq_some_iff.1 hi).1
      obtain ⟨k, hk⟩ := own_exists hv d i (by omega) hil
      exact ⟨k, .arg hi hmx hk⟩
theorem own_lt {ns : List PNode} {ys : List TAssignment} {m k : Nat} (h : Own1 ns ys m k) : k < ys.length := by
  induction h with
  | root h _ => exact (List.getElem?_eq_some_iff.1 h).1
  | arg _ _ _ ih => exact ih
/-- m lies below i -/
inductive Sub1 (ns : List PNode) : Nat → Nat → Prop where
  | refl {i : Nat} : Sub1 ns i i
  | arg {i j m : Nat} {x : PNode} (h : ns[i]? = some x) (hj : (j : Int) ∈ x.args) (hs : Sub1 ns j m) : Sub1 ns i m
theorem Sub1.snoc {ns : List PNode} {i j m : Nat} {x : PNode} (h : Sub1 ns i j) (hx : ns[j]? = some x) (hm : (m : Int) ∈ x.args) : Sub1 ns i m := by
  induction h with
  | refl => exact .arg hx hm .refl
  | arg h' hj' _ ih => exact .arg h' hj' (ih hx)
theorem Own1.down {ns : List PNode} {ys : List TAssignment} {i m k : Nat} (hs : Sub1 ns i m) (ho : Own1 ns ys i k) : Own1 ns ys m k := by
  induction hs with
  | refl => exact ho
  | arg h hj _ ih => exact ih (.arg h hj ho)
theorem Own1.top {ns : List PNode} {ys : List TAssignment} {m k : Nat} (h : Own1 ns ys m k) : ∃ (y : TAssignment) (r : Nat), ys[k]? = some y ∧ y.2 = r ∧ Sub1 ns r m := by
  induction h with
  | root h hm => exact ⟨_, _, h, hm, .refl⟩
  | arg h hm _ ih =>
    obtain ⟨y, r, h1, h2, h3⟩ := ih
    exact ⟨y, r, h1, h2, h3.snoc h hm⟩
theorem Sub1.lt {ns : List PNode} {ys : List TAssignment} (hv : vProg ns ys) {i m : Nat} (hs : Sub1 ns i m) : m ≤ i := by
  induction hs with
  | refl => exact Nat.le_refl _
  | arg h hj _ ih =>
    have := args_lt hv h hj
    omega
structure OwnL (ns : List PNode) (ys : List TAssignment) (os : List Int) : Prop where
  len : os.length = ns.length
  own : ∀ m, m < ns.length → ∃ k : Nat, os[m]? = some (k : Int) ∧ Own1 ns ys m k
theorem OwnL.eq {ns : List PNode} {ys : List TAssignment} (hv : vProg ns ys) {os os' : List Int} (h : OwnL ns ys os) (h' : OwnL ns ys os') : os = os' := by
  apply List.ext_getElem?
  intro m
  by_cases hm : m < ns.length
  · obtain ⟨k, h1, h2⟩ := h.own m hm
    obtain ⟨k', h1', h2'⟩ := h'.own m hm
    rw [h1, h1', own_unique hv _ m (Nat.le_refl _) hm h2 h2']
  · rw [List.getElem?_eq_none (by rw [h.len]; omega), List.getElem?_eq_none (by rw [h'.len]; omega)]
end Go.Proofs.Ytnclbllhflinfaa.St
end

section
/-
  The end of a function without results; a piece of code cut off with a state.
-/
set_option linter.unusedSimpArgs false
set_option linter.unusedVariables false
namespace Go.Proofs.Ytnclbllhflinfaa.St
open Go.RowKit
theorem k_norm {P : Program} {fn : Func} {R : Value → World → Prop} {a : Act} {w : World} (h : Cont (Post P fn R) .ret a w) : Cont (Post P fn R) .normal a w := ⟨h.out⟩
theorem cw_cutN {P : Program} {c : Code} {Q : Exit → Act → World → Prop} {a : Act} {w : World} (S : Act → World → Prop) (h : CW P c (fun e a w => e = .normal ∧ S a w) a w) (k : ∀ a w, S a w → Cont Q .normal a w) : CW P c Q a w :=
  ⟨Code.wp_mono (fun e a w q => by obtain ⟨rfl, hs⟩ := q; exact (k a w hs).out) h.out⟩
theorem cw_cutX {P : Program} {c : Code} {Q : Exit → Act → World → Prop} {a : Act} {w : World} (n : Nat) (S : Act → World → Prop) (h : CW P c (fun e a w => e = .exit n ∧ S a w) a w) (k : ∀ a w, S a w → Cont Q (.exit n) a w) : CW P c Q a w :=
  ⟨Code.wp_mono (fun e a w q => by obtain ⟨rfl, hs⟩ := q; exact (k a w hs).out) h.out⟩
/-- it returns a new slice whose cells R speaks of, and what was there stays -/
structure FunV2 (P : Program) (f : FuncId) (vs : List Value) (pre : Heap → Prop) (T : TypeId) (sz : Nat) (R : List Value → Prop) : Prop where
  out : ∀ w, pre (fun b => w.heap[b]?) → Calls P f vs.toArray w fun e w' => ∃ v n cs, e = .returned v ∧ R cs ∧ Ext w w' ∧ w'.ownsRow w.heap.size T sz v n cs
theorem FunV2.toN {P : Program} {f : FuncId} {vs : List Value} {pre : Heap → Prop} {T : TypeId} {sz : Nat} {R : List Value → Prop} {cs : List Value} (h : FunV2 P f vs pre T sz R) (hR : ∀ cs', R cs' → cs' = cs) : FunN P f vs pre T sz cs :=
  ⟨fun w hp => (h.out w hp).mono fun _ w' ⟨v, n, cs', he, hr, hx, ho⟩ => by have := hR _ hr; subst this; exact ⟨v, n, he, hx, ho⟩⟩
theorem FunV2.weaken {P : Program} {f : FuncId} {vs : List Value} {pre : Heap → Prop} {T : TypeId} {sz : Nat} {R R' : List Value → Prop} (h : FunV2 P f vs pre T sz R) (hR : ∀ cs', R cs' → R' cs') : FunV2 P f vs pre T sz R' :=
  ⟨fun w hp => (h.out w hp).mono fun _ w' ⟨v, n, cs', he, hr, hx, ho⟩ => ⟨v, n, cs', he, hR _ hr, hx, ho⟩⟩
theorem enterFunV2 {P : Program} {f : FuncId} {fn : Func} {c : Code} {vs : List Value} {n : Nat} {pre : Heap → Prop} {T : TypeId} {sz : Nat} {R : List Value → Prop} (hf : P.funcs[f]? = some fn) (hb : fn.body = some c) (hn : fn.ntmps = n) (hl : Nat.ble vs.length n = true)
    (h : ∀ W0 w a, pre (fun b => W0.heap[b]?) → Mem W0 [] (fun b => W0.heap[b]?) [] w → Holds (enumE 0 vs) n a → CW P c (Post P fn fun u w' => Ext W0 w' ∧ ∃ m cs, R cs ∧ w'.ownsRow W0.heap.size T sz u m cs) a w) : FunV2 P f vs pre T sz R := by
  refine ⟨fun w hp => ?_⟩
  refine (enter (R := fun u w' => Ext w w' ∧ ∃ m cs, R cs ∧ w'.ownsRow w.heap.size T sz u m cs) hf hb hn hl (fun a ha => h w w a hp (Mem.start w) ha)).mono ?_
  rintro e w' ⟨u, rfl, hx, m, cs, hr, hR⟩
  exact ⟨u, m, cs, rfl, hr, hx, hR⟩
theorem does_funV2 {P : Program} {E : Env} {w W0 : World} {X : List Nat} {B : Heap} {L : List Own} {Φ : Value → World → Prop} {ty : TypeId} {f : FuncId} {args : List Operand} {ats : Array TypeId} {vs : List Value} {pre : Heap → Prop} {T : TypeId} {sz : Nat} {R : List Value → Prop} (hm : Mem W0 X B L w) (hen : Enters P f) (hx : evs E args = some vs) (hc : FunV2 P f vs pre T sz R)
    (hp : pre (fun b => w.heap[b]?)) (k : ∀ v cs w', R cs → Mem W0 X B (.row v T sz cs :: L) w' → Φ v w') : Does P (.call { callee := .value (.func f), args := args.toArray, argTypes := ats }) ty E w Φ :=
  does_call hen hx ((hc.out w hp).mono fun _ w' ⟨v, n, cs, he, hr, hx, hR⟩ => ⟨v, he, k v cs w' hr (hm.addRow hx hR)⟩)
end Go.Proofs.Ytnclbllhflinfaa.St
end
