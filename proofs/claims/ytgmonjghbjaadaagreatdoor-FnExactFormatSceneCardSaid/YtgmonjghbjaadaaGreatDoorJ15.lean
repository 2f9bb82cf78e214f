/-
  Plain laws of valid programs: each node belongs to just one assignment.
-/
import Derived.Test.YtgmonjghbjaadaaGreatDoorLVpr
import Derived.Test.YtgmonjghbjaadaaGreatDoorJ7
import Derived.Test.YtgmonjghbjaadaaGreatDoorStFin
import Derived.Test.YtgmonjghbjaadaaGreatDoorJ3

section
set_option linter.unusedSimpArgs false
set_option linter.unusedVariables false
namespace Go.Proofs.YtgmonjghbjaadaaGreatDoor.St
open Go.RowKit
theorem count_two {m : Int} : ∀ {ls : List (List Int)} {i j : Nat} {a b : List Int}, i < j → ls[i]? = some a → ls[j]? = some b → m ∈ a → m ∈ b → 2 ≤ ls.flatten.count m
  | [], i, j, a, b, _, h, _, _, _ => by simp at h
  | l :: ls, 0, j + 1, a, b, _, h1, h2, ha, hb => by
    simp only [List.getElem?_cons_zero, Option.some.injEq] at h1
    simp only [List.getElem?_cons_succ] at h2
    subst h1
    have c1 := List.count_pos_iff.2 ha
    have c2 : 0 < ls.flatten.count m := List.count_pos_iff.2 (List.mem_flatten.2 ⟨b, List.mem_of_getElem? h2, hb⟩)
    simp only [List.flatten_cons, List.count_append]
    omega
  | l :: ls, i + 1, j + 1, a, b, hij, h1, h2, ha, hb => by
    simp only [List.getElem?_cons_succ] at h1 h2
    have := count_two (by omega : i < j) h1 h2 ha hb
    simp only [List.flatten_cons, List.count_append]
    omega
  | l :: ls, i, 0, a, b, hij, _, _, _, _ => absurd hij (Nat.not_lt_zero _)
def lsP (ns : List PNode) (ys : List TAssignment) : List (List Int) := ns.map PNode.args ++ ys.map fun y => [y.2]
theorem lsP_flat (ns : List PNode) (ys : List TAssignment) : (lsP ns ys).flatten = refsN ns ++ ys.map Prod.snd := by
  have : ∀ ys : List TAssignment, (ys.map fun y => [y.2]).flatten = ys.map Prod.snd := fun ys => by induction ys <;> simp_all
  rw [lsP, List.flatten_append, this]
  rfl
theorem lsP_node {ns : List PNode} {ys : List TAssignment} {i : Nat} {x : PNode} (h : ns[i]? = some x) : (lsP ns ys)[i]? = some x.args := by
  have hl := (List.getElem?_eq_some_iff.1 h).1
  rw [lsP, List.getElem?_append_left (by simpa using hl), List.getElem?_map, h]
  rfl
theorem lsP_asg {ns : List PNode} {ys : List TAssignment} {k : Nat} {y : TAssignment} (h : ys[k]? = some y) : (lsP ns ys)[ns.length + k]? = some [y.2] := by
  rw [lsP, List.getElem?_append_right (by simp), List.length_map, Nat.add_sub_cancel_left, List.getElem?_map, h]
  rfl
theorem vProg.sole {ns : List PNode} {ys : List TAssignment} (hv : vProg ns ys) {m : Nat} (hm : m < ns.length) {i j : Nat} {a b : List Int} (h1 : (lsP ns ys)[i]? = some a) (h2 : (lsP ns ys)[j]? = some b) (ha : (m : Int) ∈ a) (hb : (m : Int) ∈ b) : i = j := by
  have h := hv.once m hm
  unfold cnt at h
  rw [← lsP_flat] at h
  rcases Nat.lt_trichotomy i j with hlt | heq | hgt
  · have := count_two hlt h1 h2 ha hb
    omega
  · exact heq
  · have := count_two hgt h2 h1 hb ha
    omega
/-- the node m belongs to the assignment k -/
inductive Own1 (ns : List PNode) (ys : List TAssignment) : Nat → Nat → Prop where
  | root {k m : Nat} {y : TAssignment} (h : ys[k]? = some y) (hm : y.2 = m) : Own1 ns ys m k
  | arg {i m k : Nat} {x : PNode} (h : ns[i]? = some x) (hm : (m : Int) ∈ x.args) (ho : Own1 ns ys i k) : Own1 ns ys m k
theorem args_lt {ns : List PNode} {ys : List TAssignment} (hv : vProg ns ys) {i m : Nat} {x : PNode} (h : ns[i]? = some x) (hm : (m : Int) ∈ x.args) : m < i := by
  obtain ⟨j, hj⟩ := List.mem_iff_getElem?.1 hm
  have hl := (List.getElem?_eq_some_iff.1 hj).1
  have := (hv.nodes i x h).1 j hl
  have e : x.args.getD j 0 = m := by simp [List.getD, hj]
  rw [e] at this
  omega
theorem args_nn {ns : List PNode} {ys : List TAssignment} (hv : vProg ns ys) {i : Nat} {z : Int} {x : PNode} (h : ns[i]? = some x) (hm : z ∈ x.args) : ∃ m : Nat, z = m ∧ m < i := by
  obtain ⟨j, hj⟩ := List.mem_iff_getElem?.1 hm
  have hl := (List.getElem?_eq_some_iff.1 hj).1
  have := (hv.nodes i x h).1 j hl
  have e : x.args.getD j 0 = z := by simp [List.getD, hj]
  rw [e] at this
  exact ⟨z.toNat, by omega, by omega⟩
theorem own_unique {ns : List PNode} {ys : List TAssignment} (hv : vProg ns ys) : ∀ (d m : Nat), ns.length - m ≤ d → m < ns.length → ∀ {k k'}, Own1 ns ys m k → Own1 ns ys m k' → k = k'
  | 0, m, hd, hm, _, _, _, _ => by omega
  | d + 1, m, hd, hm, k, k', h1, h2 => by
    cases h1 with
    | root h hy =>
      cases h2 with
      | root h' hy' =>
        have := hv.sole hm (lsP_asg h) (lsP_asg h') (by simp [hy]) (by simp [hy'])
        omega
      | arg h' hm' ho' =>
        have := hv.sole hm (lsP_asg h) (lsP_node h') (by simp [hy]) hm'
        have := (List.getElem?_eq_some_iff.1 h').1
        omega
    | arg h hmm ho =>
      cases h2 with
      | root h' hy' =>
        have := hv.sole hm (lsP_node h) (lsP_asg h') hmm (by simp [hy'])
        have := (List.getElem?_eq_some_iff.1 h).1
        omega
      | arg h' hm' ho' =>
        have := hv.sole hm (lsP_node h) (lsP_node h') hmm hm'
        subst this
        have hlt := args_lt hv h hmm
        have hil := (List.getElem?_eq_some_iff.1 h).1
        exact own_unique hv d _ (by omega) hil ho ho'
theorem used {ns : List PNode} {ys : List TAssignment} (hv : vProg ns ys) {m : Nat} (hm : m < ns.length) : (∃ (k : Nat) (y : TAssignment), ys[k]? = some y ∧ y.2 = m) ∨ ∃ (i : Nat) (x : PNode), ns[i]? = some x ∧ (m : Int) ∈ x.args := by
  have h := hv.once m hm
  unfold cnt at h
  have hmem : (m : Int) ∈ refsN ns ++ ys.map Prod.snd := List.count_pos_iff.1 (by omega)
  rcases List.mem_append.1 hmem with h | h
  · obtain ⟨l, hl, hml⟩ := List.mem_flatten.1 h
    obtain ⟨x, hx, rfl⟩ := List.mem_map.1 hl
    obtain ⟨i, hi⟩ := List.mem_iff_getElem?.1 hx
    exact .inr ⟨i, x, hi, hml⟩
  · obtain ⟨y, hy, hym⟩ := List.mem_map.1 h
    obtain ⟨k, hk⟩ := List.mem_iff_getElem?.1 hy
    exact .inl ⟨k, y, hk, hym⟩
theorem own_exists {ns : List PNode} {ys : List TAssignment} (hv : vProg ns ys) : ∀ (d m : Nat), ns.length - m ≤ d → m < ns.length → ∃ k, Own1 ns ys m k
  | 0, m, hd, hm => by omega
  | d + 1, m, hd, hm => by
    rcases used hv hm with ⟨k, y, hk, hy⟩ | ⟨i, x, hi, hmx⟩
    · exact ⟨k, .root hk hy⟩
    · have hlt := args_lt hv hi hmx
      have hil := (List.getElem?_eq_some_iff.1 hi).1
      obtain ⟨k, hk⟩ := own_exists hv d i (by omega) hil
      exact ⟨k, .arg hi hmx hk⟩
theorem own_lt {ns : List PNode} {ys : List TAssignment} {m k : Nat} (h : Own1 ns ys m k) : k < ys.length := by
  induction h with
  | root h _ => exact (List.getElem?_eq_some_iff.1 h).1
  | arg _ _ _ ih => exact ih
/-- m lies below i -/
inductive Sub1 (ns : List PNode) : Nat → Nat → Prop where
  | refl {i : Nat} : Sub1 ns i i
  | arg {i j m : Nat} {x : PNode} (h : ns[i]? = some x) (hj : (j : Int) ∈ x.args) (hs : Sub1 ns j m) : Sub1 ns i m
theorem Sub1.snoc {ns : List PNode} {i j m : Nat} {x : PNode} (h : Sub1 ns i j) (hx : ns[j]? = some x) (hm : (m : Int) ∈ x.args) : Sub1 ns i m := by
  induction h with
  | refl => exact .arg hx hm .refl
  | arg h' hj' _ ih => exact .arg h' hj' (ih hx)
theorem Own1.down {ns : List PNode} {ys : List TAssignment} {i m k : Nat} (hs : Sub1 ns i m) (ho : Own1 ns ys i k) : Own1 ns ys m k := by
  induction hs with
  | refl => exact ho
  | arg h hj _ ih => exact ih (.arg h hj ho)
theorem Own1.top {ns : List PNode} {ys : List TAssignment} {m k : Nat} (h : Own1 ns ys m k) : ∃ (y : TAssignment) (r : Nat), ys[k]? = some y ∧ y.2 = r ∧ Sub1 ns r m := by
  induction h with
  | root h hm => exact ⟨_, _, h, hm, .refl⟩
  | arg h hm _ ih =>
    obtain ⟨y, r, h1, h2, h3⟩ := ih
    exact ⟨y, r, h1, h2, h3.snoc h hm⟩
theorem Sub1.lt {ns : List PNode} {ys : List TAssignment} (hv : vProg ns ys) {i m : Nat} (hs : Sub1 ns i m) : m ≤ i := by
  induction hs with
  | refl => exact Nat.le_refl _
  | arg h hj _ ih =>
    have := args_lt hv h hj
    omega
structure OwnL (ns : List PNode) (ys : List TAssignment) (os : List Int) : Prop where
  len : os.length = ns.length
  own : ∀ m, m < ns.length → ∃ k : Nat, os[m]? = some (k : Int) ∧ Own1 ns ys m k
theorem OwnL.eq {ns : List PNode} {ys : List TAssignment} (hv : vProg ns ys) {os os' : List Int} (h : OwnL ns ys os) (h' : OwnL ns ys os') : os = os' := by
  apply List.ext_getElem?
  intro m
  by_cases hm : m < ns.length
  · obtain ⟨k, h1, h2⟩ := h.own m hm
    obtain ⟨k', h1', h2'⟩ := h'.own m hm
    rw [h1, h1', own_unique hv _ m (Nat.le_refl _) hm h2 h2']
  · rw [List.getElem?_eq_none (by rw [h.len]; omega), List.getElem?_eq_none (by rw [h'.len]; omega)]
end Go.Proofs.YtgmonjghbjaadaaGreatDoor.St
end

section
/-
  To which assignment each node of a valid program belongs: the program's walk down from the roots, and the reference's walk over the nodes.
-/
set_option linter.unusedSimpArgs false
set_option linter.unusedVariables false
namespace Go.Proofs.YtgmonjghbjaadaaGreatDoor.St
open Go.RowKit
theorem does_funLV {P : Program} {E : Env} {w W0 : World} {X : List Nat} {B : Heap} {L : List Own} {Φ : Value → World → Prop} {ty : TypeId} {c : Operand} {f : FuncId} {args : List Operand} {ats : Array TypeId} {first vs cap us : List Value} {L0 : List Own} {pre : Heap → Prop} {R : Value → List Own → Prop}
    (hm : Mem W0 X B (L0 ++ L) w) (hf : ev E c = some (.func (.func f) first.toArray cap.toArray)) (hx : evs E args = some vs) (hus : first ++ vs ++ cap = us) [hen : En P f] (hc : FunL P f us L0 pre R) (hp : pre B)
    (k : ∀ v L' w', R v L' → Mem W0 X B (L' ++ L) w' → Φ v w') : Does P (.call { callee := .value c, args := args.toArray, argTypes := ats }) ty E w Φ :=
  does_callV hen.out hf hx (by rw [hus]; exact (hc.out W0 X B L w hp hm).mono fun _ w' ⟨v, L', he, hR, hn⟩ => ⟨v, he, k v L' w' hR hn⟩)
structure VisS (D : Nat → Prop) (k : Nat) (us us' : List Int) : Prop where
  len : us'.length = us.length
  yes : ∀ m, D m → us'[m]? = some (k : Int)
  no : ∀ m, ¬ D m → us'[m]? = us[m]?
theorem VisS.comp {D D' : Nat → Prop} {k : Nat} {us us' us'' : List Int} (h : VisS D k us us') (h' : VisS D' k us' us'') : VisS (fun m => D m ∨ D' m) k us us'' := by
  refine ⟨by rw [h'.len, h.len], fun m hm => ?_, fun m hm => ?_⟩
  · by_cases hd : D' m
    · exact h'.yes m hd
    · rw [h'.no m hd]
      exact h.yes m (hm.resolve_right hd)
  · rw [h'.no m fun e => hm (.inr e), h.no m fun e => hm (.inl e)]
theorem VisS.congr {D D' : Nat → Prop} {k : Nat} {us us' : List Int} (h : VisS D k us us') (hd : ∀ m, D m ↔ D' m) : VisS D' k us us' :=
  ⟨h.len, fun m hm => h.yes m ((hd m).2 hm), fun m hm => h.no m fun e => hm ((hd m).1 e)⟩
theorem VisS.set {us : List Int} {i : Nat} (k : Nat) (h : i < us.length) : VisS (fun m => m = i) k us (us.set i k) :=
  ⟨by simp, fun m hm => by subst hm; exact List.getElem?_set_self h, fun m hm => List.getElem?_set_ne fun e => hm e.symm⟩
abbrev ptr0 (b : Nat) : Value := .pointer (some ⟨b, 0, none⟩)
abbrev visL (fn : FuncId) (b bo bp bv n : Nat) (p q : Option Addr) (nx c ny d : Nat) (To Tp Tv : TypeId) (us : List Int) : List Own :=
  [.blk bv (.cells [.func (.func fn) #[] #[ptr0 bo, ptr0 bp, ptr0 bv]].toArray Tv), .blk bo (.cells [.slice (some ⟨b, 0, none⟩) n n].toArray To), .blk b (.cells (us.map I).toArray 3), .blk bp (.cells [.slice p nx c, .slice q ny d].toArray Tp)]
set_option maxHeartbeats 8000000 in
theorem visit_ok (b bo bp bv : Nat) (p q : Option Addr) (xs : List TNode) (ys : List TAssignment) (c d : Nat) (To Tp Tv : TypeId) (k : Nat) (hxs : xs.length ≤ 60) (hv : vProg (xs.map aN) ys) (i : Nat) (us : List Int) (hi : i < xs.length) (hus : us.length = xs.length) :
    FunL Tryz.prog 136 [.int .i64 i, .int .i64 k, ptr0 bo, ptr0 bp, ptr0 bv] (visL 136 b bo bp bv xs.length p q xs.length c ys.length d To Tp Tv us) (fun B => NodesH B p xs)
    (fun _ L' => ∃ us', L' = visL 136 b bo bp bv xs.length p q xs.length c ys.length d To Tp Tv us' ∧ VisS (Sub1 (xs.map aN) i) k us us') := by
  induction i using Nat.strongRecOn generalizing us with
  | _ i ih =>
  refine enterFunL Tryz.func136 rfl Tryz.ntmps136 rfl (fun W0 X B L w a hp hm h => ?_)
  simp only [visL, List.cons_append, List.nil_append] at hm
  obtain ⟨q1, hq1, hat1⟩ := hp.row.at hi
  have hargs := hp.args _ (List.getElem_mem hi)
  have g2 : (xs.map aN)[i]? = some xs[i].a := by rw [List.getElem?_map, List.getElem?_eq_getElem hi]; rfl
  have h3 : xs[i].a.args.length ≤ 3 := ar3 (hv.nodes i _ g2).2
  subst hq1
  repeat' (first | refine c_seq ?_ | refine c_region ?_ | refine c_nil ?_ | refine k_then ?_ | refine c_block ?_ | ((first | refine st_op rfl rfl h ?_ | refine st_opn rfl h ?_); clear h a; (first | (show Does _ (.store _ _ _) _ _ _ _; (((refine does_storeArr (u := (k : Int)) 2 hm rfl rfl rfl rfl rfl (by omega) rfl rfl rfl ?_; clear hm; intro w hm; simp only [List.set_cons_succ, List.set_cons_zero] at hm)))) | (show Does _ (.move _) _ _ _ _; refine does_move rfl ?_) | (show Does _ (.fieldAddr _ _ _) _ _ _ _; (first | refine does_fieldAddrL rfl ?_ | refine does_fieldAddr rfl ?_)) | (show Does _ (.load _ _) _ _ _ _; (first | refine zl hm rfl rfl ?_ | refine does_loadB hm rfl (At.add (by assumption) _) rfl ?_)) | (show Does _ (.call _) _ _ _ _; refine does_lenS (SliceT.out) rfl ?_) | (show Does _ (.indexAddr _ _ _) _ _ _ _; (first | refine ziSL1 rfl rfl ?_ | refine ziSn rfl rfl ?_))); intro a h; (try simp only [Value.cells, splice, nz, Nat.reduceAdd, Nat.reduceMul, Int.reduceAdd, Int.reduceToNat, Int.reduceTMod] at h)))
  refine c_loop (σ := Nat × List Int) (fun s a w => s.1 ≤ xs[i].a.args.length ∧ VisS (fun m => m = i ∨ ∃ (j' c : Nat), j' < s.1 ∧ xs[i].a.args[j']? = some (c : Int) ∧ Sub1 (xs.map aN) c m) k us s.2 ∧ Mem W0 X B (visL 136 b bo bp bv xs.length (some q1) q xs.length c ys.length d To Tp Tv s.2 ++ L) w ∧
    Holds [(1, .int .i64 k), (4, ptr0 bv), (18, .slice xs[i].ptr xs[i].a.args.length xs[i].cap), (19, .int .i64 xs[i].a.args.length), (20, .int .i64 s.1)] _ a) (fun s => xs[i].a.args.length - s.1) (0, us.set i k)
    ⟨Nat.zero_le _, (VisS.set k (by omega)).congr (fun m => ⟨.inl, fun e => e.resolve_right (by rintro ⟨j', _, hj, _⟩; exact absurd hj (Nat.not_lt_zero _))⟩), hm, h.keep ⟨rfl, rfl, rfl, rfl, rfl, trivial⟩⟩ ?_
  clear h hm
  rintro ⟨j, us2⟩ a w ⟨hj, hvis, hm, h⟩
  simp only at hj hvis hm h
  simp only [visL, List.cons_append, List.nil_append] at hm
  by_cases hlt : j < xs[i].a.args.length
  · obtain ⟨q2, hq2, hat2⟩ := hargs.at1 hlt
    obtain ⟨m, hm0, hmi⟩ := args_nn hv g2 (List.getElem_mem hlt)
    have hgj : xs[i].a.args[j]? = some (m : Int) := by rw [List.getElem?_eq_getElem hlt, hm0]
    rw [hm0] at hat2
    rw [hq2] at h
    have hih := ih m hmi us2 (by omega) (by rw [hvis.len, hus])
    repeat' (first | refine c_seq ?_ | refine c_region ?_ | refine c_nil ?_ | refine k_then ?_ | refine k_inN ?_ | refine c_skip ?_ | refine c_block ?_ | refine c_condT h rfl ?_ | ((refine st_op rfl rfl h ?_); clear h a; (first | (show Does _ (.call _) _ _ _ _; (((refine does_funLV (L0 := visL 136 b bo bp bv xs.length (some q1) q xs.length c ys.length d To Tp Tv us2) (L := L) hm rfl rfl rfl hih hp ?_; clear hm; rintro v L1 w ⟨us3, rfl, hvis3⟩ hm)))) | (show Does _ (.move _) _ _ _ _; refine does_move rfl ?_) | (show Does _ (.assign _) _ _ _ _; refine does_assign rfl ?_) | (show Does _ (.load _ _) _ _ _ _; (first | refine zl hm rfl rfl ?_ | refine does_loadB hm rfl (by assumption) rfl ?_)) | (show Does _ (.binOp _ _ _ _ _) _ _ _ _; (first | refine zlss rfl rfl ?_ | refine zadd rfl rfl ?_)) | (show Does _ (.indexAddr _ _ _) _ _ _ _; (refine ziS1 rfl rfl ?_))); intro a h; (try simp only [Value.cells, splice, nz, Nat.reduceAdd, Nat.reduceMul, Int.reduceAdd, Int.reduceToNat, Int.reduceTMod] at h)))
    rw [← hq2] at h
    refine k_thenN ⟨(j + 1, us3), ⟨by omega, (hvis.comp hvis3).congr fun n => ?_, hm, h.keep ⟨rfl, rfl, rfl, rfl, rfl, trivial⟩⟩, by show xs[i].a.args.length - (j + 1) < xs[i].a.args.length - j; omega⟩
    constructor
    · rintro ((h1 | ⟨j', c', h1, h2, h3⟩) | h1)
      · exact .inl h1
      · exact .inr ⟨j', c', by show j' < j + 1; omega, h2, h3⟩
      · exact .inr ⟨j, m, by show j < j + 1; omega, hgj, h1⟩
    · rintro (h1 | ⟨j', c', h1, h2, h3⟩)
      · exact .inl (.inl h1)
      · by_cases hjj : j' < j
        · exact .inl (.inr ⟨j', c', hjj, h2, h3⟩)
        · obtain rfl : j' = j := by have h1' : j' < j + 1 := h1; omega
          rw [hgj] at h2
          have : m = c' := by have := Option.some.inj h2; omega
          subst this
          exact .inr h3
  · obtain rfl : j = xs[i].a.args.length := by omega
    repeat' (first | refine c_seq ?_ | refine c_region ?_ | refine c_nil ?_ | refine k_then ?_ | refine k_thenE ?_ | refine k_inE ?_ | refine c_exit ?_ | refine c_condF h rfl ?_ | ((refine st_op rfl rfl h ?_); clear h a; ((show Does _ (.binOp _ _ _ _ _) _ _ _ _; (refine zlss rfl rfl ?_))); intro a h; (try simp only [Value.cells, splice, nz, Nat.reduceAdd, Nat.reduceMul, Int.reduceAdd, Int.reduceToNat, Int.reduceTMod] at h)))
    refine k_norm (k_ret (rs := []) (vs := []) rfl h trivial ⟨_, ⟨us2, rfl, hvis.congr fun n => ?_⟩, hm⟩)
    constructor
    · rintro (rfl | ⟨j', c', h1, h2, h3⟩)
      · exact .refl
      · exact .arg g2 (List.mem_of_getElem? h2) h3
    · intro hs
      cases hs with
      | refl => exact .inl rfl
      | arg h hj' hs =>
        rw [g2] at h
        cases h
        obtain ⟨j', hj''⟩ := List.mem_iff_getElem?.1 hj'
        exact .inr ⟨j', _, (List.getElem?_eq_some_iff.1 hj'').1, hj'', hs⟩
set_option maxHeartbeats 8000000 in
theorem owners_ok (p q : Option Addr) (xs : List TNode) (ys : List TAssignment) (c d : Nat) (hys : ys.length ≤ 1048576) (hv : vProg (xs.map aN) ys) :
    FunV2 Tryz.prog 115 [.agg #[.slice p xs.length c, .slice q ys.length d]] (fun H => ProgH H p q xs ys) 3 1 (fun cs => ∃ os, cs = (os.map eI).flatten ∧ OwnL (xs.map aN) ys os) := by
  have hlen : (xs.map aN).length = xs.length := List.length_map _
  have hxs : xs.length ≤ 60 := by have := hv.small; omega
  refine enterFunV2 Tryz.func115 rfl Tryz.ntmps115 rfl (fun W0 w a hp hm h => ?_)
  obtain ⟨hx, hy⟩ := hp
  repeat' (first | refine c_seq ?_ | refine c_region ?_ | refine c_nil ?_ | refine k_then ?_ | refine c_block ?_ | ((first | (refine st_op (d := 1) rfl rfl h ?_; refine does_box hm rfl rfl ?_; clear h a hm; intro b_1 w hm a h) | (refine st_op (d := 3) rfl rfl h ?_; refine does_alloc hm ?_; clear h a hm; intro b_3 w hm a h) | (refine st_op (d := 4) rfl rfl h ?_; refine does_alloc hm ?_; clear h a hm; intro b_4 w hm a h)); (try simp only [Value.cells, splice, nz, Nat.reduceAdd, Nat.reduceMul, Int.reduceAdd, Int.reduceToNat, Int.reduceTMod] at h)) | ((first | refine st_op rfl rfl h ?_ | refine st_opn rfl h ?_); clear h a; (first | (show Does _ (.makeSlice _ _ _) _ _ _ _; ((refine does_make hm rfl rfl (by omega) (by omega) ?_; clear hm; intro b w hm))) | (show Does _ (.store _ _ _) _ _ _ _; ((refine zs hm rfl rfl rfl rfl rfl rfl ?_); clear hm; intro w hm; (try simp only [Value.cells, splice, nz, ns, Nat.reduceAdd, Nat.reduceMul, Int.reduceAdd, Int.reduceToNat] at hm))) | (show Does _ (.move _) _ _ _ _; refine does_move rfl ?_) | (show Does _ (.assign _) _ _ _ _; refine does_assign rfl ?_) | (show Does _ (.fieldAddr _ _ _) _ _ _ _; (refine does_fieldAddrL rfl ?_)) | (show Does _ (.load _ _) _ _ _ _; (refine zl hm rfl rfl ?_)) | (show Does _ (.call _) _ _ _ _; refine does_lenS (SliceT.out) rfl ?_) | (show Does _ (.makeFunc _ _ _) _ _ _ _; refine does_makeFunc rfl rfl ?_)); intro a h; (try simp only [Value.cells, splice, nz, Nat.reduceAdd, Nat.reduceMul, Int.reduceAdd, Int.reduceToNat, Int.reduceTMod] at h)))
  rw [rep_cnt] at hm
  refine c_loop (σ := Nat × List Int) (fun s a w => s.1 ≤ ys.length ∧ s.2.length = xs.length ∧ (∀ (m k' r : Nat) (y : TAssignment), k' < s.1 → ys[k']? = some y → y.2 = r → Sub1 (xs.map aN) r m → ∃ k'' : Nat, s.2[m]? = some (k'' : Int) ∧ Own1 (xs.map aN) ys m k'') ∧ Mem W0 [] (fun b => W0.heap[b]?) (visL 136 b b_3 b_1 b_4 xs.length p q xs.length c ys.length d 24 53 171 s.2) w ∧
    Holds [(3, ptr0 b_3), (4, ptr0 b_4), (13, .slice q ys.length d), (14, .int .i64 ys.length), (15, .int .i64 s.1)] _ a) (fun s => ys.length - s.1) (0, cntL xs.length [])
    ⟨Nat.zero_le _, cntL_len _ _, fun m k' r y hk' => absurd hk' (Nat.not_lt_zero _), hm, h.keep ⟨rfl, rfl, rfl, rfl, rfl, trivial⟩⟩ ?_
  clear h hm
  rintro ⟨k, us⟩ a w ⟨hk, hul, hown, hm, h⟩
  simp only at hk hul hown hm h
  simp only [visL] at hm
  by_cases hlt : k < ys.length
  · obtain ⟨q1, rfl, hat1⟩ := hy.at hlt
    have g1 : ys[k]? = some ys[k] := List.getElem?_eq_getElem hlt
    have has := hv.asg _ (List.getElem_mem hlt)
    obtain ⟨r, hr0⟩ : ∃ r : Nat, ys[k].2 = (r : Int) := ⟨ys[k].2.toNat, by omega⟩
    have hrn : r < xs.length := by omega
    change At _ _ [.string ys[k].1, I ys[k].2] at hat1
    rw [hr0] at hat1
    have hvis := visit_ok b b_3 b_1 b_4 p (some q1) xs ys c d 24 53 171 k hxs hv r us hrn hul
    repeat' (first | refine c_seq ?_ | refine c_region ?_ | refine c_nil ?_ | refine k_then ?_ | refine k_inN ?_ | refine c_skip ?_ | refine c_block ?_ | refine c_condT h rfl ?_ | (((refine st_op (d := 6) rfl rfl h ?_; refine does_alloc hm ?_; clear h a hm; intro b_6 w hm a h)); (try simp only [Value.cells, splice, nz, Nat.reduceAdd, Nat.reduceMul, Int.reduceAdd, Int.reduceToNat, Int.reduceTMod] at h)) | ((first | refine st_op rfl rfl h ?_ | refine st_opn rfl h ?_); clear h a; (first | (show Does _ (.call _) _ _ _ _; (((refine does_funLV (L0 := visL 136 b b_3 b_1 b_4 xs.length p (some q1) xs.length c ys.length d 24 53 171 us) (L := []) hm.drop rfl rfl rfl hvis hx ?_; clear hm; rintro v L1 w ⟨us3, rfl, hvis3⟩ hm; rw [List.append_nil] at hm)))) | (show Does _ (.store _ _ _) _ _ _ _; ((refine zs hm rfl rfl rfl rfl rfl rfl ?_); clear hm; intro w hm; (try simp only [Value.cells, splice, nz, ns, Nat.reduceAdd, Nat.reduceMul, Int.reduceAdd, Int.reduceToNat] at hm))) | (show Does _ (.move _) _ _ _ _; refine does_move rfl ?_) | (show Does _ (.assign _) _ _ _ _; refine does_assign rfl ?_) | (show Does _ (.fieldAddr _ _ _) _ _ _ _; (refine does_fieldAddrL rfl ?_)) | (show Does _ (.load _ _) _ _ _ _; (first | refine zl hm rfl rfl ?_ | refine does_loadBA hm rfl (by assumption) rfl ?_)) | (show Does _ (.binOp _ _ _ _ _) _ _ _ _; (first | refine zlss rfl rfl ?_ | refine zadd rfl rfl ?_)) | (show Does _ (.indexAddr _ _ _) _ _ _ _; (refine ziSn rfl rfl ?_))); intro a h; (try simp only [Value.cells, splice, nz, Nat.reduceAdd, Nat.reduceMul, Int.reduceAdd, Int.reduceToNat, Int.reduceTMod] at h)))
    refine k_thenN ⟨(k + 1, us3), ⟨by omega, by rw [hvis3.len]; exact hul, fun m k' r' y hk' hy' hyr hs => ?_, hm, h.keep ⟨rfl, rfl, rfl, rfl, rfl, trivial⟩⟩, by show ys.length - (k + 1) < ys.length - k; omega⟩
    by_cases hsm : Sub1 (xs.map aN) r m
    · exact ⟨k, hvis3.yes m hsm, (Own1.root g1 hr0).down hsm⟩
    · have hkk : k' < k := by
        have hk1 : k' < k + 1 := hk'
        by_cases he : k' = k
        · subst he
          rw [g1] at hy'
          cases hy'
          rw [hr0] at hyr
          have : r = r' := by omega
          subst this
          exact absurd hs hsm
        · omega
      rw [hvis3.no m hsm]
      exact hown m k' r' y hkk hy' hyr hs
  · obtain rfl : k = ys.length := by omega
    have hOwn : OwnL (xs.map aN) ys us := ⟨by rw [hul, hlen], fun m hm0 => by
      obtain ⟨k, hk1⟩ := own_exists hv _ m (Nat.le_refl _) hm0
      obtain ⟨y, r, h1, h2, h3⟩ := hk1.top
      exact hown m k r y (own_lt hk1) h1 h2 h3⟩
    rw [← flat_map_I] at hm
    have hfl : (us.map eI).flatten.length = xs.length * 1 := by rw [flat_len (enc := eI) (sz := 1) (fun _ => rfl), hul]
    replace hm := hm.toRow 2 (n := xs.length) (cap := 0) 1 rfl hfl (by simp only [maxLen]; omega)
    simp only [List.set_cons_succ, List.set_cons_zero] at hm
    repeat' (first | refine c_seq ?_ | refine c_region ?_ | refine c_nil ?_ | refine k_then ?_ | refine k_thenE ?_ | refine k_inE ?_ | refine c_ret ?_ | refine c_exit ?_ | refine c_condF h rfl ?_ | ((refine st_op rfl rfl h ?_); clear h a; (first | (show Does _ (.assign _) _ _ _ _; refine does_assign rfl ?_) | (show Does _ (.load _ _) _ _ _ _; (refine zl hm rfl rfl ?_)) | (show Does _ (.binOp _ _ _ _ _) _ _ _ _; (refine zlss rfl rfl ?_))); intro a h; (try simp only [Value.cells, splice, nz, Nat.reduceAdd, Nat.reduceMul, Int.reduceAdd, Int.reduceToNat, Int.reduceTMod] at h)))
    exact k_ret1 rfl h rfl ⟨hm.below, _, _, ⟨us, rfl, hOwn⟩, (row_new (i := 2) hm rfl).choose_spec⟩
end Go.Proofs.YtgmonjghbjaadaaGreatDoor.St
end
