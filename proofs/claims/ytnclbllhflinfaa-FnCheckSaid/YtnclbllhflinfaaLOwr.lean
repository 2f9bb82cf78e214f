/-
  To which assignment each node of a valid program belongs: the program's walk down from the roots, and the reference's walk over the nodes.
-/
import Derived.Test.YtnclbllhflinfaaJ4
import Derived.Test.YtnclbllhflinfaaStIns
import Derived.Test.YtnclbllhflinfaaJ2
set_option linter.unusedSimpArgs false
set_option linter.unusedVariables false
namespace Go.Proofs.Ytnclbllhflinfaa.St
open Go.RowKit
theorem does_funLV {P : Program} {E : Env} {w W0 : World} {X : List Nat} {B : Heap} {L : List Own} {Φ : Value → World → Prop} {ty : TypeId} {c : Operand} {f : FuncId} {args : List Operand} {ats : Array TypeId} {first vs cap us : List Value} {L0 : List Own} {pre : Heap → Prop} {R : Value → List Own → Prop}
    (hm : Mem W0 X B (L0 ++ L) w) (hf : ev E c = some (.func (.func f) first.toArray cap.toArray)) (hx : evs E args = some vs) (hus : first ++ vs ++ cap = us) [hen : En P f] (hc : FunL P f us L0 pre R) (hp : pre B)
    (k : ∀ v L' w', R v L' → Mem W0 X B (L' ++ L) w' → Φ v w') : Does P (.call { callee := .value c, args := args.toArray, argTypes := ats }) ty E w Φ :=
  does_callV hen.out hf hx (by rw [hus]; exact (hc.out W0 X B L w hp hm).mono fun _ w' ⟨v, L', he, hR, hn⟩ => ⟨v, he, k v L' w' hR hn⟩)
structure VisS (D : Nat → Prop) (k : Nat) (us us' : List Int) : Prop where
  len : us'.length = us.length
  yes : ∀ m, D m → us'[m]? = some (k : Int)
  no : ∀ m, ¬ D m → us'[m]? = us[m]?
theorem VisS.comp {D D' : Nat → Prop} {k : Nat} {us us' us'' : List Int} (h : VisS D k us us') (h' : VisS D' k us' us'') : VisS (fun m => D m ∨ D' m) k us us'' := by
  refine ⟨by rw [h'.len, h.len], fun m hm => ?_, fun m hm => ?_⟩
  · by_cases hd : D' m
    · exact h'.yes m hd
    · rw [h'.no m hd]
      exact h.yes m (hm.resolve_right hd)
  · rw [h'.no m fun e => hm (.inr e), h.no m fun e => hm (.inl e)]
theorem VisS.congr {D D' : Nat → Prop} {k : Nat} {us us' : List Int} (h : VisS D k us us') (hd : ∀ m, D m ↔ D' m) : VisS D' k us us' :=
  ⟨h.len, fun m hm => h.yes m ((hd m).2 hm), fun m hm => h.no m fun e => hm ((hd m).1 e)⟩
theorem VisS.set {us : List Int} {i : Nat} (k : Nat) (h : i < us.length) : VisS (fun m => m = i) k us (us.set i k) :=
  ⟨by simp, fun m hm => by subst hm; exact List.getElem?_set_self h, fun m hm => List.getElem?_set_ne fun e => hm e.symm⟩
abbrev ptr0 (b : Nat) : Value := .pointer (some ⟨b, 0, none⟩)
abbrev visL (fn : FuncId) (b bo bp bv n : Nat) (p q : Option Addr) (nx c ny d : Nat) (To Tp Tv : TypeId) (us : List Int) : List Own :=
  [.blk bv (.cells [.func (.func fn) #[] #[ptr0 bo, ptr0 bp, ptr0 bv]].toArray Tv), .blk bo (.cells [.slice (some ⟨b, 0, none⟩) n n].toArray To), .blk b (.cells (us.map I).toArray 3), .blk bp (.cells [.slice p nx c, .slice q ny d].toArray Tp)]
set_option maxHeartbeats 8000000 in
theorem visit_ok (b bo bp bv : Nat) (p q : Option Addr) (xs : List TNode) (ys : List TAssignment) (c d : Nat) (To Tp Tv : TypeId) (k : Nat) (hxs : xs.length ≤ 60) (hv : vProg (xs.map aN) ys) (i : Nat) (us : List Int) (hi : i < xs.length) (hus : us.length = xs.length) :
    FunL Try.prog 30 [.int .i64 i, .int .i64 k, ptr0 bo, ptr0 bp, ptr0 bv] (visL 30 b bo bp bv xs.length p q xs.length c ys.length d To Tp Tv us) (fun B => NodesH B p xs)
    (fun _ L' => ∃ us', L' = visL 30 b bo bp bv xs.length p q xs.length c ys.length d To Tp Tv us' ∧ VisS (Sub1 (xs.map aN) i) k us us') := by
  induction i using Nat.strongRecOn generalizing us with
  | _ i ih =>
  refine enterFunL Try.func30 rfl Try.ntmps30 rfl (fun W0 X B L w a hp hm h => ?_)
  simp only [visL, List.cons_append, List.nil_append] at hm
  obtain ⟨q1, hq1, hat1⟩ := hp.row.at hi
  have hargs := hp.args _ (List.getElem_mem hi)
  have g2 : (xs.map aN)[i]? = some xs[i].a := by rw [List.getElem?_map, List.getElem?_eq_getElem hi]; rfl
  have h3 : xs[i].a.args.length ≤ 3 := ar3 (hv.nodes i _ g2).2
  subst hq1
  repeat' (first | refine c_seq ?_ | refine c_region ?_ | refine c_nil ?_ | refine k_then ?_ | refine k_thenL ?_ | refine k_thenR ?_ | refine k_thenE ?_ | refine k_inN ?_ | refine k_inR ?_ | refine k_inE ?_ | refine k_inO rfl ?_ | refine c_skip ?_ | refine c_ret ?_ | refine c_exit ?_ | refine c_block ?_ | refine r_succ ?_ | refine c_condT h rfl ?_ | refine c_condF h rfl ?_ | ((first | refine st_op rfl rfl h ?_ | refine st_opn rfl h ?_); clear h a; (first | (show Does _ (.store _ _ _) _ _ _ _; (first | ((refine does_storeArr (u := (k : Int)) 2 hm rfl rfl rfl rfl rfl (by omega) rfl rfl rfl ?_; clear hm; intro w hm; simp only [List.set_cons_succ, List.set_cons_zero] at hm)) | ((first | refine zs hm rfl rfl rfl rfl rfl rfl ?_ | refine does_storeM 0 hm rfl rfl rfl (by assumption) (by omega) rfl rfl rfl rfl ?_ | refine does_storeM0 0 hm rfl rfl rfl (by assumption) (by omega) rfl rfl rfl rfl ?_); clear hm; intro w hm; (try simp only [Value.cells, splice, nz, ns, Nat.reduceAdd, Nat.reduceMul, Int.reduceAdd, Int.reduceToNat] at hm)))) | (show Does _ (.move _) _ _ _ _; refine does_move rfl ?_) | (show Does _ (.assign _) _ _ _ _; refine does_assign rfl ?_) | (show Does _ (.fieldAddr _ _ _) _ _ _ _; (first | refine does_fieldAddrL rfl ?_ | refine does_fieldAddr rfl ?_)) | (show Does _ (.load _ _) _ _ _ _; (first | refine zl hm rfl rfl ?_ | refine za hm rfl rfl ?_ | refine does_loadB hm rfl (by assumption) rfl ?_ | refine does_loadBA hm rfl (by assumption) rfl ?_ | refine does_loadB hm rfl (At.add (by assumption) _) rfl ?_)) | (show Does _ (.binOp _ _ _ _ _) _ _ _ _; (first | refine zlss rfl rfl ?_ | refine zadd rfl rfl ?_)) | (show Does _ (.call _) _ _ _ _; refine does_lenS (SliceT.out) rfl ?_) | (show Does _ (.indexAddr _ _ _) _ _ _ _; (first | refine ziSL1 rfl rfl ?_ | refine ziSLn rfl rfl ?_ | refine ziSL rfl rfl ?_ | refine ziS1 rfl rfl ?_ | refine ziSn rfl rfl ?_ | refine ziS1m rfl rfl ?_ | refine ziS rfl rfl ?_ | refine ziPL rfl rfl ?_ | refine ziP rfl rfl ?_))); intro a h; (try simp only [Value.cells, splice, nz, Nat.reduceAdd, Nat.reduceMul, Int.reduceAdd, Int.reduceToNat, Int.reduceTMod] at h)) | ((first | refine st_skip rfl rfl h ?_ | refine st_skipn rfl h ?_); clear h a; intro a h) | ((first | refine c_condD h rfl ?_ ?_ | refine c_cond h rfl ?_ ?_) <;> intro hc <;> (try (first | exact absurd trivial hc | exact absurd rfl hc))) | (refine st_guardD rfl rfl h ?_ ?_ <;> clear h <;> intro hc h))
  refine c_loop (σ := Nat × List Int) (fun s a w => s.1 ≤ xs[i].a.args.length ∧ VisS (fun m => m = i ∨ ∃ (j' c : Nat), j' < s.1 ∧ xs[i].a.args[j']? = some (c : Int) ∧ Sub1 (xs.map aN) c m) k us s.2 ∧ Mem W0 X B (visL 30 b bo bp bv xs.length (some q1) q xs.length c ys.length d To Tp Tv s.2 ++ L) w ∧
    Holds [(1, .int .i64 k), (4, ptr0 bv), (18, .slice xs[i].ptr xs[i].a.args.length xs[i].cap), (19, .int .i64 xs[i].a.args.length), (20, .int .i64 s.1)] _ a) (fun s => xs[i].a.args.length - s.1) (0, us.set i k)
    ⟨Nat.zero_le _, (VisS.set k (by omega)).congr (fun m => ⟨.inl, fun e => e.resolve_right (by rintro ⟨j', _, hj, _⟩; exact absurd hj (Nat.not_lt_zero _))⟩), hm, h.keep ⟨rfl, rfl, rfl, rfl, rfl, trivial⟩⟩ ?_
  clear h hm
  rintro ⟨j, us2⟩ a w ⟨hj, hvis, hm, h⟩
  simp only at hj hvis hm h
  simp only [visL, List.cons_append, List.nil_append] at hm
  by_cases hlt : j < xs[i].a.args.length
  · obtain ⟨q2, hq2, hat2⟩ := hargs.at1 hlt
    obtain ⟨m, hm0, hmi⟩ := args_nn hv g2 (List.getElem_mem hlt)
    have hgj : xs[i].a.args[j]? = some (m : Int) := by rw [List.getElem?_eq_getElem hlt, hm0]
    rw [hm0] at hat2
    rw [hq2] at h
    have hih := ih m hmi us2 (by omega) (by rw [hvis.len, hus])
    repeat' (first | refine c_seq ?_ | refine c_region ?_ | refine c_nil ?_ | refine k_then ?_ | refine k_thenL ?_ | refine k_thenR ?_ | refine k_thenE ?_ | refine k_inN ?_ | refine k_inR ?_ | refine k_inE ?_ | refine k_inO rfl ?_ | refine c_skip ?_ | refine c_ret ?_ | refine c_exit ?_ | refine c_block ?_ | refine r_succ ?_ | refine c_condT h rfl ?_ | refine c_condF h rfl ?_ | ((first | refine st_op rfl rfl h ?_ | refine st_opn rfl h ?_); clear h a; (first | (show Does _ (.call _) _ _ _ _; (first | ((refine does_funLV (L0 := visL 30 b bo bp bv xs.length (some q1) q xs.length c ys.length d To Tp Tv us2) (L := L) hm rfl rfl rfl hih hp ?_; clear hm; rintro v L1 w ⟨us3, rfl, hvis3⟩ hm)) | refine does_lenS (SliceT.out) rfl ?_)) | (show Does _ (.store _ _ _) _ _ _ _; ((first | refine zs hm rfl rfl rfl rfl rfl rfl ?_ | refine does_storeM 0 hm rfl rfl rfl (by assumption) (by omega) rfl rfl rfl rfl ?_ | refine does_storeM0 0 hm rfl rfl rfl (by assumption) (by omega) rfl rfl rfl rfl ?_); clear hm; intro w hm; (try simp only [Value.cells, splice, nz, ns, Nat.reduceAdd, Nat.reduceMul, Int.reduceAdd, Int.reduceToNat] at hm))) | (show Does _ (.move _) _ _ _ _; refine does_move rfl ?_) | (show Does _ (.assign _) _ _ _ _; refine does_assign rfl ?_) | (show Does _ (.fieldAddr _ _ _) _ _ _ _; (first | refine does_fieldAddrL rfl ?_ | refine does_fieldAddr rfl ?_)) | (show Does _ (.load _ _) _ _ _ _; (first | refine zl hm rfl rfl ?_ | refine za hm rfl rfl ?_ | refine does_loadB hm rfl (by assumption) rfl ?_ | refine does_loadBA hm rfl (by assumption) rfl ?_ | refine does_loadB hm rfl (At.add (by assumption) _) rfl ?_)) | (show Does _ (.binOp _ _ _ _ _) _ _ _ _; (first | refine zlss rfl rfl ?_ | refine zadd rfl rfl ?_)) | (show Does _ (.indexAddr _ _ _) _ _ _ _; (first | refine ziSL1 rfl rfl ?_ | refine ziSLn rfl rfl ?_ | refine ziSL rfl rfl ?_ | refine ziS1 rfl rfl ?_ | refine ziSn rfl rfl ?_ | refine ziS1m rfl rfl ?_ | refine ziS rfl rfl ?_ | refine ziPL rfl rfl ?_ | refine ziP rfl rfl ?_))); intro a h; (try simp only [Value.cells, splice, nz, Nat.reduceAdd, Nat.reduceMul, Int.reduceAdd, Int.reduceToNat, Int.reduceTMod] at h)) | ((first | refine st_skip rfl rfl h ?_ | refine st_skipn rfl h ?_); clear h a; intro a h) | ((first | refine c_condD h rfl ?_ ?_ | refine c_cond h rfl ?_ ?_) <;> intro hc <;> (try (first | exact absurd trivial hc | exact absurd rfl hc))) | (refine st_guardD rfl rfl h ?_ ?_ <;> clear h <;> intro hc h))
    rw [← hq2] at h
    refine k_thenN ⟨(j + 1, us3), ⟨by omega, (hvis.comp hvis3).congr fun n => ?_, hm, h.keep ⟨rfl, rfl, rfl, rfl, rfl, trivial⟩⟩, by show xs[i].a.args.length - (j + 1) < xs[i].a.args.length - j; omega⟩
    constructor
    · rintro ((h1 | ⟨j', c', h1, h2, h3⟩) | h1)
      · exact .inl h1
      · exact .inr ⟨j', c', by show j' < j + 1; omega, h2, h3⟩
      · exact .inr ⟨j, m, by show j < j + 1; omega, hgj, h1⟩
    · rintro (h1 | ⟨j', c', h1, h2, h3⟩)
      · exact .inl (.inl h1)
      · by_cases hjj : j' < j
        · exact .inl (.inr ⟨j', c', hjj, h2, h3⟩)
        · obtain rfl : j' = j := by have h1' : j' < j + 1 := h1; omega
          rw [hgj] at h2
          have : m = c' := by have := Option.some.inj h2; omega
          subst this
          exact .inr h3
  · obtain rfl : j = xs[i].a.args.length := by omega
    repeat' (first | refine c_seq ?_ | refine c_region ?_ | refine c_nil ?_ | refine k_then ?_ | refine k_thenL ?_ | refine k_thenR ?_ | refine k_thenE ?_ | refine k_inN ?_ | refine k_inR ?_ | refine k_inE ?_ | refine k_inO rfl ?_ | refine c_skip ?_ | refine c_ret ?_ | refine c_exit ?_ | refine c_block ?_ | refine r_succ ?_ | refine c_condT h rfl ?_ | refine c_condF h rfl ?_ | ((first | refine st_op rfl rfl h ?_ | refine st_opn rfl h ?_); clear h a; (first | (show Does _ (.store _ _ _) _ _ _ _; ((first | refine zs hm rfl rfl rfl rfl rfl rfl ?_ | refine does_storeM 0 hm rfl rfl rfl (by assumption) (by omega) rfl rfl rfl rfl ?_ | refine does_storeM0 0 hm rfl rfl rfl (by assumption) (by omega) rfl rfl rfl rfl ?_); clear hm; intro w hm; (try simp only [Value.cells, splice, nz, ns, Nat.reduceAdd, Nat.reduceMul, Int.reduceAdd, Int.reduceToNat] at hm))) | (show Does _ (.move _) _ _ _ _; refine does_move rfl ?_) | (show Does _ (.assign _) _ _ _ _; refine does_assign rfl ?_) | (show Does _ (.fieldAddr _ _ _) _ _ _ _; (first | refine does_fieldAddrL rfl ?_ | refine does_fieldAddr rfl ?_)) | (show Does _ (.load _ _) _ _ _ _; (first | refine zl hm rfl rfl ?_ | refine za hm rfl rfl ?_ | refine does_loadB hm rfl (by assumption) rfl ?_ | refine does_loadBA hm rfl (by assumption) rfl ?_ | refine does_loadB hm rfl (At.add (by assumption) _) rfl ?_)) | (show Does _ (.binOp _ _ _ _ _) _ _ _ _; (first | refine zlss rfl rfl ?_ | refine zadd rfl rfl ?_)) | (show Does _ (.call _) _ _ _ _; refine does_lenS (SliceT.out) rfl ?_) | (show Does _ (.indexAddr _ _ _) _ _ _ _; (first | refine ziSL1 rfl rfl ?_ | refine ziSLn rfl rfl ?_ | refine ziSL rfl rfl ?_ | refine ziS1 rfl rfl ?_ | refine ziSn rfl rfl ?_ | refine ziS1m rfl rfl ?_ | refine ziS rfl rfl ?_ | refine ziPL rfl rfl ?_ | refine ziP rfl rfl ?_))); intro a h; (try simp only [Value.cells, splice, nz, Nat.reduceAdd, Nat.reduceMul, Int.reduceAdd, Int.reduceToNat, Int.reduceTMod] at h)) | ((first | refine st_skip rfl rfl h ?_ | refine st_skipn rfl h ?_); clear h a; intro a h) | ((first | refine c_condD h rfl ?_ ?_ | refine c_cond h rfl ?_ ?_) <;> intro hc <;> (try (first | exact absurd trivial hc | exact absurd rfl hc))) | (refine st_guardD rfl rfl h ?_ ?_ <;> clear h <;> intro hc h))
    refine k_norm (k_ret (rs := []) (vs := []) rfl h trivial ⟨_, ⟨us2, rfl, hvis.congr fun n => ?_⟩, hm⟩)
    constructor
    · rintro (rfl | ⟨j', c', h1, h2, h3⟩)
      · exact .refl
      · exact .arg g2 (List.mem_of_getElem? h2) h3
    · intro hs
      cases hs with
      | refl => exact .inl rfl
      | arg h hj' hs =>
        rw [g2] at h
        cases h
        obtain ⟨j', hj''⟩ := List.mem_iff_getElem?.1 hj'
        exact .inr ⟨j', _, (List.getElem?_eq_some_iff.1 hj'').1, hj'', hs⟩
set_option maxHeartbeats 8000000 in
theorem owners_ok (p q : Option Addr) (xs : List TNode) (ys : List TAssignment) (c d : Nat) (hys : ys.length ≤ 1048576) (hv : vProg (xs.map aN) ys) :
    FunV2 Try.prog 14 [.agg #[.slice p xs.length c, .slice q ys.length d]] (fun H => ProgH H p q xs ys) 3 1 (fun cs => ∃ os, cs = (os.map eI).flatten ∧ OwnL (xs.map aN) ys os) := by
  have hlen : (xs.map aN).length = xs.length := List.length_map _
  have hxs : xs.length ≤ 60 := by have := hv.small; omega
  refine enterFunV2 Try.func14 rfl Try.ntmps14 rfl (fun W0 w a hp hm h => ?_)
  obtain ⟨hx, hy⟩ := hp
  repeat' (first | refine c_seq ?_ | refine c_region ?_ | refine c_nil ?_ | refine k_then ?_ | refine k_thenL ?_ | refine k_thenR ?_ | refine k_thenE ?_ | refine k_inN ?_ | refine k_inR ?_ | refine k_inE ?_ | refine k_inO rfl ?_ | refine c_skip ?_ | refine c_ret ?_ | refine c_exit ?_ | refine c_block ?_ | refine r_succ ?_ | refine c_condT h rfl ?_ | refine c_condF h rfl ?_ | ((first | (refine st_op (d := 1) rfl rfl h ?_; refine does_box hm rfl rfl ?_; clear h a hm; intro b_1 w hm a h) | (refine st_op (d := 3) rfl rfl h ?_; refine does_alloc hm ?_; clear h a hm; intro b_3 w hm a h) | (refine st_op (d := 4) rfl rfl h ?_; refine does_alloc hm ?_; clear h a hm; intro b_4 w hm a h) | (refine st_op (d := 6) rfl rfl h ?_; refine does_alloc hm ?_; clear h a hm; intro b_6 w hm a h)); (try simp only [Value.cells, splice, nz, Nat.reduceAdd, Nat.reduceMul, Int.reduceAdd, Int.reduceToNat, Int.reduceTMod] at h)) | ((first | refine st_op rfl rfl h ?_ | refine st_opn rfl h ?_); clear h a; (first | (show Does _ (.makeSlice _ _ _) _ _ _ _; ((refine does_make hm rfl rfl (by omega) (by omega) ?_; clear hm; intro b w hm))) | (show Does _ (.box _ _) _ _ _ _; (refine does_box hm rfl rfl ?_; clear hm; intro b w hm)) | (show Does _ (.alloc _) _ _ _ _; (refine does_alloc hm ?_; clear hm; intro b w hm)) | (show Does _ (.store _ _ _) _ _ _ _; ((first | refine zs hm rfl rfl rfl rfl rfl rfl ?_ | refine does_storeF 0 hm rfl rfl rfl (by assumption) (by assumption) rfl rfl rfl rfl (by omega) (by omega) ?_ | refine does_storeF 1 hm rfl rfl rfl (by assumption) (by assumption) rfl rfl rfl rfl (by omega) (by omega) ?_); clear hm; intro w hm; (try simp only [Value.cells, splice, nz, ns, Nat.reduceAdd, Nat.reduceMul, Int.reduceAdd, Int.reduceToNat] at hm))) | (show Does _ (.move _) _ _ _ _; refine does_move rfl ?_) | (show Does _ (.assign _) _ _ _ _; refine does_assign rfl ?_) | (show Does _ (.fieldAddr _ _ _) _ _ _ _; (first | refine does_fieldAddrL rfl ?_ | refine does_fieldAddr rfl ?_)) | (show Does _ (.load _ _) _ _ _ _; (first | refine zl hm rfl rfl ?_ | refine za hm rfl rfl ?_ | refine does_loadB hm rfl (by assumption) rfl ?_ | refine does_loadBA hm rfl (by assumption) rfl ?_ | refine does_loadB hm rfl (At.add (by assumption) _) rfl ?_)) | (show Does _ (.binOp _ _ _ _ _) _ _ _ _; (first | refine zlss rfl rfl ?_ | refine zadd rfl rfl ?_)) | (show Does _ (.call _) _ _ _ _; refine does_lenS (SliceT.out) rfl ?_) | (show Does _ (.indexAddr _ _ _) _ _ _ _; (first | refine ziSL1 rfl rfl ?_ | refine ziSLn rfl rfl ?_ | refine ziSL rfl rfl ?_ | refine ziS1 rfl rfl ?_ | refine ziSn rfl rfl ?_ | refine ziS1m rfl rfl ?_ | refine ziS rfl rfl ?_ | refine ziPL rfl rfl ?_ | refine ziP rfl rfl ?_)) | (show Does _ (.makeFunc _ _ _) _ _ _ _; refine does_makeFunc rfl rfl ?_)); intro a h; (try simp only [Value.cells, splice, nz, Nat.reduceAdd, Nat.reduceMul, Int.reduceAdd, Int.reduceToNat, Int.reduceTMod] at h)) | ((first | refine st_skip rfl rfl h ?_ | refine st_skipn rfl h ?_); clear h a; intro a h) | ((first | refine c_condD h rfl ?_ ?_ | refine c_cond h rfl ?_ ?_) <;> intro hc <;> (try (first | exact absurd trivial hc | exact absurd rfl hc))) | (refine st_guardD rfl rfl h ?_ ?_ <;> clear h <;> intro hc h))
  rw [rep_cnt] at hm
  refine c_loop (σ := Nat × List Int) (fun s a w => s.1 ≤ ys.length ∧ s.2.length = xs.length ∧ (∀ (m k' r : Nat) (y : TAssignment), k' < s.1 → ys[k']? = some y → y.2 = r → Sub1 (xs.map aN) r m → ∃ k'' : Nat, s.2[m]? = some (k'' : Int) ∧ Own1 (xs.map aN) ys m k'') ∧ Mem W0 [] (fun b => W0.heap[b]?) (visL 30 b b_3 b_1 b_4 xs.length p q xs.length c ys.length d 43 26 67 s.2) w ∧
    Holds [(3, ptr0 b_3), (4, ptr0 b_4), (13, .slice q ys.length d), (14, .int .i64 ys.length), (15, .int .i64 s.1)] _ a) (fun s => ys.length - s.1) (0, cntL xs.length [])
    ⟨Nat.zero_le _, cntL_len _ _, fun m k' r y hk' => absurd hk' (Nat.not_lt_zero _), hm, h.keep ⟨rfl, rfl, rfl, rfl, rfl, trivial⟩⟩ ?_
  clear h hm
  rintro ⟨k, us⟩ a w ⟨hk, hul, hown, hm, h⟩
  simp only at hk hul hown hm h
  simp only [visL] at hm
  by_cases hlt : k < ys.length
  · obtain ⟨q1, rfl, hat1⟩ := hy.at hlt
    have g1 : ys[k]? = some ys[k] := List.getElem?_eq_getElem hlt
    have has := hv.asg _ (List.getElem_mem hlt)
    obtain ⟨r, hr0⟩ : ∃ r : Nat, ys[k].2 = (r : Int) := ⟨ys[k].2.toNat, by omega⟩
    have hrn : r < xs.length := by omega
    change At _ _ [.string ys[k].1, I ys[k].2] at hat1
    rw [hr0] at hat1
    have hvis := visit_ok b b_3 b_1 b_4 p (some q1) xs ys c d 43 26 67 k hxs hv r us hrn hul
    repeat' (first | refine c_seq ?_ | refine c_region ?_ | refine c_nil ?_ | refine k_then ?_ | refine k_thenL ?_ | refine k_thenR ?_ | refine k_thenE ?_ | refine k_inN ?_ | refine k_inR ?_ | refine k_inE ?_ | refine k_inO rfl ?_ | refine c_skip ?_ | refine c_ret ?_ | refine c_exit ?_ | refine c_block ?_ | refine r_succ ?_ | refine c_condT h rfl ?_ | refine c_condF h rfl ?_ | ((first | (refine st_op (d := 1) rfl rfl h ?_; refine does_box hm rfl rfl ?_; clear h a hm; intro b_1 w hm a h) | (refine st_op (d := 3) rfl rfl h ?_; refine does_alloc hm ?_; clear h a hm; intro b_3 w hm a h) | (refine st_op (d := 4) rfl rfl h ?_; refine does_alloc hm ?_; clear h a hm; intro b_4 w hm a h) | (refine st_op (d := 6) rfl rfl h ?_; refine does_alloc hm ?_; clear h a hm; intro b_6 w hm a h)); (try simp only [Value.cells, splice, nz, Nat.reduceAdd, Nat.reduceMul, Int.reduceAdd, Int.reduceToNat, Int.reduceTMod] at h)) | ((first | refine st_op rfl rfl h ?_ | refine st_opn rfl h ?_); clear h a; (first | (show Does _ (.call _) _ _ _ _; (first | ((refine does_funLV (L0 := visL 30 b b_3 b_1 b_4 xs.length p (some q1) xs.length c ys.length d 43 26 67 us) (L := []) hm.drop rfl rfl rfl hvis hx ?_; clear hm; rintro v L1 w ⟨us3, rfl, hvis3⟩ hm; rw [List.append_nil] at hm)) | refine does_lenS (SliceT.out) rfl ?_)) | (show Does _ (.box _ _) _ _ _ _; (refine does_box hm rfl rfl ?_; clear hm; intro b w hm)) | (show Does _ (.alloc _) _ _ _ _; (refine does_alloc hm ?_; clear hm; intro b w hm)) | (show Does _ (.store _ _ _) _ _ _ _; ((first | refine zs hm rfl rfl rfl rfl rfl rfl ?_ | refine does_storeF 0 hm rfl rfl rfl (by assumption) (by assumption) rfl rfl rfl rfl (by omega) (by omega) ?_ | refine does_storeF 1 hm rfl rfl rfl (by assumption) (by assumption) rfl rfl rfl rfl (by omega) (by omega) ?_); clear hm; intro w hm; (try simp only [Value.cells, splice, nz, ns, Nat.reduceAdd, Nat.reduceMul, Int.reduceAdd, Int.reduceToNat] at hm))) | (show Does _ (.move _) _ _ _ _; refine does_move rfl ?_) | (show Does _ (.assign _) _ _ _ _; refine does_assign rfl ?_) | (show Does _ (.fieldAddr _ _ _) _ _ _ _; (first | refine does_fieldAddrL rfl ?_ | refine does_fieldAddr rfl ?_)) | (show Does _ (.load _ _) _ _ _ _; (first | refine zl hm rfl rfl ?_ | refine za hm rfl rfl ?_ | refine does_loadB hm rfl (by assumption) rfl ?_ | refine does_loadBA hm rfl (by assumption) rfl ?_ | refine does_loadB hm rfl (At.add (by assumption) _) rfl ?_)) | (show Does _ (.binOp _ _ _ _ _) _ _ _ _; (first | refine zlss rfl rfl ?_ | refine zadd rfl rfl ?_)) | (show Does _ (.indexAddr _ _ _) _ _ _ _; (first | refine ziSL1 rfl rfl ?_ | refine ziSLn rfl rfl ?_ | refine ziSL rfl rfl ?_ | refine ziS1 rfl rfl ?_ | refine ziSn rfl rfl ?_ | refine ziS1m rfl rfl ?_ | refine ziS rfl rfl ?_ | refine ziPL rfl rfl ?_ | refine ziP rfl rfl ?_)) | (show Does _ (.makeFunc _ _ _) _ _ _ _; refine does_makeFunc rfl rfl ?_)); intro a h; (try simp only [Value.cells, splice, nz, Nat.reduceAdd, Nat.reduceMul, Int.reduceAdd, Int.reduceToNat, Int.reduceTMod] at h)) | ((first | refine st_skip rfl rfl h ?_ | refine st_skipn rfl h ?_); clear h a; intro a h) | ((first | refine c_condD h rfl ?_ ?_ | refine c_cond h rfl ?_ ?_) <;> intro hc <;> (try (first | exact absurd trivial hc | exact absurd rfl hc))) | (refine st_guardD rfl rfl h ?_ ?_ <;> clear h <;> intro hc h))
    refine k_thenN ⟨(k + 1, us3), ⟨by omega, by rw [hvis3.len]; exact hul, fun m k' r' y hk' hy' hyr hs => ?_, hm, h.keep ⟨rfl, rfl, rfl, rfl, rfl, trivial⟩⟩, by show ys.length - (k + 1) < ys.length - k; omega⟩
    by_cases hsm : Sub1 (xs.map aN) r m
    · exact ⟨k, hvis3.yes m hsm, (Own1.root g1 hr0).down hsm⟩
    · have hkk : k' < k := by
        have hk1 : k' < k + 1 := hk'
        by_cases he : k' = k
        · subst he
          rw [g1] at hy'
          cases hy'
          rw [hr0] at hyr
          have : r = r' := by omega
          subst this
          exact absurd hs hsm
        · omega
      rw [hvis3.no m hsm]
      exact hown m k' r' y hkk hy' hyr hs
  · obtain rfl : k = ys.length := by omega
    have hOwn : OwnL (xs.map aN) ys us := ⟨by rw [hul, hlen], fun m hm0 => by
      obtain ⟨k, hk1⟩ := own_exists hv _ m (Nat.le_refl _) hm0
      obtain ⟨y, r, h1, h2, h3⟩ := hk1.top
      exact hown m k r y (own_lt hk1) h1 h2 h3⟩
    rw [← flat_map_I] at hm
    have hfl : (us.map eI).flatten.length = xs.length * 1 := by rw [flat_len (enc := eI) (sz := 1) (fun _ => rfl), hul]
    replace hm := hm.toRow 2 (n := xs.length) (cap := 0) 1 rfl hfl (by simp only [maxLen]; omega)
    simp only [List.set_cons_succ, List.set_cons_zero] at hm
    repeat' (first | refine c_seq ?_ | refine c_region ?_ | refine c_nil ?_ | refine k_then ?_ | refine k_thenL ?_ | refine k_thenR ?_ | refine k_thenE ?_ | refine k_inN ?_ | refine k_inR ?_ | refine k_inE ?_ | refine k_inO rfl ?_ | refine c_skip ?_ | refine c_ret ?_ | refine c_exit ?_ | refine c_block ?_ | refine r_succ ?_ | refine c_condT h rfl ?_ | refine c_condF h rfl ?_ | ((first | (refine st_op (d := 1) rfl rfl h ?_; refine does_box hm rfl rfl ?_; clear h a hm; intro b_1 w hm a h) | (refine st_op (d := 3) rfl rfl h ?_; refine does_alloc hm ?_; clear h a hm; intro b_3 w hm a h) | (refine st_op (d := 4) rfl rfl h ?_; refine does_alloc hm ?_; clear h a hm; intro b_4 w hm a h) | (refine st_op (d := 6) rfl rfl h ?_; refine does_alloc hm ?_; clear h a hm; intro b_6 w hm a h)); (try simp only [Value.cells, splice, nz, Nat.reduceAdd, Nat.reduceMul, Int.reduceAdd, Int.reduceToNat, Int.reduceTMod] at h)) | ((first | refine st_op rfl rfl h ?_ | refine st_opn rfl h ?_); clear h a; (first | (show Does _ (.box _ _) _ _ _ _; (refine does_box hm rfl rfl ?_; clear hm; intro b w hm)) | (show Does _ (.alloc _) _ _ _ _; (refine does_alloc hm ?_; clear hm; intro b w hm)) | (show Does _ (.store _ _ _) _ _ _ _; ((first | refine zs hm rfl rfl rfl rfl rfl rfl ?_ | refine does_storeF 0 hm rfl rfl rfl (by assumption) (by assumption) rfl rfl rfl rfl (by omega) (by omega) ?_ | refine does_storeF 1 hm rfl rfl rfl (by assumption) (by assumption) rfl rfl rfl rfl (by omega) (by omega) ?_); clear hm; intro w hm; (try simp only [Value.cells, splice, nz, ns, Nat.reduceAdd, Nat.reduceMul, Int.reduceAdd, Int.reduceToNat] at hm))) | (show Does _ (.move _) _ _ _ _; refine does_move rfl ?_) | (show Does _ (.assign _) _ _ _ _; refine does_assign rfl ?_) | (show Does _ (.fieldAddr _ _ _) _ _ _ _; (first | refine does_fieldAddrL rfl ?_ | refine does_fieldAddr rfl ?_)) | (show Does _ (.load _ _) _ _ _ _; (first | refine zl hm rfl rfl ?_ | refine za hm rfl rfl ?_ | refine does_loadB hm rfl (by assumption) rfl ?_ | refine does_loadBA hm rfl (by assumption) rfl ?_ | refine does_loadB hm rfl (At.add (by assumption) _) rfl ?_)) | (show Does _ (.binOp _ _ _ _ _) _ _ _ _; (first | refine zlss rfl rfl ?_ | refine zadd rfl rfl ?_)) | (show Does _ (.call _) _ _ _ _; refine does_lenS (SliceT.out) rfl ?_) | (show Does _ (.indexAddr _ _ _) _ _ _ _; (first | refine ziSL1 rfl rfl ?_ | refine ziSLn rfl rfl ?_ | refine ziSL rfl rfl ?_ | refine ziS1 rfl rfl ?_ | refine ziSn rfl rfl ?_ | refine ziS1m rfl rfl ?_ | refine ziS rfl rfl ?_ | refine ziPL rfl rfl ?_ | refine ziP rfl rfl ?_)) | (show Does _ (.makeFunc _ _ _) _ _ _ _; refine does_makeFunc rfl rfl ?_)); intro a h; (try simp only [Value.cells, splice, nz, Nat.reduceAdd, Nat.reduceMul, Int.reduceAdd, Int.reduceToNat, Int.reduceTMod] at h)) | ((first | refine st_skip rfl rfl h ?_ | refine st_skipn rfl h ?_); clear h a; intro a h) | ((first | refine c_condD h rfl ?_ ?_ | refine c_cond h rfl ?_ ?_) <;> intro hc <;> (try (first | exact absurd trivial hc | exact absurd rfl hc))) | (refine st_guardD rfl rfl h ?_ ?_ <;> clear h <;> intro hc h))
    exact k_ret1 rfl h rfl ⟨hm.below, _, _, ⟨us, rfl, hOwn⟩, (row_new (i := 2) hm rfl).choose_spec⟩
end Go.Proofs.Ytnclbllhflinfaa.St
