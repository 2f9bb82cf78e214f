/-
  Programs that are one's own: copies of them, marks in them.
-/
import Derived.Test.YtaiiiendfcglmaaLMrk
import Derived.Test.YtaiiiendfcglmaaLPrg
import Derived.Test.YtaiiiendfcglmaaStIns
import Derived.Test.YtaiiiendfcglmaaStZip
set_option linter.unusedSimpArgs false
set_option linter.unusedVariables false
namespace Go.Proofs.Ytaiiiendfcglmaa.St
open Go.RowKit
abbrev argRow (x : TNode) : Own := .row (.slice x.ptr x.a.args.length x.cap) 3 1 (x.a.args.map eI).flatten
abbrev nodesL (p : Option Addr) (c : Nat) (xs : List TNode) : List Own := .row (.slice p xs.length c) 113 4 (xs.map eN).flatten :: xs.map argRow
abbrev progL (p : Option Addr) (c : Nat) (q : Option Addr) (d : Nat) (xs : List TNode) (ys : List TAssignment) : List Own := .row (.slice q ys.length d) 116 2 (ys.map eAssignment).flatten :: nodesL p c xs
section
variable {P : Program} {E : Env} {w W0 : World} {X : List Nat} {B : Heap} {L : List Own} {Φ : Value → World → Prop} {ty t : TypeId} {x : Operand}
theorem row_slM {α : Type} {enc : α → List Value} {sz n cap : Nat} {xs : List α} {p : Option Addr} {T : TypeId} (hm : Mem W0 X B L w) (hL : Own.row (.slice p n cap) T sz (xs.map enc).flatten ∈ L) (hf : ∀ x, (enc x).length = sz) (hsz : 0 < sz) : Sl (fun b => w.heap[b]?) p enc sz xs := by
  obtain ⟨i, hi⟩ := List.mem_iff_getElem?.1 hL
  exact row_sl i hm hi hf hsz
theorem own_nodes {p : Option Addr} {c : Nat} {xs : List TNode} (hm : Mem W0 X B L w) (h : ∀ o ∈ nodesL p c xs, o ∈ L) : NodesH (fun b => w.heap[b]?) p xs :=
  ⟨row_slM hm (h _ (List.mem_cons_self ..)) (fun _ => rfl) (by omega), fun x hx => row_slM hm (h _ (List.mem_cons_of_mem _ (List.mem_map_of_mem hx))) (fun _ => rfl) (by omega)⟩
theorem own_prog {p q : Option Addr} {c d : Nat} {xs : List TNode} {ys : List TAssignment} (hm : Mem W0 X B L w) (h : ∀ o ∈ progL p c q d xs ys, o ∈ L) : ProgH (fun b => w.heap[b]?) p q xs ys :=
  ⟨own_nodes hm fun o ho => h o (List.mem_cons_of_mem _ ho), row_slM hm (h _ (List.mem_cons_self ..)) (fun _ => rfl) (by omega)⟩
theorem does_loadM (i : Nat) {b off j n : Nat} {A C D : List Value} {T : TypeId} {fz : Nat × Nat} {v : Value} [Scalar P t] (hm : Mem W0 X B L w) (hx : ev E x = some (.pointer (some ⟨b, off + j, none⟩)))
    (hL : L[i]? = some (.blk b (.cells (A ++ (C ++ D)).toArray T fz))) (hA : A.length = n) (hoff : off = n) (hv : C[j]? = some v) (k : Φ v w) : Does P (.load t x) ty E w Φ := by
  subst hA hoff
  refine does_loadO i hm hx hL ?_ k
  rw [List.getElem?_append_right (by omega), Nat.add_sub_cancel_left, List.getElem?_append_left (List.getElem?_eq_some_iff.1 hv).1, hv]
theorem Mem.forth {A N L : List Own} (hm : Mem W0 X B (A ++ (N ++ L)) w) : Mem W0 X B (N ++ (A ++ L)) w := hm.perm (List.perm_append_comm_assoc ..)
end
set_option maxHeartbeats 8000000 in
theorem toNodeSG_ok (p : Option Addr) (xs : List TNode) (c : Nat) (hxs : xs.length ≤ 1048576) (hsm : ∀ x ∈ xs, smN x) : FunG Try.prog 53 [.slice p xs.length c] (fun H => NodesH H p xs) (fun v L' => ∃ p' c' xs', v = .slice p' xs'.length c' ∧ xs'.map aN = xs.map aN ∧ L' = nodesL p' c' xs') := by
  refine enterFunG Try.func53 rfl Try.ntmps53 rfl (fun W0 w a hx hm h => ?_)
  repeat' (first | refine c_seq ?_ | refine c_region ?_ | refine c_nil ?_ | refine k_then ?_ | refine c_block ?_ | ((refine st_op rfl rfl h ?_); clear h a; (first | (show Does _ (.makeSlice _ _ _) _ _ _ _; ((refine does_make hm rfl rfl (by omega) (by omega) ?_; clear hm; intro b w hm))) | (show Does _ (.move _) _ _ _ _; refine does_move rfl ?_) | (show Does _ (.assign _) _ _ _ _; refine does_assign rfl ?_) | (show Does _ (.call _) _ _ _ _; refine does_lenS (SliceT.out) rfl ?_)); intro a h; (try simp only [Value.cells, splice, nz, Nat.reduceAdd, Nat.reduceMul, Int.reduceAdd, Int.reduceToNat, Int.reduceTMod] at h)))
  rw [fillTo_nil] at hm
  refine c_loop (σ := Nat × List TNode) (fun s a w => (s.1 ≤ xs.length ∧ s.2.length = s.1) ∧ s.2.map aN = (xs.take s.1).map aN ∧
    Mem W0 [] (fun b => W0.heap[b]?) (.blk b (.cells (fillTo xs.length [I 0, .string ⟨#[]⟩, I 0, .slice none 0 0] (s.2.map eN)).toArray 113) :: s.2.map argRow) w ∧ Holds [(0, .slice p xs.length c), (3, .slice (some ⟨b, 0, none⟩) xs.length xs.length), (4, .int .i64 s.1)] _ a) (fun s => xs.length - s.1) (0, [])
    ⟨⟨Nat.zero_le _, rfl⟩, rfl, by simpa using hm, h.keep ⟨rfl, rfl, rfl, trivial⟩⟩ ?_
  clear h hm
  rintro ⟨k, ys⟩ a w ⟨⟨hk, hyl⟩, hya, hm, h⟩
  simp only at hk hyl hya hm h
  by_cases hlt : k < xs.length
  · obtain ⟨q1, rfl, hat1⟩ := hx.row.at hlt
    have hmem := List.getElem_mem hlt
    have hargs := hx.args _ hmem
    have hsz : xs[k].a.args.length ≤ 1048576 := hsm _ hmem
    have hcl : (ys.map eN).length = k := by rw [List.length_map]; exact hyl
    have hal := oneLen eN 4 (fun _ => rfl) ys
    repeat' (first | refine c_seq ?_ | refine c_region ?_ | refine c_nil ?_ | refine k_then ?_ | refine c_skip ?_ | refine c_block ?_ | refine c_condT h rfl ?_ | ((refine st_op rfl rfl h ?_); clear h a; (first | (show Does _ (.move _) _ _ _ _; refine does_move rfl ?_) | (show Does _ (.load _ _) _ _ _ _; (refine does_loadBA hm rfl (by assumption) rfl ?_)) | (show Does _ (.binOp _ _ _ _ _) _ _ _ _; (refine zlss rfl rfl ?_)) | (show Does _ (.call _) _ _ _ _; refine does_lenS (SliceT.out) rfl ?_) | (show Does _ (.indexAddr _ _ _) _ _ _ _; (refine ziSn rfl rfl ?_))); intro a h; (try simp only [Value.cells, splice, nz, Nat.reduceAdd, Nat.reduceMul, Int.reduceAdd, Int.reduceToNat, Int.reduceTMod] at h)))
    refine st_op rfl rfl h ?_; clear h a; refine does_funG hm en68 rfl (toNode_ok xs[k] (by omega)) (hargs.up hm) ?_; clear hm; rintro v L1 w ⟨u, rfl, rfl⟩ hm a h; simp only [List.cons_append, List.nil_append] at hm
    obtain ⟨p5, c5, rfl, hcc5, hcm5⟩ := row_slice (i := 0) hm rfl (fun _ => rfl) (by omega)
    replace hm := hm.perm ((List.Perm.swap _ _ _).trans ((List.perm_append_singleton _ _).symm.cons _))
    repeat' (first | refine c_region ?_ | refine c_nil ?_ | refine k_then ?_ | refine k_inN ?_ | ((first | refine st_op rfl rfl h ?_ | refine st_opn rfl h ?_); clear h a; (first | (show Does _ (.store _ _ _) _ _ _ _; ((refine does_storeF 0 hm rfl rfl rfl (by assumption) (by assumption) rfl rfl rfl rfl (by omega) (by omega) ?_); clear hm; intro w hm; (try simp only [Value.cells, splice, nz, ns, Nat.reduceAdd, Nat.reduceMul, Int.reduceAdd, Int.reduceToNat] at hm))) | (show Does _ (.move _) _ _ _ _; refine does_move rfl ?_) | (show Does _ (.assign _) _ _ _ _; refine does_assign rfl ?_) | (show Does _ (.binOp _ _ _ _ _) _ _ _ _; (refine zadd rfl rfl ?_)) | (show Does _ (.indexAddr _ _ _) _ _ _ _; (refine ziSLn rfl rfl ?_))); intro a h; (try simp only [Value.cells, splice, nz, Nat.reduceAdd, Nat.reduceMul, Int.reduceAdd, Int.reduceToNat, Int.reduceTMod] at h)))
    have e : ys.map eN ++ [[I xs[k].a.op, .string xs[k].a.name, I xs[k].a.num, .slice p5 xs[k].a.args.length c5]] = (ys ++ [(⟨xs[k].a, p5, c5⟩ : TNode)]).map eN := by simp
    have e2 : ys.map argRow ++ [.row (.slice p5 xs[k].a.args.length c5) 3 1 (xs[k].a.args.map eI).flatten] = (ys ++ [(⟨xs[k].a, p5, c5⟩ : TNode)]).map argRow := by simp [argRow]
    rw [e, e2] at hm
    refine k_thenN ⟨(k + 1, ys ++ [(⟨xs[k].a, p5, c5⟩ : TNode)]), ⟨⟨by omega, by simp [hyl]⟩, ?_, hm, h.keep ⟨rfl, rfl, rfl, trivial⟩⟩, by show xs.length - (k + 1) < xs.length - k; omega⟩
    rw [List.map_append, hya, List.take_succ_eq_append_getElem hlt, List.map_append]; rfl
  · obtain rfl : k = xs.length := by omega
    rw [fillTo_full (by simp; omega)] at hm
    have hfl := flat_len (enc := eN) (sz := 4) (fun _ => rfl) ys
    replace hm := hm.toRow 0 (n := ys.length) (cap := 0) 4 rfl hfl (by simp only [maxLen]; omega)
    simp only [List.set_cons_zero] at hm
    repeat' (first | refine c_seq ?_ | refine c_region ?_ | refine c_nil ?_ | refine k_then ?_ | refine k_thenE ?_ | refine k_inE ?_ | refine c_ret ?_ | refine c_exit ?_ | refine c_condF h rfl ?_ | ((refine st_op rfl rfl h ?_); clear h a; (first | (show Does _ (.move _) _ _ _ _; refine does_move rfl ?_) | (show Does _ (.assign _) _ _ _ _; refine does_assign rfl ?_) | (show Does _ (.binOp _ _ _ _ _) _ _ _ _; (refine zlss rfl rfl ?_)) | (show Does _ (.call _) _ _ _ _; refine does_lenS (SliceT.out) rfl ?_)); intro a h; (try simp only [Value.cells, splice, nz, Nat.reduceAdd, Nat.reduceMul, Int.reduceAdd, Int.reduceToNat, Int.reduceTMod] at h)))
    refine k_ret1 rfl h rfl ⟨_, ⟨some ⟨b, 0, none⟩, ys.length, ys, by rw [hyl], by rw [hya, List.take_length], rfl⟩, hm⟩
set_option maxHeartbeats 8000000 in
theorem toProgramG_ok (p q : Option Addr) (xs : List TNode) (ys : List TAssignment) (c d : Nat) (hxs : xs.length ≤ 1048576) (hsm : ∀ x ∈ xs, smN x) (hys : ys.length ≤ 1048576) :
    FunG Try.prog 40 [.agg #[.slice p xs.length c, .slice q ys.length d]] (fun H => ProgH H p q xs ys) (fun v L' => ∃ p' c' q' d' xs', v = .agg #[.slice p' xs'.length c', .slice q' ys.length d'] ∧ xs'.map aN = xs.map aN ∧ L' = progL p' c' q' d' xs' ys) := by
  refine enterFunG Try.func40 rfl Try.ntmps40 rfl (fun W0 w a hp hm h => ?_)
  obtain ⟨hx, hy⟩ := hp
  repeat' (first | refine c_seq ?_ | refine c_region ?_ | refine c_nil ?_ | refine k_then ?_ | ((refine st_op rfl rfl h ?_); clear h a; (first | (show Does _ (.box _ _) _ _ _ _; (refine does_box hm rfl rfl ?_; clear hm; intro b w hm)) | (show Does _ (.alloc _) _ _ _ _; (refine does_alloc hm ?_; clear hm; intro b w hm)) | (show Does _ (.fieldAddr _ _ _) _ _ _ _; (refine does_fieldAddrL rfl ?_)) | (show Does _ (.load _ _) _ _ _ _; (refine zl hm rfl rfl ?_))); intro a h; (try simp only [Value.cells, splice, nz, Nat.reduceAdd, Nat.reduceMul, Int.reduceAdd, Int.reduceToNat, Int.reduceTMod] at h)))
  refine st_op rfl rfl h ?_; clear h a; refine does_funG hm en53 rfl (toNodeSG_ok _ _ _ (by omega) hsm) (hx.up hm) ?_; clear hm; rintro v L1 w ⟨p1, c1, xs1, rfl, ha1, rfl⟩ hm a h
  replace hm := hm.perm List.perm_append_comm
  simp only [List.cons_append, List.nil_append] at hm
  repeat' (first | refine c_seq ?_ | refine c_region ?_ | refine c_nil ?_ | refine k_then ?_ | ((first | refine st_op rfl rfl h ?_ | refine st_opn rfl h ?_); clear h a; (first | (show Does _ (.store _ _ _) _ _ _ _; ((refine zs hm rfl rfl rfl rfl rfl rfl ?_); clear hm; intro w hm; (try simp only [Value.cells, splice, nz, ns, Nat.reduceAdd, Nat.reduceMul, Int.reduceAdd, Int.reduceToNat] at hm))) | (show Does _ (.fieldAddr _ _ _) _ _ _ _; (refine does_fieldAddrL rfl ?_)) | (show Does _ (.load _ _) _ _ _ _; (refine zl hm rfl rfl ?_))); intro a h; (try simp only [Value.cells, splice, nz, Nat.reduceAdd, Nat.reduceMul, Int.reduceAdd, Int.reduceToNat, Int.reduceTMod] at h)))
  refine st_op rfl rfl h ?_; clear h a; refine does_funN hm en54 rfl (toAssignmentS_ok _ _ _ (by omega)) (by repeat' (exact Sl.up (by assumption) hm)) ?_; clear hm; intro v w hm a h
  obtain ⟨p5, c5, rfl, hcc5, hcm5⟩ := row_slice (i := 0) hm rfl (fun _ => rfl) (by omega)
  repeat' (first | refine c_seq ?_ | refine c_region ?_ | refine c_nil ?_ | refine k_then ?_ | refine c_ret ?_ | ((first | refine st_op rfl rfl h ?_ | refine st_opn rfl h ?_); clear h a; (first | (show Does _ (.store _ _ _) _ _ _ _; ((refine zs hm rfl rfl rfl rfl rfl rfl ?_); clear hm; intro w hm; (try simp only [Value.cells, splice, nz, ns, Nat.reduceAdd, Nat.reduceMul, Int.reduceAdd, Int.reduceToNat] at hm))) | (show Does _ (.fieldAddr _ _ _) _ _ _ _; (refine does_fieldAddrL rfl ?_)) | (show Does _ (.load _ _) _ _ _ _; (refine za hm rfl rfl ?_))); intro a h; (try simp only [Value.cells, splice, nz, Nat.reduceAdd, Nat.reduceMul, Int.reduceAdd, Int.reduceToNat, Int.reduceTMod] at h)))
  refine k_ret (vs := [_]) rfl h ⟨rv_cellA (i := 2) hm rfl rfl rfl, trivial⟩ ⟨_, ⟨_, _, _, _, xs1, rfl, ha1, rfl⟩, hm.sub (((((List.Sublist.refl _).cons _).cons _).cons _).cons_cons _)⟩
theorem sub_tail {α : Type} (A L : List α) : List.Sublist L (A ++ L) := List.sublist_append_right A L
set_option maxHeartbeats 8000000 in
theorem markNodeS_D (p : Option Addr) (xs : List TNode) (c : Nat) (m : Int) (hm0 : 0 ≤ m ∧ m ≤ 4000000000000000000) (hxs : xs.length ≤ 1048576) (hsm : ∀ x ∈ xs, smN x) : FunL Try.prog 48 [.slice p xs.length c, I m] (nodesL p c xs) (fun _ => True)
    (fun v L' => L' = [] ∧ ∃ m', v = I m' ∧ m ≤ m' ∧ m' ≤ m + 1048580 * xs.length) := by
  refine enterFunL Try.func48 rfl Try.ntmps48 rfl (fun W0 X B L w a hp hm h => ?_)
  by_cases h0 : xs.length = 0
  · replace hm := hm.sub (sub_tail _ _)
    repeat' (first | refine c_seq ?_ | refine c_region ?_ | refine c_nil ?_ | refine k_then ?_ | refine k_thenE ?_ | refine k_inE ?_ | refine c_ret ?_ | refine c_exit ?_ | refine c_block ?_ | refine r_succ ?_ | refine c_condF h rfl ?_ | (refine c_rounds 1 ?_) | ((refine st_op rfl rfl h ?_); clear h a; (first | (show Does _ (.call _) _ _ _ _; (refine does_lenS (SliceT.out) rfl ?_)) | (show Does _ (.move _) _ _ _ _; refine does_move rfl ?_) | (show Does _ (.assign _) _ _ _ _; refine does_assign rfl ?_) | (show Does _ (.binOp _ _ _ _ _) _ _ _ _; (refine zlss rfl rfl ?_))); intro a h; (try simp only [Value.cells, splice, nz, Nat.reduceAdd, Nat.reduceMul, Int.reduceAdd, Int.reduceToNat, Int.reduceTMod] at h)))
    exact k_ret1 rfl h rfl ⟨[], ⟨rfl, m, rfl, by omega, by omega⟩, hm⟩
  · simp only [nodesL, List.cons_append] at hm
    obtain ⟨b, cap, spare, hv, hcc, hcm, hlen, hm'⟩ := hm.toBlk 0 (n := xs.length) rfl (flat_len (enc := eN) (sz := 4) (fun _ => rfl) xs) (by omega) (by omega)
    obtain ⟨rfl, rfl⟩ : p = some ⟨b, 0, none⟩ ∧ cap = c := by cases hv; exact ⟨rfl, rfl⟩
    clear hm
    have hm := hm'
    clear hm'
    simp only [List.set_cons_zero] at hm
    repeat' (first | refine c_seq ?_ | refine c_region ?_ | refine c_nil ?_ | refine k_then ?_ | refine c_block ?_ | ((refine st_op rfl rfl h ?_); clear h a; ((show Does _ (.assign _) _ _ _ _; refine does_assign rfl ?_)); intro a h; (try simp only [Value.cells, splice, nz, Nat.reduceAdd, Nat.reduceMul, Int.reduceAdd, Int.reduceToNat, Int.reduceTMod] at h)))
    refine c_loop (σ := Nat × Int × List Value) (fun s a w => (s.1 ≤ xs.length ∧ m ≤ s.2.1 ∧ s.2.1 ≤ m + 1048580 * s.1 ∧ s.2.2.length = s.1 * 4) ∧ Mem W0 X B (.blk b (.cells (s.2.2 ++ (((xs.drop s.1).map eN).flatten ++ spare)).toArray 113 (0, 0)) :: ((xs.drop s.1).map argRow ++ L)) w ∧ Holds [(0, .slice (some ⟨b, 0, none⟩) xs.length cap), (1, I s.2.1), (5, .int .i64 s.1)] _ a) (fun s => xs.length - s.1) (0, m, [])
      ⟨⟨Nat.zero_le _, Int.le_refl _, by show m ≤ m + 1048580 * ((0 : Nat) : Int); omega, rfl⟩, by simpa using hm, h.keep ⟨rfl, rfl, rfl, trivial⟩⟩ ?_
    clear h hm
    rintro ⟨k, m1, A⟩ a w ⟨⟨hk, hm1, hm2, hA⟩, hm, h⟩
    simp only at hk hm1 hm2 hA hm h
    by_cases hlt : k < xs.length
    · have hsz : xs[k].a.args.length ≤ 1048576 := hsm _ (List.getElem_mem hlt)
      rw [List.drop_eq_getElem_cons hlt, List.map_cons, List.map_cons, List.flatten_cons, List.append_assoc] at hm
      generalize hD : ((xs.drop (k + 1)).map eN).flatten ++ spare = D at hm
      change Mem W0 X B (.blk b (.cells (A ++ (eN xs[k] ++ D)).toArray 113 (0, 0)) :: argRow xs[k] :: ((xs.drop (k + 1)).map argRow ++ L)) w at hm
      repeat' (first | refine c_seq ?_ | refine c_region ?_ | refine c_nil ?_ | refine k_then ?_ | refine c_skip ?_ | refine c_block ?_ | refine c_condT h rfl ?_ | ((first | refine st_op rfl rfl h ?_ | refine st_opn rfl h ?_); clear h a; (first | (show Does _ (.load _ _) _ _ _ _; (((refine does_loadM 0 hm rfl rfl (by assumption) (by omega) rfl ?_)))) | (show Does _ (.store _ _ _) _ _ _ _; ((refine does_storeM 0 hm rfl rfl rfl (by assumption) (by omega) rfl rfl rfl rfl ?_); clear hm; intro w hm; (try simp only [Value.cells, splice, nz, ns, Nat.reduceAdd, Nat.reduceMul, Int.reduceAdd, Int.reduceToNat] at hm))) | (show Does _ (.call _) _ _ _ _; (first | ((refine does_funM hm en63 rfl (markText_ok _ (by omega)) ?_); clear hm; intro w hm) | refine does_lenS (SliceT.out) rfl ?_)) | (show Does _ (.move _) _ _ _ _; refine does_move rfl ?_) | (show Does _ (.assign _) _ _ _ _; refine does_assign rfl ?_) | (show Does _ (.fieldAddr _ _ _) _ _ _ _; (refine does_fieldAddrL rfl ?_)) | (show Does _ (.binOp _ _ _ _ _) _ _ _ _; (first | refine zlss rfl rfl ?_ | refine zadd rfl rfl ?_)) | (show Does _ (.indexAddr _ _ _) _ _ _ _; (refine ziSLn rfl rfl ?_))); intro a h; (try simp only [Value.cells, splice, nz, Nat.reduceAdd, Nat.reduceMul, Int.reduceAdd, Int.reduceToNat, Int.reduceTMod] at h)))
      refine st_op rfl rfl h ?_; clear h a; refine does_funW 1 hm en12 rfl (markIntS_ok _ _ _ (by omega) (by omega)) rfl ?_; clear hm; intro w hm a h; simp only [List.set_cons_zero, List.set_cons_succ] at hm
      repeat' (first | refine c_region ?_ | refine c_nil ?_ | refine k_then ?_ | refine k_inN ?_ | ((refine st_op rfl rfl h ?_); clear h a; (first | (show Does _ (.move _) _ _ _ _; refine does_move rfl ?_) | (show Does _ (.assign _) _ _ _ _; refine does_assign rfl ?_) | (show Does _ (.binOp _ _ _ _ _) _ _ _ _; (refine zadd rfl rfl ?_))); intro a h; (try simp only [Value.cells, splice, nz, Nat.reduceAdd, Nat.reduceMul, Int.reduceAdd, Int.reduceToNat, Int.reduceTMod] at h)))
      refine k_thenN ⟨(k + 1, _, A ++ [I m1, .string (mText (m1 + 1)), I (m1 + 1 + 1), .slice xs[k].ptr xs[k].a.args.length xs[k].cap]), ⟨⟨hlt, ?_, ?_, by simp [hA]; omega⟩, ?_, h.keep ⟨rfl, rfl, rfl, trivial⟩⟩, by show xs.length - (k + 1) < xs.length - k; omega⟩
      · show m ≤ m1 + 1 + 1 + 1 + 1 * (xs[k].a.args.length : Int)
        omega
      · show m1 + 1 + 1 + 1 + 1 * (xs[k].a.args.length : Int) ≤ m + 1048580 * ((k + 1 : Nat) : Int)
        omega
      · rw [← hD, ← List.append_assoc] at hm
        exact hm.sub (((List.Sublist.refl _).cons _).cons_cons _)
    · obtain rfl : k = xs.length := by omega
      repeat' (first | refine c_seq ?_ | refine c_region ?_ | refine c_nil ?_ | refine k_then ?_ | refine k_thenE ?_ | refine k_inE ?_ | refine c_ret ?_ | refine c_exit ?_ | refine c_condF h rfl ?_ | ((refine st_op rfl rfl h ?_); clear h a; (first | (show Does _ (.call _) _ _ _ _; (refine does_lenS (SliceT.out) rfl ?_)) | (show Does _ (.move _) _ _ _ _; refine does_move rfl ?_) | (show Does _ (.assign _) _ _ _ _; refine does_assign rfl ?_) | (show Does _ (.binOp _ _ _ _ _) _ _ _ _; (refine zlss rfl rfl ?_))); intro a h; (try simp only [Value.cells, splice, nz, Nat.reduceAdd, Nat.reduceMul, Int.reduceAdd, Int.reduceToNat, Int.reduceTMod] at h)))
      refine k_ret1 rfl h rfl ⟨[], ⟨rfl, m1, rfl, by omega, by omega⟩, hm.sub ((sub_tail _ _).cons _)⟩
set_option maxHeartbeats 8000000 in
theorem markAssignmentS_D (p : Option Addr) (xs : List TAssignment) (c : Nat) (m : Int) (hm0 : 0 ≤ m ∧ m ≤ 4000000000000000000) (hxs : xs.length ≤ 1048576) : FunL Try.prog 49 [.slice p xs.length c, I m] [.row (.slice p xs.length c) 116 2 (xs.map eAssignment).flatten] (fun _ => True)
    (fun v L' => L' = [] ∧ ∃ m', v = I m' ∧ m ≤ m' ∧ m' ≤ m + 2 * xs.length) := by
  refine enterFunL Try.func49 rfl Try.ntmps49 rfl (fun W0 X B L w a hp hm h => ?_)
  by_cases h0 : xs.length = 0
  · replace hm := hm.sub (sub_tail _ _)
    repeat' (first | refine c_seq ?_ | refine c_region ?_ | refine c_nil ?_ | refine k_then ?_ | refine k_thenE ?_ | refine k_inE ?_ | refine c_ret ?_ | refine c_exit ?_ | refine c_block ?_ | refine r_succ ?_ | refine c_condF h rfl ?_ | (refine c_rounds 1 ?_) | ((refine st_op rfl rfl h ?_); clear h a; (first | (show Does _ (.call _) _ _ _ _; (refine does_lenS (SliceT.out) rfl ?_)) | (show Does _ (.move _) _ _ _ _; refine does_move rfl ?_) | (show Does _ (.assign _) _ _ _ _; refine does_assign rfl ?_) | (show Does _ (.binOp _ _ _ _ _) _ _ _ _; (refine zlss rfl rfl ?_))); intro a h; (try simp only [Value.cells, splice, nz, Nat.reduceAdd, Nat.reduceMul, Int.reduceAdd, Int.reduceToNat, Int.reduceTMod] at h)))
    exact k_ret1 rfl h rfl ⟨[], ⟨rfl, m, rfl, by omega, by omega⟩, hm⟩
  · simp only [List.cons_append, List.nil_append] at hm
    obtain ⟨b, cap, spare, hv, hcc, hcm, hlen, hm'⟩ := hm.toBlk 0 (n := xs.length) rfl (flat_len (enc := eAssignment) (sz := 2) (fun _ => rfl) xs) (by omega) (by omega)
    obtain ⟨rfl, rfl⟩ : p = some ⟨b, 0, none⟩ ∧ cap = c := by cases hv; exact ⟨rfl, rfl⟩
    clear hm
    have hm := hm'
    clear hm'
    simp only [List.set_cons_zero] at hm
    repeat' (first | refine c_seq ?_ | refine c_region ?_ | refine c_nil ?_ | refine k_then ?_ | refine c_block ?_ | ((refine st_op rfl rfl h ?_); clear h a; ((show Does _ (.assign _) _ _ _ _; refine does_assign rfl ?_)); intro a h; (try simp only [Value.cells, splice, nz, Nat.reduceAdd, Nat.reduceMul, Int.reduceAdd, Int.reduceToNat, Int.reduceTMod] at h)))
    refine c_loop (σ := Nat × Int × List Value) (fun s a w => (s.1 ≤ xs.length ∧ m ≤ s.2.1 ∧ s.2.1 ≤ m + 2 * s.1 ∧ s.2.2.length = s.1 * 2) ∧ Mem W0 X B (.blk b (.cells (s.2.2 ++ (((xs.drop s.1).map eAssignment).flatten ++ spare)).toArray 116 (0, 0)) :: L) w ∧ Holds [(0, .slice (some ⟨b, 0, none⟩) xs.length cap), (1, I s.2.1), (5, .int .i64 s.1)] _ a) (fun s => xs.length - s.1) (0, m, [])
      ⟨⟨Nat.zero_le _, Int.le_refl _, by show m ≤ m + 2 * ((0 : Nat) : Int); omega, rfl⟩, by simpa using hm, h.keep ⟨rfl, rfl, rfl, trivial⟩⟩ ?_
    clear h hm
    rintro ⟨k, m1, A⟩ a w ⟨⟨hk, hm1, hm2, hA⟩, hm, h⟩
    simp only at hk hm1 hm2 hA hm h
    by_cases hlt : k < xs.length
    · rw [List.drop_eq_getElem_cons hlt, List.map_cons, List.flatten_cons, List.append_assoc] at hm
      generalize hD : ((xs.drop (k + 1)).map eAssignment).flatten ++ spare = D at hm
      repeat' (first | refine c_seq ?_ | refine c_region ?_ | refine c_nil ?_ | refine k_then ?_ | refine k_inN ?_ | refine c_skip ?_ | refine c_block ?_ | refine c_condT h rfl ?_ | ((first | refine st_op rfl rfl h ?_ | refine st_opn rfl h ?_); clear h a; (first | (show Does _ (.store _ _ _) _ _ _ _; ((refine does_storeM 0 hm rfl rfl rfl (by assumption) (by omega) rfl rfl rfl rfl ?_); clear hm; intro w hm; (try simp only [Value.cells, splice, nz, ns, Nat.reduceAdd, Nat.reduceMul, Int.reduceAdd, Int.reduceToNat] at hm))) | (show Does _ (.call _) _ _ _ _; (first | ((refine does_funM hm en63 rfl (markText_ok _ (by omega)) ?_); clear hm; intro w hm) | refine does_lenS (SliceT.out) rfl ?_)) | (show Does _ (.move _) _ _ _ _; refine does_move rfl ?_) | (show Does _ (.assign _) _ _ _ _; refine does_assign rfl ?_) | (show Does _ (.fieldAddr _ _ _) _ _ _ _; (refine does_fieldAddrL rfl ?_)) | (show Does _ (.binOp _ _ _ _ _) _ _ _ _; (first | refine zlss rfl rfl ?_ | refine zadd rfl rfl ?_)) | (show Does _ (.indexAddr _ _ _) _ _ _ _; (refine ziSLn rfl rfl ?_))); intro a h; (try simp only [Value.cells, splice, nz, Nat.reduceAdd, Nat.reduceMul, Int.reduceAdd, Int.reduceToNat, Int.reduceTMod] at h)))
      refine k_thenN ⟨(k + 1, _, A ++ [.string (mText m1), I (m1 + 1)]), ⟨⟨hlt, ?_, ?_, by simp [hA]; omega⟩, ?_, h.keep ⟨rfl, rfl, rfl, trivial⟩⟩, by show xs.length - (k + 1) < xs.length - k; omega⟩
      · show m ≤ m1 + 1 + 1
        omega
      · show m1 + 1 + 1 ≤ m + 2 * ((k + 1 : Nat) : Int)
        omega
      · rw [← hD, ← List.append_assoc] at hm
        exact hm
    · obtain rfl : k = xs.length := by omega
      repeat' (first | refine c_seq ?_ | refine c_region ?_ | refine c_nil ?_ | refine k_then ?_ | refine k_thenE ?_ | refine k_inE ?_ | refine c_ret ?_ | refine c_exit ?_ | refine c_condF h rfl ?_ | ((refine st_op rfl rfl h ?_); clear h a; (first | (show Does _ (.call _) _ _ _ _; (refine does_lenS (SliceT.out) rfl ?_)) | (show Does _ (.move _) _ _ _ _; refine does_move rfl ?_) | (show Does _ (.assign _) _ _ _ _; refine does_assign rfl ?_) | (show Does _ (.binOp _ _ _ _ _) _ _ _ _; (refine zlss rfl rfl ?_))); intro a h; (try simp only [Value.cells, splice, nz, Nat.reduceAdd, Nat.reduceMul, Int.reduceAdd, Int.reduceToNat, Int.reduceTMod] at h)))
      refine k_ret1 rfl h rfl ⟨[], ⟨rfl, m1, rfl, by omega, by omega⟩, hm.sub ((List.Sublist.refl _).cons _)⟩
end Go.Proofs.Ytaiiiendfcglmaa.St
