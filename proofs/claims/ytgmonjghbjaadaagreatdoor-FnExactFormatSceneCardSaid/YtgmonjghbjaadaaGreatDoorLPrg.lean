/-
  Contracts of the functions on programs: sizes, copies, sameness.
-/
import Derived.Test.YtgmonjghbjaadaaGreatDoorLNum
import Derived.Test.YtgmonjghbjaadaaGreatDoorJ10
import Derived.Test.YtgmonjghbjaadaaGreatDoorJ2
import Derived.Test.YtgmonjghbjaadaaGreatDoorJ3
set_option linter.unusedSimpArgs false
set_option linter.unusedVariables false
namespace Go.Proofs.YtgmonjghbjaadaaGreatDoor.St
open Go.RowKit Go.WideShapes
structure PNode where
  op : Int
  name : ByteArray
  num : Int
  args : List Int
/-- a node as it lies: its arguments' row too -/
structure TNode where
  a : PNode
  ptr : Option Addr
  cap : Nat
abbrev eN (x : TNode) : List Value := [I x.a.op, .string x.a.name, I x.a.num, .slice x.ptr x.a.args.length x.cap]
abbrev TAssignment := ByteArray × Int
abbrev eAssignment (x : TAssignment) : List Value := [.string x.1, I x.2]
set_option maxHeartbeats 2000000 in
theorem toAssignment_ok (f0 : ByteArray) (f1 : Int) : Fun Tryz.prog 112 [.agg #[.string f0, I f1]] (.agg #[.string f0, I f1]) := by
  refine enterFun Tryz.func112 rfl Tryz.ntmps112 rfl (fun W0 w a hm h => ?_)
  repeat' (first | refine c_seq ?_ | refine c_region ?_ | refine c_nil ?_ | refine k_then ?_ | refine c_ret ?_ | ((first | refine st_op rfl rfl h ?_ | refine st_opn rfl h ?_); clear h a; (first | (show Does _ (.box _ _) _ _ _ _; (refine does_box hm rfl rfl ?_; clear hm; intro b w hm)) | (show Does _ (.alloc _) _ _ _ _; (refine does_alloc hm ?_; clear hm; intro b w hm)) | (show Does _ (.store _ _ _) _ _ _ _; ((refine zs hm rfl rfl rfl rfl rfl rfl ?_); clear hm; intro w hm; (try simp only [Value.cells, splice, nz, ns, Nat.reduceAdd, Nat.reduceMul, Int.reduceAdd, Int.reduceToNat] at hm))) | (show Does _ (.fieldAddr _ _ _) _ _ _ _; (refine does_fieldAddrL rfl ?_)) | (show Does _ (.load _ _) _ _ _ _; (first | refine zl hm rfl rfl ?_ | refine za hm rfl rfl ?_))); intro a h; (try simp only [Value.cells, splice, nz, Nat.reduceAdd, Nat.reduceMul, Int.reduceAdd, Int.reduceToNat, Int.reduceTMod] at h)))
  all_goals (refine k_ret (vs := [_]) rfl h ⟨rv_cellA (i := 1) hm rfl rfl rfl, trivial⟩ ⟨?_, hm.below⟩)
  all_goals (rfl)
set_option maxHeartbeats 2000000 in
theorem eqAssignment_same (f0 : ByteArray) (f1 : Int) : Fun Tryz.prog 132 [.agg #[.string f0, I f1], .agg #[.string f0, I f1]] (.bool true) := by
  refine enterFun Tryz.func132 rfl Tryz.ntmps132 rfl (fun W0 w a hm h => ?_)
  repeat' (first | refine c_seq ?_ | refine c_region ?_ | refine c_nil ?_ | refine k_then ?_ | refine c_skip ?_ | refine c_ret ?_ | refine c_condF h rfl ?_ | ((refine st_op rfl rfl h ?_); clear h a; (first | (show Does _ (.binOp _ _ _ _ _) _ _ _ _; (first | (refine does_neqStrS rfl rfl ?_) | refine zneq rfl rfl ?_)) | (show Does _ (.box _ _) _ _ _ _; (refine does_box hm rfl rfl ?_; clear hm; intro b w hm)) | (show Does _ (.assign _) _ _ _ _; refine does_assign rfl ?_) | (show Does _ (.fieldAddr _ _ _) _ _ _ _; (refine does_fieldAddrL rfl ?_)) | (show Does _ (.load _ _) _ _ _ _; (refine zl hm rfl rfl ?_))); intro a h; (try simp only [Value.cells, splice, nz, Nat.reduceAdd, Nat.reduceMul, Int.reduceAdd, Int.reduceToNat, Int.reduceTMod] at h)))
  all_goals (refine k_ret1 rfl h rfl ⟨?_, hm.below⟩)
  all_goals (((rfl); done))
set_option maxHeartbeats 2000000 in
theorem toAssignmentS_ok (p : Option Addr) (xs : List TAssignment) (c : Nat) (hxs : xs.length ≤ 1048576) : FunN Tryz.prog 84 [.slice p xs.length c] (fun H => Sl H p eAssignment 2 xs) 90 2 (xs.map eAssignment).flatten := by
  refine enterFunN Tryz.func84 rfl Tryz.ntmps84 rfl (fun W0 w a hx hm h => ?_)
  repeat' (first | refine c_seq ?_ | refine c_region ?_ | refine c_nil ?_ | refine k_then ?_ | refine c_block ?_ | ((refine st_op rfl rfl h ?_); clear h a; (first | (show Does _ (.makeSlice _ _ _) _ _ _ _; ((refine does_make hm rfl rfl (by omega) (by omega) ?_; clear hm; intro b w hm))) | (show Does _ (.call _) _ _ _ _; (refine does_lenS (SliceT.out) rfl ?_)) | (show Does _ (.move _) _ _ _ _; refine does_move rfl ?_) | (show Does _ (.assign _) _ _ _ _; refine does_assign rfl ?_)); intro a h; (try simp only [Value.cells, splice, nz, Nat.reduceAdd, Nat.reduceMul, Int.reduceAdd, Int.reduceToNat, Int.reduceTMod] at h)))
  rw [fillTo_nil] at hm
  refine c_loop (σ := Nat) (fun k a w => k ≤ xs.length ∧ Mem W0 [] (fun b => W0.heap[b]?) [.blk b (.cells (fillTo xs.length [.string ⟨#[]⟩, I 0] ((xs.take k).map eAssignment)).toArray 90)] w ∧ Holds [(0, .slice p xs.length c), (3, .slice (some ⟨b, 0, none⟩) xs.length xs.length), (4, .int .i64 k)] _ a) (fun k => xs.length - k) 0
    ⟨Nat.zero_le _, by simpa using hm, h.keep ⟨rfl, rfl, rfl, trivial⟩⟩ ?_
  clear h hm
  rintro k a w ⟨hk, hm, h⟩
  by_cases hlt : k < xs.length
  · obtain ⟨q1, rfl, hat1⟩ := hx.at hlt
    have hcl := take_map_len eAssignment hk
    have hal := oneLen eAssignment 2 (fun _ => rfl) (xs.take k)
    repeat' (first | refine c_seq ?_ | refine c_region ?_ | refine c_nil ?_ | refine k_then ?_ | refine k_inN ?_ | refine c_skip ?_ | refine c_block ?_ | refine c_condT h rfl ?_ | ((first | refine st_op rfl rfl h ?_ | refine st_opn rfl h ?_); clear h a; (first | (show Does _ (.store _ _ _) _ _ _ _; ((refine does_storeF 0 hm rfl rfl rfl (by assumption) (by assumption) rfl rfl rfl rfl (by omega) (by omega) ?_); clear hm; intro w hm; (try simp only [Value.cells, splice, nz, ns, Nat.reduceAdd, Nat.reduceMul, Int.reduceAdd, Int.reduceToNat] at hm))) | (show Does _ (.call _) _ _ _ _; (first | ((refine does_funM hm en112 rfl (toAssignment_ok _ _) ?_); clear hm; intro w hm) | refine does_lenS (SliceT.out) rfl ?_)) | (show Does _ (.move _) _ _ _ _; refine does_move rfl ?_) | (show Does _ (.assign _) _ _ _ _; refine does_assign rfl ?_) | (show Does _ (.load _ _) _ _ _ _; (refine does_loadBA hm rfl (by assumption) rfl ?_)) | (show Does _ (.binOp _ _ _ _ _) _ _ _ _; (first | refine zlss rfl rfl ?_ | refine zadd rfl rfl ?_)) | (show Does _ (.indexAddr _ _ _) _ _ _ _; (first | refine ziSLn rfl rfl ?_ | refine ziSn rfl rfl ?_))); intro a h; (try simp only [Value.cells, splice, nz, Nat.reduceAdd, Nat.reduceMul, Int.reduceAdd, Int.reduceToNat, Int.reduceTMod] at h)))
    rw [take_map_snoc eAssignment hlt] at hm
    exact k_thenN ⟨k + 1, ⟨by omega, hm, h.keep ⟨rfl, rfl, rfl, trivial⟩⟩, by omega⟩
  · obtain rfl : k = xs.length := by omega
    rw [fillTo_full (by simp), List.take_length] at hm
    have hfl := flatten_length (oneLen eAssignment 2 (fun _ => rfl) xs)
    rw [List.length_map] at hfl
    replace hm := hm.toRow 0 (n := xs.length) (cap := 0) 2 rfl hfl (by simp only [maxLen]; omega)
    repeat' (first | refine c_seq ?_ | refine c_region ?_ | refine c_nil ?_ | refine k_then ?_ | refine k_thenE ?_ | refine k_inE ?_ | refine c_ret ?_ | refine c_exit ?_ | refine c_condF h rfl ?_ | ((refine st_op rfl rfl h ?_); clear h a; (first | (show Does _ (.call _) _ _ _ _; (refine does_lenS (SliceT.out) rfl ?_)) | (show Does _ (.move _) _ _ _ _; refine does_move rfl ?_) | (show Does _ (.assign _) _ _ _ _; refine does_assign rfl ?_) | (show Does _ (.binOp _ _ _ _ _) _ _ _ _; (refine zlss rfl rfl ?_))); intro a h; (try simp only [Value.cells, splice, nz, Nat.reduceAdd, Nat.reduceMul, Int.reduceAdd, Int.reduceToNat, Int.reduceTMod] at h)))
    exact k_ret1 rfl h rfl ⟨hm.below, row_new (i := 0) hm rfl⟩
set_option maxHeartbeats 2000000 in
theorem eqAssignmentS_same (p q : Option Addr) (xs : List TAssignment) (c d : Nat) (hxs : xs.length ≤ 1048576) : FunP Tryz.prog 104 [.slice p xs.length c, .slice q xs.length d] (fun H => Sl H p eAssignment 2 xs ∧ Sl H q eAssignment 2 xs) (.bool true) := by
  refine enterFunP Tryz.func104 rfl Tryz.ntmps104 rfl (fun W0 w a hp hm h => ?_)
  obtain ⟨hx, hy⟩ := hp
  repeat' (first | refine c_seq ?_ | refine c_region ?_ | refine c_nil ?_ | refine k_then ?_ | refine c_skip ?_ | refine c_block ?_ | refine c_condF h rfl ?_ | ((refine st_op rfl rfl h ?_); clear h a; (first | (show Does _ (.call _) _ _ _ _; (refine does_lenS (SliceT.out) rfl ?_)) | (show Does _ (.move _) _ _ _ _; refine does_move rfl ?_) | (show Does _ (.assign _) _ _ _ _; refine does_assign rfl ?_) | (show Does _ (.binOp _ _ _ _ _) _ _ _ _; (refine zneq rfl rfl ?_))); intro a h; (try simp only [Value.cells, splice, nz, Nat.reduceAdd, Nat.reduceMul, Int.reduceAdd, Int.reduceToNat, Int.reduceTMod] at h)))
  refine c_loop (σ := Nat) (fun k a w => k ≤ xs.length ∧ Mem W0 [] (fun b => W0.heap[b]?) [] w ∧ Holds [(0, .slice p xs.length c), (1, .slice q xs.length d), (5, .int .i64 k)] _ a) (fun k => xs.length - k) 0
    ⟨Nat.zero_le _, hm, h.keep ⟨rfl, rfl, rfl, trivial⟩⟩ ?_
  clear h hm
  rintro k a w ⟨hk, hm, h⟩
  by_cases hlt : k < xs.length
  · obtain ⟨q1, rfl, hat1⟩ := hx.at hlt
    obtain ⟨q2, rfl, hat2⟩ := hy.at (k := k) (by omega)
    repeat' (first | refine c_seq ?_ | refine c_region ?_ | refine c_nil ?_ | refine k_then ?_ | refine k_inN ?_ | refine c_skip ?_ | refine c_block ?_ | refine c_condT h rfl ?_ | refine c_condF h rfl ?_ | ((refine st_op rfl rfl h ?_); clear h a; (first | (show Does _ (.call _) _ _ _ _; (refine does_lenS (SliceT.out) rfl ?_)) | (show Does _ (.move _) _ _ _ _; refine does_move rfl ?_) | (show Does _ (.assign _) _ _ _ _; refine does_assign rfl ?_) | (show Does _ (.binOp _ _ _ _ _) _ _ _ _; (first | refine zlss rfl rfl ?_ | refine zadd rfl rfl ?_))); intro a h; (try simp only [Value.cells, splice, nz, Nat.reduceAdd, Nat.reduceMul, Int.reduceAdd, Int.reduceToNat, Int.reduceTMod] at h)) | (apply c_drawM (id := 6) 10 [.val _, .val _, .val _, .val _, .val _, .val _, .val _, .val _, .val _, .val _] mixed (by kernel_rfl) (h := h) (hm := hm); (case vcs => (repeat' (first | exact vcs_nil | refine vcs_cons ?_ ?_ | (intro w hm; (repeat (first | refine dep_val ?_ | refine dep_nil ?_)); first | exact vc_skip rfl | exact vc_alloc rfl | exact vc_box rfl rfl rfl | exact vc_buildSlice rfl rfl rfl rfl | exact vc_makeSlice (by omega) (by omega) rfl rfl rfl | exact vc_store rfl rfl rfl rfl rfl rfl rfl rfl rfl rfl | (apply vc_run rfl; (first | (show Does _ (.call _) _ _ _ _; ((refine does_funX en132 rfl (eqAssignment_same _ _) ?_))) | (show Does _ (.move _) _ _ _ _; refine does_move rfl ?_) | (show Does _ (.load _ _) _ _ _ _; (refine does_loadBA hm rfl (by assumption) rfl ?_)) | (show Does _ (.unOp _ _ _) _ _ _ _; (refine does_not rfl ?_)) | (show Does _ (.indexAddr _ _ _) _ _ _ _; (refine does_indexSn (by omega) rfl rfl ?_))); (first | exact ⟨ext_refl _, rfl⟩ | exact fun _ hx => ⟨hx, rfl⟩)))))); (case hup => kernel_rfl); (case hown => kernel_rfl); (case hnp => kernel_rfl); clear h hm a; intro  w hm; (try simp only [List.map_nil, List.nil_append] at hm); (repeat (first | refine dep_val ?_ | refine dep_nil ?_)); intro a h; (try simp only [Value.cells, List.toList_toArray, splice, List.set_cons_zero, List.set_cons_succ, List.drop_zero, List.drop_succ_cons, List.take_succ_cons, List.take_zero, Nat.zero_add, Nat.reduceAdd, Nat.reduceMul, Int.reduceAdd, Int.reduceToNat, Int.reduceTMod, Nat.zero_mul, Nat.one_mul, Int.toNat_natCast] at h)))
    exact k_thenN ⟨k + 1, ⟨by omega, hm, h.keep ⟨rfl, rfl, rfl, trivial⟩⟩, by omega⟩
  · repeat' (first | refine c_seq ?_ | refine c_region ?_ | refine c_nil ?_ | refine k_then ?_ | refine k_thenE ?_ | refine k_inE ?_ | refine c_ret ?_ | refine c_exit ?_ | refine c_condF h rfl ?_ | ((refine st_op rfl rfl h ?_); clear h a; (first | (show Does _ (.call _) _ _ _ _; (refine does_lenS (SliceT.out) rfl ?_)) | (show Does _ (.move _) _ _ _ _; refine does_move rfl ?_) | (show Does _ (.assign _) _ _ _ _; refine does_assign rfl ?_) | (show Does _ (.binOp _ _ _ _ _) _ _ _ _; (refine zlss rfl rfl ?_))); intro a h; (try simp only [Value.cells, splice, nz, Nat.reduceAdd, Nat.reduceMul, Int.reduceAdd, Int.reduceToNat, Int.reduceTMod] at h)))
    (refine k_ret1 rfl h rfl ⟨?_, hm.below⟩)
    rfl

def bdAssignment (x : TAssignment) : Prop := (x.1).size ≤ maxLen ∧ (-9223372036854775808 ≤ x.2 ∧ x.2 ≤ 9223372036854775807)
theorem openAssignmentS {H : Type} {enc : TypeId × Value → H} {P : Program} {w : World} {spare : Nat → Bool} {held : Bool} {t e : TypeId} {fuel : Nat} {c : Value} {x : DataW H × List MemPlace} (hu : P.underlying t = some (.slice e)) (hf : flatT P 9 e = some [.str, .int .i64]) (hc : P.cellsOf e = 2)
    (h : DataW.trod enc P w 0 spare held fuel t [c] = some x) : ∃ (p : Option Addr) (xs : List TAssignment) (cap : Nat), c = .slice p xs.length cap ∧ xs.length ≤ cap ∧ cap ≤ maxLen ∧ Sl (fun b => w.heap[b]?) p eAssignment 2 xs ∧ ∀ x ∈ xs, bdAssignment x := by
  obtain ⟨p, css, cap, rfl, h1, h2, h3, h4⟩ := openSlice hu hf (by simp) (by simpa using hc) h
  obtain ⟨xs, rfl, hq⟩ := list_of eAssignment bdAssignment css fun cs hcs => by
    have f0 := h4 cs hcs
    obtain ⟨n0, r0, rfl, b0, f1⟩ := fits_str f0
    obtain ⟨n1, r1, rfl, b1, f2⟩ := fits_i64 f1
    obtain rfl := fits_nil f2
    exact ⟨(n0, n1), rfl, b0, b1⟩
  refine ⟨p, xs, cap, by rw [List.length_map], by rwa [List.length_map] at h1, h2, fun i x hi => ?_, hq⟩
  exact h3 i (eAssignment x) (by rw [List.getElem?_map, hi]; rfl)
structure NodesH (B : Heap) (p : Option Addr) (xs : List TNode) : Prop where
  row : Sl B p eN 4 xs
  args : ∀ x ∈ xs, Sl B x.ptr eI 1 x.a.args
structure ProgH (B : Heap) (p q : Option Addr) (xs : List TNode) (ys : List TAssignment) : Prop where
  nodes : NodesH B p xs
  asg : Sl B q eAssignment 2 ys
theorem NodesH.mono {B B' : Heap} {p : Option Addr} {xs : List TNode} (h : NodesH B p xs) (hB : Heap.le B B') : NodesH B' p xs := ⟨h.row.mono hB, fun x hx => (h.args x hx).mono hB⟩
theorem ProgH.mono {B B' : Heap} {p q : Option Addr} {xs : List TNode} {ys : List TAssignment} (h : ProgH B p q xs ys) (hB : Heap.le B B') : ProgH B' p q xs ys := ⟨h.nodes.mono hB, h.asg.mono hB⟩
theorem NodesH.up {W0 w : World} {X : List Nat} {B : Heap} {L : List Own} {p : Option Addr} {xs : List TNode} (h : NodesH B p xs) (hm : Mem W0 X B L w) : NodesH (fun b => w.heap[b]?) p xs := h.mono hm.base
theorem ProgH.up {W0 w : World} {X : List Nat} {B : Heap} {L : List Own} {p q : Option Addr} {xs : List TNode} {ys : List TAssignment} (h : ProgH B p q xs ys) (hm : Mem W0 X B L w) : ProgH (fun b => w.heap[b]?) p q xs ys := h.mono hm.base
def bdN (x : TNode) : Prop := x.a.name.size ≤ maxLen ∧ x.a.args.length ≤ maxLen
theorem bdN.get {xs : List TNode} (h : ∀ x ∈ xs, bdN x) {k : Nat} (hk : k < xs.length) : xs[k].a.name.size ≤ 9223372036854775807 ∧ xs[k].a.args.length ≤ 9223372036854775807 := by
  have := h _ (List.getElem_mem hk)
  simp only [bdN, maxLen] at this
  omega
def smN (x : TNode) : Prop := x.a.args.length ≤ 1048576
/-- what is left of a size's bound, or -1 -/
def leftP (left : Int) (Q : Prop) (v : Value) : Prop := ∃ r, v = I r ∧ (r = -1 ∨ ((0 ≤ r ∧ r ≤ left) ∧ Q))
set_option maxHeartbeats 2000000 in
theorem szNode_n (o : Int) (s : ByteArray) (n : Int) (q : Option Addr) (k c : Nat) (left : Int) (hs : s.size ≤ 9223372036854775807) (hk : k ≤ 9223372036854775807) (hl : 0 ≤ left ∧ left ≤ 1048576) (hh : left < s.size + k) : Fun Tryz.prog 106 [.agg #[I o, .string s, I n, .slice q k c], I left] (I (-1)) := by
  refine enterFun Tryz.func106 rfl Tryz.ntmps106 rfl (fun W0 w a hm h => ?_)
  repeat' (first | refine c_seq ?_ | refine c_region ?_ | refine c_nil ?_ | refine k_then ?_ | refine k_thenR ?_ | refine c_skip ?_ | refine c_ret ?_ | refine c_condT h rfl ?_ | ((refine st_op rfl rfl h ?_); clear h a; (first | (show Does _ (.box _ _) _ _ _ _; (refine does_box hm rfl rfl ?_; clear hm; intro b w hm)) | (show Does _ (.call _) _ _ _ _; (first | ((refine does_funM hm en36 rfl (szIntS_ok _ _ _ _ (by first | assumption | omega) (by first | assumption | omega)) ?_); clear hm; intro w hm) | refine does_lenStr (StrT.out) rfl ?_)) | (show Does _ (.move _) _ _ _ _; refine does_move rfl ?_) | (show Does _ (.assign _) _ _ _ _; refine does_assign rfl ?_) | (show Does _ (.fieldAddr _ _ _) _ _ _ _; (refine does_fieldAddrL rfl ?_)) | (show Does _ (.load _ _) _ _ _ _; (refine zl hm rfl rfl ?_)) | (show Does _ (.binOp _ _ _ _ _) _ _ _ _; (first | refine zlss rfl rfl ?_ | refine zsub rfl rfl ?_))); intro a h; (try simp only [Value.cells, splice, nz, Nat.reduceAdd, Nat.reduceMul, Int.reduceAdd, Int.reduceToNat, Int.reduceTMod] at h)) | ((refine c_condD h rfl ?_ ?_) <;> intro hc <;> (try (fail))))
  all_goals (refine k_ret1 rfl h rfl ⟨?_, hm.below⟩)
  all_goals (rfl)
set_option maxHeartbeats 2000000 in
theorem szNode_y (o : Int) (s : ByteArray) (n : Int) (q : Option Addr) (k c : Nat) (left : Int) (hs : s.size ≤ 9223372036854775807) (hk : k ≤ 9223372036854775807) (hl : 0 ≤ left ∧ left ≤ 1048576) (hh : s.size + k ≤ left) : Fun Tryz.prog 106 [.agg #[I o, .string s, I n, .slice q k c], I left] (I (left - s.size - k)) := by
  refine enterFun Tryz.func106 rfl Tryz.ntmps106 rfl (fun W0 w a hm h => ?_)
  repeat' (first | refine c_seq ?_ | refine c_region ?_ | refine c_nil ?_ | refine k_then ?_ | refine c_skip ?_ | refine c_ret ?_ | refine c_condF h rfl ?_ | ((refine st_op rfl rfl h ?_); clear h a; (first | (show Does _ (.box _ _) _ _ _ _; (refine does_box hm rfl rfl ?_; clear hm; intro b w hm)) | (show Does _ (.call _) _ _ _ _; (first | ((refine does_funM hm en36 rfl (szIntS_ok _ _ _ _ (by first | assumption | omega) (by first | assumption | omega)) ?_); clear hm; intro w hm) | refine does_lenStr (StrT.out) rfl ?_)) | (show Does _ (.move _) _ _ _ _; refine does_move rfl ?_) | (show Does _ (.assign _) _ _ _ _; refine does_assign rfl ?_) | (show Does _ (.fieldAddr _ _ _) _ _ _ _; (refine does_fieldAddrL rfl ?_)) | (show Does _ (.load _ _) _ _ _ _; (refine zl hm rfl rfl ?_)) | (show Does _ (.binOp _ _ _ _ _) _ _ _ _; (first | refine zlss rfl rfl ?_ | refine zsub rfl rfl ?_))); intro a h; (try simp only [Value.cells, splice, nz, Nat.reduceAdd, Nat.reduceMul, Int.reduceAdd, Int.reduceToNat, Int.reduceTMod] at h)))
  all_goals (refine k_ret1 rfl h rfl ⟨?_, hm.below⟩)
  all_goals (exact intE (by omega))
set_option maxHeartbeats 4000000 in
theorem szNodeS_ok (p : Option Addr) (xs : List TNode) (c : Nat) (left : Int) (hbd : ∀ x ∈ xs, bdN x) (hn : xs.length ≤ 9223372036854775807) (hl : 0 ≤ left ∧ left ≤ 1048576) : FunV Tryz.prog 70 [.slice p xs.length c, I left] (fun H => NodesH H p xs) (leftP left (xs.length ≤ 1048576 ∧ ∀ x ∈ xs, smN x)) := by
  refine enterFunV Tryz.func70 rfl Tryz.ntmps70 rfl (fun W0 w a hp hm h => ?_)
  repeat' (first | refine c_seq ?_ | refine c_region ?_ | refine c_nil ?_ | refine k_then ?_ | refine k_thenR ?_ | refine c_skip ?_ | refine c_ret ?_ | refine c_block ?_ | ((refine st_op rfl rfl h ?_); clear h a; (first | (show Does _ (.call _) _ _ _ _; (refine does_lenS (SliceT.out) rfl ?_)) | (show Does _ (.move _) _ _ _ _; refine does_move rfl ?_) | (show Does _ (.assign _) _ _ _ _; refine does_assign rfl ?_) | (show Does _ (.binOp _ _ _ _ _) _ _ _ _; (first | refine zlss rfl rfl ?_ | refine zsub rfl rfl ?_))); intro a h; (try simp only [Value.cells, splice, nz, Nat.reduceAdd, Nat.reduceMul, Int.reduceAdd, Int.reduceToNat, Int.reduceTMod] at h)) | ((refine c_condD h rfl ?_ ?_) <;> intro hc <;> (try (fail))))
  · exact k_ret1 rfl h rfl ⟨⟨_, rfl, .inl rfl⟩, hm.below⟩
  · refine c_loop (σ := Nat × Int) (fun s a w => s.1 ≤ xs.length ∧ (0 ≤ s.2 ∧ s.2 ≤ left) ∧ (∀ j x, j < s.1 → xs[j]? = some x → smN x) ∧ Mem W0 [] (fun b => W0.heap[b]?) [] w ∧ Holds [(0, .slice p xs.length c), (1, I s.2), (5, .int .i64 s.1)] _ a) (fun s => xs.length - s.1) (0, left - xs.length)
      ⟨Nat.zero_le _, ⟨by omega, by show left - (xs.length : Int) ≤ left; omega⟩, fun j x hj => absurd hj (Nat.not_lt_zero _), hm, h.keep ⟨rfl, rfl, rfl, trivial⟩⟩ ?_
    have hlen : xs.length ≤ 1048576 := by omega
    clear h hm hc
    rintro ⟨k, l⟩ a w ⟨hk, hl2, hpre, hm, h⟩
    simp only at hk hl2 hpre h
    by_cases hlt : k < xs.length
    · obtain ⟨q1, rfl, hat1⟩ := hp.row.at hlt
      have hsz := bdN.get hbd hlt
      have g1 : xs[k]? = some xs[k] := List.getElem?_eq_getElem hlt
      by_cases hfit : (((xs[k].a.name.size : Nat) : Int) + ((xs[k].a.args.length : Nat) : Int)) ≤ l
      · repeat' (first | refine c_seq ?_ | refine c_region ?_ | refine c_nil ?_ | refine k_then ?_ | refine k_inN ?_ | refine c_skip ?_ | refine c_block ?_ | refine c_condT h rfl ?_ | refine c_condF h rfl ?_ | ((refine st_op rfl rfl h ?_); clear h a; (first | (show Does _ (.call _) _ _ _ _; (first | ((refine does_funM hm en106 rfl (szNode_y _ _ _ _ _ _ _ (by first | assumption | omega) (by first | assumption | omega) (by first | assumption | omega) (by first | assumption | omega)) ?_); clear hm; intro w hm) | refine does_lenS (SliceT.out) rfl ?_)) | (show Does _ (.move _) _ _ _ _; refine does_move rfl ?_) | (show Does _ (.assign _) _ _ _ _; refine does_assign rfl ?_) | (show Does _ (.load _ _) _ _ _ _; (refine does_loadBA hm rfl (by assumption) rfl ?_)) | (show Does _ (.binOp _ _ _ _ _) _ _ _ _; (first | refine zlss rfl rfl ?_ | refine zadd rfl rfl ?_)) | (show Does _ (.indexAddr _ _ _) _ _ _ _; (refine ziSn rfl rfl ?_))); intro a h; (try simp only [Value.cells, splice, nz, Nat.reduceAdd, Nat.reduceMul, Int.reduceAdd, Int.reduceToNat, Int.reduceTMod] at h)))
        refine k_thenN ⟨(k + 1, _), ⟨by omega, ⟨by show 0 ≤ l - ((xs[k].a.name.size : Nat) : Int) - ((xs[k].a.args.length : Nat) : Int); omega, by show l - ((xs[k].a.name.size : Nat) : Int) - ((xs[k].a.args.length : Nat) : Int) ≤ left; omega⟩, fun j x hj hx => ?_, hm, h.keep ⟨rfl, rfl, rfl, trivial⟩⟩, by show xs.length - (k + 1) < xs.length - k; omega⟩
        by_cases hjk : j < k
        · exact hpre j x hjk hx
        · obtain rfl : j = k := by simp only at hj; omega
          rw [g1] at hx
          cases hx
          show xs[j].a.args.length ≤ 1048576
          omega
      · repeat' (first | refine c_seq ?_ | refine c_region ?_ | refine c_nil ?_ | refine k_then ?_ | refine k_thenR ?_ | refine k_inR ?_ | refine c_skip ?_ | refine c_ret ?_ | refine c_block ?_ | refine c_condT h rfl ?_ | ((refine st_op rfl rfl h ?_); clear h a; (first | (show Does _ (.call _) _ _ _ _; (first | ((refine does_funM hm en106 rfl (szNode_n _ _ _ _ _ _ _ (by first | assumption | omega) (by first | assumption | omega) (by first | assumption | omega) (by first | assumption | omega)) ?_); clear hm; intro w hm) | refine does_lenS (SliceT.out) rfl ?_)) | (show Does _ (.move _) _ _ _ _; refine does_move rfl ?_) | (show Does _ (.assign _) _ _ _ _; refine does_assign rfl ?_) | (show Does _ (.load _ _) _ _ _ _; (refine does_loadBA hm rfl (by assumption) rfl ?_)) | (show Does _ (.binOp _ _ _ _ _) _ _ _ _; (refine zlss rfl rfl ?_)) | (show Does _ (.indexAddr _ _ _) _ _ _ _; (refine ziSn rfl rfl ?_))); intro a h; (try simp only [Value.cells, splice, nz, Nat.reduceAdd, Nat.reduceMul, Int.reduceAdd, Int.reduceToNat, Int.reduceTMod] at h)))
        exact k_ret1 rfl h rfl ⟨⟨_, rfl, .inl rfl⟩, hm.below⟩
    · repeat' (first | refine c_seq ?_ | refine c_region ?_ | refine c_nil ?_ | refine k_then ?_ | refine k_thenE ?_ | refine k_inE ?_ | refine c_ret ?_ | refine c_exit ?_ | refine c_condF h rfl ?_ | ((refine st_op rfl rfl h ?_); clear h a; (first | (show Does _ (.call _) _ _ _ _; (refine does_lenS (SliceT.out) rfl ?_)) | (show Does _ (.move _) _ _ _ _; refine does_move rfl ?_) | (show Does _ (.assign _) _ _ _ _; refine does_assign rfl ?_) | (show Does _ (.binOp _ _ _ _ _) _ _ _ _; (refine zlss rfl rfl ?_))); intro a h; (try simp only [Value.cells, splice, nz, Nat.reduceAdd, Nat.reduceMul, Int.reduceAdd, Int.reduceToNat, Int.reduceTMod] at h)))
      refine k_ret1 rfl h rfl ⟨⟨_, rfl, .inr ⟨hl2, hlen, fun x hx => ?_⟩⟩, hm.below⟩
      obtain ⟨j, hj⟩ := List.mem_iff_getElem?.1 hx
      exact hpre j x (by have := (List.getElem?_eq_some_iff.1 hj).1; omega) hj
set_option maxHeartbeats 2000000 in
theorem szA_n (s : ByteArray) (n left : Int) (hs : s.size ≤ 9223372036854775807) (hl : 0 ≤ left ∧ left ≤ 1048576) (hh : left < s.size) : Fun Tryz.prog 107 [.agg #[.string s, I n], I left] (I (-1)) := by
  refine enterFun Tryz.func107 rfl Tryz.ntmps107 rfl (fun W0 w a hm h => ?_)
  repeat' (first | refine c_seq ?_ | refine c_region ?_ | refine c_nil ?_ | refine k_then ?_ | refine k_thenR ?_ | refine c_ret ?_ | refine c_condT h rfl ?_ | ((refine st_op rfl rfl h ?_); clear h a; (first | (show Does _ (.box _ _) _ _ _ _; (refine does_box hm rfl rfl ?_; clear hm; intro b w hm)) | (show Does _ (.move _) _ _ _ _; refine does_move rfl ?_) | (show Does _ (.assign _) _ _ _ _; refine does_assign rfl ?_) | (show Does _ (.fieldAddr _ _ _) _ _ _ _; (refine does_fieldAddrL rfl ?_)) | (show Does _ (.load _ _) _ _ _ _; (refine zl hm rfl rfl ?_)) | (show Does _ (.binOp _ _ _ _ _) _ _ _ _; (first | refine zlss rfl rfl ?_ | refine zsub rfl rfl ?_)) | (show Does _ (.call _) _ _ _ _; refine does_lenStr (StrT.out) rfl ?_)); intro a h; (try simp only [Value.cells, splice, nz, Nat.reduceAdd, Nat.reduceMul, Int.reduceAdd, Int.reduceToNat, Int.reduceTMod] at h)))
  all_goals (refine k_ret1 rfl h rfl ⟨?_, hm.below⟩)
  all_goals (rfl)
set_option maxHeartbeats 2000000 in
theorem szA_y (s : ByteArray) (n left : Int) (hs : s.size ≤ 9223372036854775807) (hl : 0 ≤ left ∧ left ≤ 1048576) (hh : s.size ≤ left) : Fun Tryz.prog 107 [.agg #[.string s, I n], I left] (I (left - s.size)) := by
  refine enterFun Tryz.func107 rfl Tryz.ntmps107 rfl (fun W0 w a hm h => ?_)
  repeat' (first | refine c_seq ?_ | refine c_region ?_ | refine c_nil ?_ | refine k_then ?_ | refine c_skip ?_ | refine c_ret ?_ | refine c_condF h rfl ?_ | ((refine st_op rfl rfl h ?_); clear h a; (first | (show Does _ (.box _ _) _ _ _ _; (refine does_box hm rfl rfl ?_; clear hm; intro b w hm)) | (show Does _ (.move _) _ _ _ _; refine does_move rfl ?_) | (show Does _ (.assign _) _ _ _ _; refine does_assign rfl ?_) | (show Does _ (.fieldAddr _ _ _) _ _ _ _; (refine does_fieldAddrL rfl ?_)) | (show Does _ (.load _ _) _ _ _ _; (refine zl hm rfl rfl ?_)) | (show Does _ (.binOp _ _ _ _ _) _ _ _ _; (first | refine zlss rfl rfl ?_ | refine zsub rfl rfl ?_)) | (show Does _ (.call _) _ _ _ _; refine does_lenStr (StrT.out) rfl ?_)); intro a h; (try simp only [Value.cells, splice, nz, Nat.reduceAdd, Nat.reduceMul, Int.reduceAdd, Int.reduceToNat, Int.reduceTMod] at h)))
  all_goals (refine k_ret1 rfl h rfl ⟨?_, hm.below⟩)
  all_goals (rfl)
def bdA (xs : List TAssignment) : Prop := ∀ x ∈ xs, x.1.size ≤ maxLen
theorem bdA.get {xs : List TAssignment} (h : bdA xs) {k : Nat} (hk : k < xs.length) : xs[k].1.size ≤ 9223372036854775807 := by
  have := h _ (List.getElem_mem hk)
  simp only [maxLen] at this
  omega
set_option maxHeartbeats 4000000 in
theorem szAssignmentS_ok (p : Option Addr) (xs : List TAssignment) (c : Nat) (left : Int) (hbd : bdA xs) (hn : xs.length ≤ 9223372036854775807) (hl : 0 ≤ left ∧ left ≤ 1048576) : FunV Tryz.prog 71 [.slice p xs.length c, I left] (fun H => Sl H p eAssignment 2 xs) (leftP left (xs.length ≤ 1048576)) := by
  refine enterFunV Tryz.func71 rfl Tryz.ntmps71 rfl (fun W0 w a hp hm h => ?_)
  repeat' (first | refine c_seq ?_ | refine c_region ?_ | refine c_nil ?_ | refine k_then ?_ | refine k_thenR ?_ | refine c_skip ?_ | refine c_ret ?_ | refine c_block ?_ | ((refine st_op rfl rfl h ?_); clear h a; (first | (show Does _ (.call _) _ _ _ _; (refine does_lenS (SliceT.out) rfl ?_)) | (show Does _ (.move _) _ _ _ _; refine does_move rfl ?_) | (show Does _ (.assign _) _ _ _ _; refine does_assign rfl ?_) | (show Does _ (.binOp _ _ _ _ _) _ _ _ _; (first | refine zlss rfl rfl ?_ | refine zsub rfl rfl ?_))); intro a h; (try simp only [Value.cells, splice, nz, Nat.reduceAdd, Nat.reduceMul, Int.reduceAdd, Int.reduceToNat, Int.reduceTMod] at h)) | ((refine c_condD h rfl ?_ ?_) <;> intro hc <;> (try (fail))))
  · exact k_ret1 rfl h rfl ⟨⟨_, rfl, .inl rfl⟩, hm.below⟩
  · refine c_loop (σ := Nat × Int) (fun s a w => s.1 ≤ xs.length ∧ (0 ≤ s.2 ∧ s.2 ≤ left) ∧ Mem W0 [] (fun b => W0.heap[b]?) [] w ∧ Holds [(0, .slice p xs.length c), (1, I s.2), (5, .int .i64 s.1)] _ a) (fun s => xs.length - s.1) (0, left - xs.length)
      ⟨Nat.zero_le _, ⟨by omega, by show left - (xs.length : Int) ≤ left; omega⟩, hm, h.keep ⟨rfl, rfl, rfl, trivial⟩⟩ ?_
    have hlen : xs.length ≤ 1048576 := by omega
    clear h hm hc
    rintro ⟨k, l⟩ a w ⟨hk, hl2, hm, h⟩
    simp only at hk hl2 h
    by_cases hlt : k < xs.length
    · obtain ⟨q1, rfl, hat1⟩ := hp.at hlt
      have hsz := hbd.get hlt
      by_cases hfit : ((xs[k].1.size : Nat) : Int) ≤ l
      · repeat' (first | refine c_seq ?_ | refine c_region ?_ | refine c_nil ?_ | refine k_then ?_ | refine k_inN ?_ | refine c_skip ?_ | refine c_block ?_ | refine c_condT h rfl ?_ | refine c_condF h rfl ?_ | ((refine st_op rfl rfl h ?_); clear h a; (first | (show Does _ (.call _) _ _ _ _; (first | ((refine does_funM hm en107 rfl (szA_y _ _ _ (by first | assumption | omega) (by first | assumption | omega) (by first | assumption | omega)) ?_); clear hm; intro w hm) | refine does_lenS (SliceT.out) rfl ?_)) | (show Does _ (.move _) _ _ _ _; refine does_move rfl ?_) | (show Does _ (.assign _) _ _ _ _; refine does_assign rfl ?_) | (show Does _ (.load _ _) _ _ _ _; (refine does_loadBA hm rfl (by assumption) rfl ?_)) | (show Does _ (.binOp _ _ _ _ _) _ _ _ _; (first | refine zlss rfl rfl ?_ | refine zadd rfl rfl ?_)) | (show Does _ (.indexAddr _ _ _) _ _ _ _; (refine ziSn rfl rfl ?_))); intro a h; (try simp only [Value.cells, splice, nz, Nat.reduceAdd, Nat.reduceMul, Int.reduceAdd, Int.reduceToNat, Int.reduceTMod] at h)))
        exact k_thenN ⟨(k + 1, _), ⟨by omega, ⟨by show 0 ≤ l - ((xs[k].1.size : Nat) : Int); omega, by show l - ((xs[k].1.size : Nat) : Int) ≤ left; omega⟩, hm, h.keep ⟨rfl, rfl, rfl, trivial⟩⟩, by show xs.length - (k + 1) < xs.length - k; omega⟩
      · repeat' (first | refine c_seq ?_ | refine c_region ?_ | refine c_nil ?_ | refine k_then ?_ | refine k_thenR ?_ | refine k_inR ?_ | refine c_skip ?_ | refine c_ret ?_ | refine c_block ?_ | refine c_condT h rfl ?_ | ((refine st_op rfl rfl h ?_); clear h a; (first | (show Does _ (.call _) _ _ _ _; (first | ((refine does_funM hm en107 rfl (szA_n _ _ _ (by first | assumption | omega) (by first | assumption | omega) (by first | assumption | omega)) ?_); clear hm; intro w hm) | refine does_lenS (SliceT.out) rfl ?_)) | (show Does _ (.move _) _ _ _ _; refine does_move rfl ?_) | (show Does _ (.assign _) _ _ _ _; refine does_assign rfl ?_) | (show Does _ (.load _ _) _ _ _ _; (refine does_loadBA hm rfl (by assumption) rfl ?_)) | (show Does _ (.binOp _ _ _ _ _) _ _ _ _; (refine zlss rfl rfl ?_)) | (show Does _ (.indexAddr _ _ _) _ _ _ _; (refine ziSn rfl rfl ?_))); intro a h; (try simp only [Value.cells, splice, nz, Nat.reduceAdd, Nat.reduceMul, Int.reduceAdd, Int.reduceToNat, Int.reduceTMod] at h)))
        exact k_ret1 rfl h rfl ⟨⟨_, rfl, .inl rfl⟩, hm.below⟩
    · repeat' (first | refine c_seq ?_ | refine c_region ?_ | refine c_nil ?_ | refine k_then ?_ | refine k_thenE ?_ | refine k_inE ?_ | refine c_ret ?_ | refine c_exit ?_ | refine c_condF h rfl ?_ | ((refine st_op rfl rfl h ?_); clear h a; (first | (show Does _ (.call _) _ _ _ _; (refine does_lenS (SliceT.out) rfl ?_)) | (show Does _ (.move _) _ _ _ _; refine does_move rfl ?_) | (show Does _ (.assign _) _ _ _ _; refine does_assign rfl ?_) | (show Does _ (.binOp _ _ _ _ _) _ _ _ _; (refine zlss rfl rfl ?_))); intro a h; (try simp only [Value.cells, splice, nz, Nat.reduceAdd, Nat.reduceMul, Int.reduceAdd, Int.reduceToNat, Int.reduceTMod] at h)))
      exact k_ret1 rfl h rfl ⟨⟨_, rfl, .inr ⟨hl2, hlen⟩⟩, hm.below⟩
set_option maxHeartbeats 4000000 in
theorem szProgram_ok (p q : Option Addr) (xs : List TNode) (ys : List TAssignment) (c d : Nat) (left : Int) (hbx : ∀ x ∈ xs, bdN x) (hby : bdA ys) (hn : xs.length ≤ 9223372036854775807) (hn' : ys.length ≤ 9223372036854775807) (hl : 0 ≤ left ∧ left ≤ 1048576) :
    FunV Tryz.prog 37 [.agg #[.slice p xs.length c, .slice q ys.length d], I left] (fun H => ProgH H p q xs ys) (leftP left ((xs.length ≤ 1048576 ∧ ∀ x ∈ xs, smN x) ∧ ys.length ≤ 1048576)) := by
  refine enterFunV Tryz.func37 rfl Tryz.ntmps37 rfl (fun W0 w a hp hm h => ?_)
  obtain ⟨hx, hy⟩ := hp
  repeat' (first | refine c_seq ?_ | refine c_region ?_ | refine c_nil ?_ | refine k_then ?_ | refine k_thenR ?_ | refine c_skip ?_ | refine c_ret ?_ | ((refine st_op rfl rfl h ?_); clear h a; (first | (show Does _ (.box _ _) _ _ _ _; (refine does_box hm rfl rfl ?_; clear hm; intro b w hm)) | (show Does _ (.call _) _ _ _ _; (first | (refine does_funVal hm en70 rfl (szNodeS_ok _ _ _ _ (by assumption) (by omega) (by omega)) (by repeat' (exact NodesH.up (by assumption) hm)) ?_; clear hm; rintro v w ⟨r1, rfl, hr1⟩ hm) | (refine does_funVal hm en71 rfl (szAssignmentS_ok _ _ _ _ (by assumption) (by omega) (by omega)) (by repeat' (exact Sl.up (by assumption) hm)) ?_; clear hm; rintro v w ⟨r1, rfl, hr1⟩ hm))) | (show Does _ (.move _) _ _ _ _; refine does_move rfl ?_) | (show Does _ (.assign _) _ _ _ _; refine does_assign rfl ?_) | (show Does _ (.fieldAddr _ _ _) _ _ _ _; (refine does_fieldAddrL rfl ?_)) | (show Does _ (.load _ _) _ _ _ _; (refine zl hm rfl rfl ?_)) | (show Does _ (.binOp _ _ _ _ _) _ _ _ _; refine zlss rfl rfl ?_)); intro a h; (try simp only [Value.cells, splice, nz, Nat.reduceAdd, Nat.reduceMul, Int.reduceAdd, Int.reduceToNat, Int.reduceTMod] at h)) | ((refine c_condD h rfl ?_ ?_) <;> intro hc <;> (try (fail))))
  all_goals first | exact k_ret1 rfl h rfl ⟨⟨_, rfl, .inl rfl⟩, hm.below⟩ | skip
  rename_i r0 hr0 hc0
  exact k_ret1 rfl h rfl ⟨⟨_, rfl, .inr ⟨by omega, (hr0.resolve_left (by omega)).2, (hr1.resolve_left (by omega)).2⟩⟩, hm.below⟩
set_option maxHeartbeats 4000000 in
theorem toNode_ok (x : TNode) (hx : x.a.args.length ≤ 1048576) : FunG Tryz.prog 111 [.agg (eN x).toArray] (fun H => Sl H x.ptr eI 1 x.a.args)
    (fun v L' => ∃ u, v = .agg #[I x.a.op, .string x.a.name, I x.a.num, u] ∧ L' = [.row u 3 1 (x.a.args.map eI).flatten]) := by
  refine enterFunG Tryz.func111 rfl Tryz.ntmps111 rfl (fun W0 w a hp hm h => ?_)
  repeat' (first | refine c_seq ?_ | refine c_region ?_ | refine c_nil ?_ | refine k_then ?_ | ((first | refine st_op rfl rfl h ?_ | refine st_opn rfl h ?_); clear h a; (first | (show Does _ (.box _ _) _ _ _ _; (refine does_box hm rfl rfl ?_; clear hm; intro b w hm)) | (show Does _ (.alloc _) _ _ _ _; (refine does_alloc hm ?_; clear hm; intro b w hm)) | (show Does _ (.store _ _ _) _ _ _ _; ((refine zs hm rfl rfl rfl rfl rfl rfl ?_); clear hm; intro w hm; (try simp only [Value.cells, splice, nz, ns, Nat.reduceAdd, Nat.reduceMul, Int.reduceAdd, Int.reduceToNat] at hm))) | (show Does _ (.fieldAddr _ _ _) _ _ _ _; (refine does_fieldAddrL rfl ?_)) | (show Does _ (.load _ _) _ _ _ _; (refine zl hm rfl rfl ?_))); intro a h; (try simp only [Value.cells, splice, nz, Nat.reduceAdd, Nat.reduceMul, Int.reduceAdd, Int.reduceToNat, Int.reduceTMod] at h)))
  refine st_op rfl rfl h ?_; clear h a; refine does_funN hm en48 rfl (toIntN_ok _ _ _ (by omega)) (by repeat' (exact Sl.up (by assumption) hm)) ?_; clear hm; intro v w hm a h
  obtain ⟨p3, c3, rfl, hcc3, hcm3⟩ := row_slice (i := 0) hm rfl (fun _ => rfl) (by omega)
  repeat' (first | refine c_seq ?_ | refine c_region ?_ | refine c_nil ?_ | refine k_then ?_ | refine c_ret ?_ | ((first | refine st_op rfl rfl h ?_ | refine st_opn rfl h ?_); clear h a; (first | (show Does _ (.store _ _ _) _ _ _ _; ((refine zs hm rfl rfl rfl rfl rfl rfl ?_); clear hm; intro w hm; (try simp only [Value.cells, splice, nz, ns, Nat.reduceAdd, Nat.reduceMul, Int.reduceAdd, Int.reduceToNat] at hm))) | (show Does _ (.fieldAddr _ _ _) _ _ _ _; (refine does_fieldAddrL rfl ?_)) | (show Does _ (.load _ _) _ _ _ _; (refine za hm rfl rfl ?_))); intro a h; (try simp only [Value.cells, splice, nz, Nat.reduceAdd, Nat.reduceMul, Int.reduceAdd, Int.reduceToNat, Int.reduceTMod] at h)))
  exact k_ret (vs := [_]) rfl h ⟨rv_cellA (i := 2) hm rfl rfl rfl, trivial⟩ ⟨_, ⟨_, rfl, rfl⟩, hm.sub (List.Sublist.cons_cons _ (List.nil_sublist _))⟩
abbrev aN : TNode → PNode := TNode.a
structure NodesR (ns : List PNode) (v : Value) (N : Heap) : Prop where
  out : ∃ p c xs, v = .slice p xs.length c ∧ (xs.length ≤ c ∧ c ≤ maxLen) ∧ xs.map aN = ns ∧ NodesH N p xs
instance (ns : List PNode) : MonoR (NodesR ns) := ⟨fun _ _ _ hle ⟨⟨p, c, xs, h0, h1, h2, h3⟩⟩ => ⟨⟨p, c, xs, h0, h1, h2, h3.mono hle⟩⟩⟩
set_option maxHeartbeats 8000000 in
theorem toNodeS_ok (p : Option Addr) (xs : List TNode) (c : Nat) (hxs : xs.length ≤ 1048576) (hsm : ∀ x ∈ xs, smN x) : FunR Tryz.prog 83 [.slice p xs.length c] (fun H => NodesH H p xs) (NodesR (xs.map aN)) := by
  refine enterFunR Tryz.func83 rfl Tryz.ntmps83 rfl (fun W0 w a hx hm h => ?_)
  repeat' (first | refine c_seq ?_ | refine c_region ?_ | refine c_nil ?_ | refine k_then ?_ | refine c_block ?_ | ((refine st_op rfl rfl h ?_); clear h a; (first | (show Does _ (.makeSlice _ _ _) _ _ _ _; ((refine does_make hm rfl rfl (by omega) (by omega) ?_; clear hm; intro b w hm))) | (show Does _ (.move _) _ _ _ _; refine does_move rfl ?_) | (show Does _ (.assign _) _ _ _ _; refine does_assign rfl ?_) | (show Does _ (.call _) _ _ _ _; refine does_lenS (SliceT.out) rfl ?_)); intro a h; (try simp only [Value.cells, splice, nz, Nat.reduceAdd, Nat.reduceMul, Int.reduceAdd, Int.reduceToNat, Int.reduceTMod] at h)))
  rw [fillTo_nil] at hm
  refine c_loop (σ := Nat × List TNode × Heap) (fun s a w => (s.1 ≤ xs.length ∧ s.2.1.length = s.1) ∧ Heap.le (fun b => W0.heap[b]?) s.2.2 ∧ s.2.1.map aN = (xs.take s.1).map aN ∧ (∀ y ∈ s.2.1, Sl (newPart W0 s.2.2) y.ptr eI 1 y.a.args) ∧
    Mem W0 [] s.2.2 [.blk b (.cells (fillTo xs.length [I 0, .string ⟨#[]⟩, I 0, .slice none 0 0] (s.2.1.map eN)).toArray 121)] w ∧ Holds [(0, .slice p xs.length c), (3, .slice (some ⟨b, 0, none⟩) xs.length xs.length), (4, .int .i64 s.1)] _ a) (fun s => xs.length - s.1) (0, [], fun b => W0.heap[b]?)
    ⟨⟨Nat.zero_le _, rfl⟩, fun _ _ h => h, rfl, fun y hy => by simp at hy, by simpa using hm, h.keep ⟨rfl, rfl, rfl, trivial⟩⟩ ?_
  clear h hm
  rintro ⟨k, ys, B⟩ a w ⟨⟨hk, hyl⟩, hB0, hya, hys, hm, h⟩
  simp only at hk hyl hB0 hya hys hm h
  have hxB := hx.mono hB0
  by_cases hlt : k < xs.length
  · obtain ⟨q1, rfl, hat1⟩ := hxB.row.at hlt
    have hmem := List.getElem_mem hlt
    have hargs := hxB.args _ hmem
    have hsz : xs[k].a.args.length ≤ 1048576 := hsm _ hmem
    have hcl : (ys.map eN).length = k := by rw [List.length_map]; exact hyl
    have hal := oneLen eN 4 (fun _ => rfl) ys
    repeat' (first | refine c_seq ?_ | refine c_region ?_ | refine c_nil ?_ | refine k_then ?_ | refine c_skip ?_ | refine c_block ?_ | refine c_condT h rfl ?_ | ((refine st_op rfl rfl h ?_); clear h a; (first | (show Does _ (.move _) _ _ _ _; refine does_move rfl ?_) | (show Does _ (.load _ _) _ _ _ _; (refine does_loadBA hm rfl (by assumption) rfl ?_)) | (show Does _ (.binOp _ _ _ _ _) _ _ _ _; (refine zlss rfl rfl ?_)) | (show Does _ (.call _) _ _ _ _; refine does_lenS (SliceT.out) rfl ?_) | (show Does _ (.indexAddr _ _ _) _ _ _ _; (refine ziSn rfl rfl ?_))); intro a h; (try simp only [Value.cells, splice, nz, Nat.reduceAdd, Nat.reduceMul, Int.reduceAdd, Int.reduceToNat, Int.reduceTMod] at h)))
    refine st_op rfl rfl h ?_; clear h a; refine does_funG hm en111 rfl (toNode_ok xs[k] (by omega)) (hargs.up hm) ?_; clear hm; rintro v L1 w ⟨u, rfl, rfl⟩ hm a h; simp only [List.cons_append, List.nil_append] at hm
    obtain ⟨B5, p5, c5, hB5, hmx, rfl, hcc5, hcm5, hs5⟩ := hm.frozenN (fun _ => rfl) (by omega); clear hm; have hm := hmx; clear hmx
    repeat' (first | refine c_region ?_ | refine c_nil ?_ | refine k_then ?_ | refine k_inN ?_ | ((first | refine st_op rfl rfl h ?_ | refine st_opn rfl h ?_); clear h a; (first | (show Does _ (.store _ _ _) _ _ _ _; ((refine does_storeF 0 hm rfl rfl rfl (by assumption) (by assumption) rfl rfl rfl rfl (by omega) (by omega) ?_); clear hm; intro w hm; (try simp only [Value.cells, splice, nz, ns, Nat.reduceAdd, Nat.reduceMul, Int.reduceAdd, Int.reduceToNat] at hm))) | (show Does _ (.move _) _ _ _ _; refine does_move rfl ?_) | (show Does _ (.assign _) _ _ _ _; refine does_assign rfl ?_) | (show Does _ (.binOp _ _ _ _ _) _ _ _ _; (refine zadd rfl rfl ?_)) | (show Does _ (.indexAddr _ _ _) _ _ _ _; (refine ziSLn rfl rfl ?_))); intro a h; (try simp only [Value.cells, splice, nz, Nat.reduceAdd, Nat.reduceMul, Int.reduceAdd, Int.reduceToNat, Int.reduceTMod] at h)))
    have e : ys.map eN ++ [[I xs[k].a.op, .string xs[k].a.name, I xs[k].a.num, .slice p5 xs[k].a.args.length c5]] = (ys ++ [(⟨xs[k].a, p5, c5⟩ : TNode)]).map eN := by simp
    rw [e] at hm
    refine k_thenN ⟨(k + 1, ys ++ [(⟨xs[k].a, p5, c5⟩ : TNode)], B5), ⟨⟨by omega, by simp [hyl]⟩, fun _ _ h => hB5 _ _ (hB0 _ _ h), ?_, fun y hy => ?_, hm, h.keep ⟨rfl, rfl, rfl, trivial⟩⟩, by show xs.length - (k + 1) < xs.length - k; omega⟩
    · rw [List.map_append, hya, List.take_succ_eq_append_getElem hlt, List.map_append]; rfl
    · rcases List.mem_append.1 hy with hy | hy
      · exact (hys y hy).mono (newPart_mono hB5)
      · obtain rfl := List.mem_singleton.1 hy
        exact hs5
  · obtain rfl : k = xs.length := by omega
    rw [fillTo_full (by simp; omega)] at hm
    have hfl := flat_len (enc := eN) (sz := 4) (fun _ => rfl) ys
    replace hm := hm.toRow 0 (n := ys.length) (cap := 0) 4 rfl hfl (by simp only [maxLen]; omega)
    rw [hyl] at hm
    repeat' (first | refine c_seq ?_ | refine c_region ?_ | refine c_nil ?_ | refine k_then ?_ | refine k_thenE ?_ | refine k_inE ?_ | refine c_ret ?_ | refine c_exit ?_ | refine c_condF h rfl ?_ | ((refine st_op rfl rfl h ?_); clear h a; (first | (show Does _ (.move _) _ _ _ _; refine does_move rfl ?_) | (show Does _ (.assign _) _ _ _ _; refine does_assign rfl ?_) | (show Does _ (.binOp _ _ _ _ _) _ _ _ _; (refine zlss rfl rfl ?_)) | (show Does _ (.call _) _ _ _ _; refine does_lenS (SliceT.out) rfl ?_)); intro a h; (try simp only [Value.cells, splice, nz, Nat.reduceAdd, Nat.reduceMul, Int.reduceAdd, Int.reduceToNat, Int.reduceTMod] at h)))
    obtain ⟨p3', c3', e3, k1, k2, k3⟩ := row_newsI (i := 0) hm rfl (fun _ => rfl) (by omega)
    have hnew := newPart_new hm
    rw [hyl] at e3
    refine k_ret1 rfl h rfl ⟨hm.below, ⟨⟨_, _, ys, by rw [e3, hyl], ⟨k1, k2⟩, by rw [hya, List.take_length], k3, fun y hy => (hys y hy).mono hnew⟩⟩⟩
structure ProgR (ns : List PNode) (ys : List TAssignment) (v : Value) (N : Heap) : Prop where
  out : ∃ p c q d xs, v = .agg #[.slice p xs.length c, .slice q ys.length d] ∧ (xs.length ≤ c ∧ c ≤ maxLen) ∧ (ys.length ≤ d ∧ d ≤ maxLen) ∧ xs.map aN = ns ∧ ProgH N p q xs ys
set_option maxHeartbeats 8000000 in
theorem toProgram_ok (p q : Option Addr) (xs : List TNode) (ys : List TAssignment) (c d : Nat) (hxs : xs.length ≤ 1048576) (hsm : ∀ x ∈ xs, smN x) (hys : ys.length ≤ 1048576) :
    FunR Tryz.prog 49 [.agg #[.slice p xs.length c, .slice q ys.length d]] (fun H => ProgH H p q xs ys) (ProgR (xs.map aN) ys) := by
  refine enterFunR Tryz.func49 rfl Tryz.ntmps49 rfl (fun W0 w a hp hm h => ?_)
  obtain ⟨hx, hy⟩ := hp
  repeat' (first | refine c_seq ?_ | refine c_region ?_ | refine c_nil ?_ | refine k_then ?_ | ((refine st_op rfl rfl h ?_); clear h a; (first | (show Does _ (.box _ _) _ _ _ _; (refine does_box hm rfl rfl ?_; clear hm; intro b w hm)) | (show Does _ (.alloc _) _ _ _ _; (refine does_alloc hm ?_; clear hm; intro b w hm)) | (show Does _ (.fieldAddr _ _ _) _ _ _ _; (refine does_fieldAddrL rfl ?_)) | (show Does _ (.load _ _) _ _ _ _; (refine zl hm rfl rfl ?_))); intro a h; (try simp only [Value.cells, splice, nz, Nat.reduceAdd, Nat.reduceMul, Int.reduceAdd, Int.reduceToNat, Int.reduceTMod] at h)))
  refine st_op rfl rfl h ?_; clear h a; refine does_funRN hm en83 rfl (toNodeS_ok _ _ _ (by omega) hsm) (hx.up hm) ?_; clear hm; rintro v w N B HB HN ⟨⟨p1, c1, xs1, rfl, hc1, ha1, hn1⟩⟩ hm a h
  replace hy := hy.mono HB
  replace hn1 := hn1.mono HN
  repeat' (first | refine c_seq ?_ | refine c_region ?_ | refine c_nil ?_ | refine k_then ?_ | ((first | refine st_op rfl rfl h ?_ | refine st_opn rfl h ?_); clear h a; (first | (show Does _ (.store _ _ _) _ _ _ _; ((refine zs hm rfl rfl rfl rfl rfl rfl ?_); clear hm; intro w hm; (try simp only [Value.cells, splice, nz, ns, Nat.reduceAdd, Nat.reduceMul, Int.reduceAdd, Int.reduceToNat] at hm))) | (show Does _ (.fieldAddr _ _ _) _ _ _ _; (refine does_fieldAddrL rfl ?_)) | (show Does _ (.load _ _) _ _ _ _; (refine zl hm rfl rfl ?_))); intro a h; (try simp only [Value.cells, splice, nz, Nat.reduceAdd, Nat.reduceMul, Int.reduceAdd, Int.reduceToNat, Int.reduceTMod] at h)))
  refine st_op rfl rfl h ?_; clear h a; refine does_funN hm en84 rfl (toAssignmentS_ok _ _ _ (by omega)) (by repeat' (exact Sl.up (by assumption) hm)) ?_; clear hm; intro v w hm a h
  obtain ⟨B5, p5, c5, hB5, hmx, rfl, hcc5, hcm5, hs5⟩ := hm.frozenN (fun _ => rfl) (by omega); clear hm; have hm := hmx; clear hmx
  replace hn1 := hn1.mono (newPart_mono hB5)
  repeat' (first | refine c_seq ?_ | refine c_region ?_ | refine c_nil ?_ | refine k_then ?_ | refine c_ret ?_ | ((first | refine st_op rfl rfl h ?_ | refine st_opn rfl h ?_); clear h a; (first | (show Does _ (.store _ _ _) _ _ _ _; ((refine zs hm rfl rfl rfl rfl rfl rfl ?_); clear hm; intro w hm; (try simp only [Value.cells, splice, nz, ns, Nat.reduceAdd, Nat.reduceMul, Int.reduceAdd, Int.reduceToNat] at hm))) | (show Does _ (.fieldAddr _ _ _) _ _ _ _; (refine does_fieldAddrL rfl ?_)) | (show Does _ (.load _ _) _ _ _ _; (refine za hm rfl rfl ?_))); intro a h; (try simp only [Value.cells, splice, nz, Nat.reduceAdd, Nat.reduceMul, Int.reduceAdd, Int.reduceToNat, Int.reduceTMod] at h)))
  have hnew := newPart_new hm
  first | exact k_ret (vs := [_]) rfl h ⟨rv_cellA (i := 2) hm rfl rfl rfl, trivial⟩ ⟨hm.below, ⟨⟨_, _, _, _, xs1, rfl, hc1, ⟨hcc5, hcm5⟩, ha1, ⟨hn1.mono hnew, hs5.mono hnew⟩⟩⟩⟩ | exact k_ret (vs := [_]) rfl h ⟨rv_cellA (i := 1) hm rfl rfl rfl, trivial⟩ ⟨hm.below, ⟨⟨_, _, _, _, xs1, rfl, hc1, ⟨hcc5, hcm5⟩, ha1, ⟨hn1.mono hnew, hs5.mono hnew⟩⟩⟩⟩
set_option maxHeartbeats 4000000 in
theorem eqNode_same (x y : TNode) (hxy : x.a = y.a) (hx : x.a.args.length ≤ 1048576) : FunP Tryz.prog 131 [.agg (eN x).toArray, .agg (eN y).toArray] (fun H => Sl H x.ptr eI 1 x.a.args ∧ Sl H y.ptr eI 1 y.a.args) (.bool true) := by
  obtain ⟨a, p, c⟩ := x
  obtain ⟨a', p', c'⟩ := y
  obtain rfl : a = a' := hxy
  refine enterFunP Tryz.func131 rfl Tryz.ntmps131 rfl (fun W0 w a hp hm h => ?_)
  obtain ⟨h1, h2⟩ := hp
  simp only at hx h1 h2
  repeat' (first | refine c_seq ?_ | refine c_region ?_ | refine c_nil ?_ | refine k_then ?_ | refine c_skip ?_ | refine c_ret ?_ | refine c_condF h rfl ?_ | ((refine st_op rfl rfl h ?_); clear h a; (first | (show Does _ (.binOp _ _ _ _ _) _ _ _ _; (first | ((refine does_neqStrS rfl rfl ?_)) | refine zneq rfl rfl ?_)) | (show Does _ (.box _ _) _ _ _ _; (refine does_box hm rfl rfl ?_; clear hm; intro b w hm)) | (show Does _ (.call _) _ _ _ _; ((refine zc hm en67 rfl (eqIntN_ok _ _ _ _ _ _ (by simp only [maxLen]; omega)) ?_); clear hm; intro w hm)) | (show Does _ (.assign _) _ _ _ _; refine does_assign rfl ?_) | (show Does _ (.fieldAddr _ _ _) _ _ _ _; (refine does_fieldAddrL rfl ?_)) | (show Does _ (.load _ _) _ _ _ _; (refine zl hm rfl rfl ?_)) | (show Does _ (.unOp _ _ _) _ _ _ _; (refine does_notD rfl ?_))); intro a h; (try simp only [Value.cells, splice, nz, Nat.reduceAdd, Nat.reduceMul, Int.reduceAdd, Int.reduceToNat, Int.reduceTMod] at h)) | ((refine c_condD h rfl ?_ ?_) <;> intro hc <;> (try (exact absurd trivial hc))))
  all_goals first | ((refine k_ret1 rfl h rfl ⟨?_, hm.below⟩); rfl) | exact absurd rfl hc | skip
set_option maxHeartbeats 4000000 in
theorem eqNodeS_same (p q : Option Addr) (xs ys : List TNode) (c d : Nat) (hxy : xs.map aN = ys.map aN) (hxs : xs.length ≤ 1048576) (hsm : ∀ x ∈ xs, smN x) : FunP Tryz.prog 103 [.slice p xs.length c, .slice q ys.length d] (fun H => NodesH H p xs ∧ NodesH H q ys) (.bool true) := by
  have hl : xs.length = ys.length := by simpa using congrArg List.length hxy
  refine enterFunP Tryz.func103 rfl Tryz.ntmps103 rfl (fun W0 w a hp hm h => ?_)
  obtain ⟨hx, hy⟩ := hp
  repeat' (first | refine c_seq ?_ | refine c_region ?_ | refine c_nil ?_ | refine k_then ?_ | refine c_skip ?_ | refine c_block ?_ | refine c_condF h rfl ?_ | ((refine st_op rfl rfl h ?_); clear h a; (first | (show Does _ (.move _) _ _ _ _; refine does_move rfl ?_) | (show Does _ (.assign _) _ _ _ _; refine does_assign rfl ?_) | (show Does _ (.binOp _ _ _ _ _) _ _ _ _; (refine zneq rfl rfl ?_)) | (show Does _ (.call _) _ _ _ _; refine does_lenS (SliceT.out) rfl ?_)); intro a h; (try simp only [Value.cells, splice, nz, Nat.reduceAdd, Nat.reduceMul, Int.reduceAdd, Int.reduceToNat, Int.reduceTMod] at h)))
  refine c_loop (σ := Nat) (fun k a w => k ≤ xs.length ∧ Mem W0 [] (fun b => W0.heap[b]?) [] w ∧ Holds [(0, .slice p xs.length c), (1, .slice q ys.length d), (5, .int .i64 k)] _ a) (fun k => xs.length - k) 0
    ⟨Nat.zero_le _, hm, h.keep ⟨rfl, rfl, rfl, trivial⟩⟩ ?_
  clear h hm
  rintro k a w ⟨hk, hm, h⟩
  by_cases hlt : k < xs.length
  · have hlt2 : k < ys.length := by omega
    obtain ⟨q1, rfl, hat1⟩ := hx.row.at hlt
    obtain ⟨q2, rfl, hat2⟩ := hy.row.at hlt2
    have hsz : xs[k].a.args.length ≤ 1048576 := hsm _ (List.getElem_mem hlt)
    have hxa := hx.args _ (List.getElem_mem hlt)
    have hya := hy.args _ (List.getElem_mem hlt2)
    have he : xs[k].a = ys[k].a := by
      have := congrArg (fun l => l[k]?) hxy
      simpa [List.getElem?_map, hlt, hlt2] using this
    repeat' (first | refine c_seq ?_ | refine c_region ?_ | refine c_nil ?_ | refine k_then ?_ | refine k_inN ?_ | refine c_skip ?_ | refine c_block ?_ | refine c_condT h rfl ?_ | refine c_condF h rfl ?_ | ((refine st_op rfl rfl h ?_); clear h a; (first | (show Does _ (.call _) _ _ _ _; (refine does_lenS (SliceT.out) rfl ?_)) | (show Does _ (.move _) _ _ _ _; refine does_move rfl ?_) | (show Does _ (.assign _) _ _ _ _; refine does_assign rfl ?_) | (show Does _ (.binOp _ _ _ _ _) _ _ _ _; (first | refine zlss rfl rfl ?_ | refine zadd rfl rfl ?_))); intro a h; (try simp only [Value.cells, splice, nz, Nat.reduceAdd, Nat.reduceMul, Int.reduceAdd, Int.reduceToNat, Int.reduceTMod] at h)) | (apply c_drawM (id := 6) 10 [.val _, .val _, .val _, .val _, .val _, .val _, .val _, .val _, .val _, .val _] mixed (by kernel_rfl) (h := h) (hm := hm); (case vcs => (repeat' (first | exact vcs_nil | refine vcs_cons ?_ ?_ | (intro w hm; (repeat (first | refine dep_val ?_ | refine dep_nil ?_)); first | exact vc_skip rfl | exact vc_alloc rfl | exact vc_box rfl rfl rfl | exact vc_buildSlice rfl rfl rfl rfl | exact vc_makeSlice (by omega) (by omega) rfl rfl rfl | exact vc_store rfl rfl rfl rfl rfl rfl rfl rfl rfl rfl | (apply vc_run rfl; (first | (show Does _ (.call _) _ _ _ _; (((refine does_funPX2 en131 rfl (by repeat' (first | with_reducible refine And.intro ?_ ?_ | exact Sl.up (by assumption) hm)) (eqNode_same xs[k] ys[k] he hsz) ?_)))) | (show Does _ (.move _) _ _ _ _; refine does_move rfl ?_) | (show Does _ (.load _ _) _ _ _ _; (refine does_loadBA hm rfl (by assumption) rfl ?_)) | (show Does _ (.unOp _ _ _) _ _ _ _; (refine does_not rfl ?_)) | (show Does _ (.indexAddr _ _ _) _ _ _ _; (refine does_indexSn (by omega) rfl rfl ?_))); (first | exact ⟨ext_refl _, rfl⟩ | exact fun _ hx => ⟨hx, rfl⟩)))))); (case hup => kernel_rfl); (case hown => kernel_rfl); (case hnp => kernel_rfl); clear h hm a; intro  w hm; (try simp only [List.map_nil, List.nil_append] at hm); (repeat (first | refine dep_val ?_ | refine dep_nil ?_)); intro a h; (try simp only [Value.cells, List.toList_toArray, splice, List.set_cons_zero, List.set_cons_succ, List.drop_zero, List.drop_succ_cons, List.take_succ_cons, List.take_zero, Nat.zero_add, Nat.reduceAdd, Nat.reduceMul, Int.reduceAdd, Int.reduceToNat, Int.reduceTMod, Nat.zero_mul, Nat.one_mul, Int.toNat_natCast] at h)))
    exact k_thenN ⟨k + 1, ⟨by omega, hm, h.keep ⟨rfl, rfl, rfl, trivial⟩⟩, by omega⟩
  · repeat' (first | refine c_seq ?_ | refine c_region ?_ | refine c_nil ?_ | refine k_then ?_ | refine k_thenE ?_ | refine k_inE ?_ | refine c_ret ?_ | refine c_exit ?_ | refine c_condF h rfl ?_ | ((refine st_op rfl rfl h ?_); clear h a; (first | (show Does _ (.move _) _ _ _ _; refine does_move rfl ?_) | (show Does _ (.assign _) _ _ _ _; refine does_assign rfl ?_) | (show Does _ (.binOp _ _ _ _ _) _ _ _ _; (refine zlss rfl rfl ?_)) | (show Does _ (.call _) _ _ _ _; refine does_lenS (SliceT.out) rfl ?_)); intro a h; (try simp only [Value.cells, splice, nz, Nat.reduceAdd, Nat.reduceMul, Int.reduceAdd, Int.reduceToNat, Int.reduceTMod] at h)))
    (refine k_ret1 rfl h rfl ⟨?_, hm.below⟩)
    rfl
set_option maxHeartbeats 4000000 in
theorem eqProgram_same (p q p' q' : Option Addr) (xs xs' : List TNode) (ys : List TAssignment) (c d c' d' : Nat) (hxy : xs.map aN = xs'.map aN) (hxs : xs.length ≤ 1048576) (hsm : ∀ x ∈ xs, smN x) (hys : ys.length ≤ 1048576) :
    FunP Tryz.prog 68 [.agg #[.slice p xs.length c, .slice q ys.length d], .agg #[.slice p' xs'.length c', .slice q' ys.length d']] (fun H => ProgH H p q xs ys ∧ ProgH H p' q' xs' ys) (.bool true) := by
  refine enterFunP Tryz.func68 rfl Tryz.ntmps68 rfl (fun W0 w a hp hm h => ?_)
  obtain ⟨⟨hx, hy⟩, hx', hy'⟩ := hp
  repeat' (first | refine c_seq ?_ | refine c_region ?_ | refine c_nil ?_ | refine k_then ?_ | refine c_skip ?_ | refine c_ret ?_ | refine c_condF h rfl ?_ | ((refine st_op rfl rfl h ?_); clear h a; (first | (show Does _ (.call _) _ _ _ _; (first | ((refine does_funP2 hm en103 rfl (by repeat' (first | with_reducible refine And.intro ?_ ?_ | exact NodesH.up (by assumption) hm)) (eqNodeS_same _ _ _ _ _ _ hxy (by omega) hsm) ?_; clear hm; intro w hm)) | ((refine zc hm en104 rfl (eqAssignmentS_same _ _ _ _ _ (by omega)) ?_); clear hm; intro w hm))) | (show Does _ (.box _ _) _ _ _ _; (refine does_box hm rfl rfl ?_; clear hm; intro b w hm)) | (show Does _ (.assign _) _ _ _ _; refine does_assign rfl ?_) | (show Does _ (.fieldAddr _ _ _) _ _ _ _; (refine does_fieldAddrL rfl ?_)) | (show Does _ (.load _ _) _ _ _ _; (refine zl hm rfl rfl ?_)) | (show Does _ (.unOp _ _ _) _ _ _ _; (refine does_not rfl ?_))); intro a h; (try simp only [Value.cells, splice, nz, Nat.reduceAdd, Nat.reduceMul, Int.reduceAdd, Int.reduceToNat, Int.reduceTMod] at h)))
  all_goals first | exact absurd rfl hc | ((refine k_ret1 rfl h rfl ⟨?_, hm.below⟩); rfl)
theorem openNodeS {H : Type} {enc : TypeId × Value → H} {P : Program} {w : World} {spare : Nat → Bool} {held : Bool} {t e t2 e2 : TypeId} {fuel : Nat} {c : Value} {x : DataW H × List MemPlace} (hu : P.underlying t = some (.slice e)) (hf : flatT P 9 e = some [.int .i64, .str, .int .i64, .cell t2]) (hc : P.cellsOf e = 4)
    (hu2 : P.underlying t2 = some (.slice e2)) (hf2 : flatT P 9 e2 = some [.int .i64]) (hc2 : P.cellsOf e2 = 1)
    (h : DataW.trod enc P w 0 spare held fuel t [c] = some x) : ∃ (p : Option Addr) (xs : List TNode) (cap : Nat), c = .slice p xs.length cap ∧ xs.length ≤ cap ∧ cap ≤ maxLen ∧ NodesH (fun b => w.heap[b]?) p xs ∧ ∀ x ∈ xs, bdN x := by
  obtain ⟨p, css, cap, rfl, h1, h2, h3, h4⟩ := openSlice hu hf (by simp) (by simpa using hc) h
  obtain ⟨xs, rfl, hq⟩ := list_of eN (fun x => bdN x ∧ Sl (fun b => w.heap[b]?) x.ptr eI 1 x.a.args) css fun cs hcs => by
    obtain ⟨n0, r0, rfl, b0, f1⟩ := fits_i64 (h4 cs hcs)
    obtain ⟨n1, r1, rfl, b1, f2⟩ := fits_str f1
    obtain ⟨n2, r2, rfl, b2, f3⟩ := fits_i64 f2
    obtain ⟨n3, r3, rfl, ⟨u3, x3, g3⟩, f4⟩ := fits_cell f3
    obtain rfl := fits_nil f4
    obtain ⟨p0, xs0, c0, rfl, hle0, hn0, hi0, hbd0⟩ := openIntN hu2 hf2 hc2 g3
    exact ⟨⟨⟨n0, n1, n2, xs0⟩, p0, c0⟩, rfl, ⟨b1, by simp only; omega⟩, hi0⟩
  refine ⟨p, xs, cap, by rw [List.length_map], by rwa [List.length_map] at h1, h2, ⟨fun i x hi => ?_, fun x hx => (hq x hx).2⟩, fun x hx => (hq x hx).1⟩
  exact h3 i (eN x) (by rw [List.getElem?_map, hi]; rfl)
end Go.Proofs.YtgmonjghbjaadaaGreatDoor.St
