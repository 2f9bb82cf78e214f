/-
  Contracts of the functions that hash rows of integers.
-/
import Derived.Test.YtcbnegmmjflmcaaGreatLMks
import Derived.Test.YtcbnegmmjflmcaaGreatJ10
import Derived.Test.YtcbnegmmjflmcaaGreatJ3
import Derived.Test.YtcbnegmmjflmcaaGreatJ12
import Derived.Test.YtcbnegmmjflmcaaGreatJ2

section
set_option linter.unusedSimpArgs false
set_option linter.unusedVariables false
namespace Go.Proofs.YtcbnegmmjflmcaaGreat.St
open Go.RowKit
theorem sFDm_ok (n : Int) (hn : -9223372036854775807 ≤ n ∧ n ≤ 9223372036854775807) : Fun Tryz.prog 93 [I n, I 1000003] (I (n / 1000003)) := by
  have := sFloorDiv_ok n 1000003 hn
  rwa [fDiv_eq (by omega)] at this
theorem sl_blk {W0 w : World} {X : List Nat} {B : Heap} {L : List Own} {j b' : Nat} {xs : List Int} {T : TypeId} {fz : Nat × Nat} (hm : Mem W0 X B L w) (hj : L[j]? = some (.blk b' (.cells (xs.map eI).flatten.toArray T fz))) : Sl (fun b => w.heap[b]?) (some ⟨b', 0, none⟩) eI 1 xs :=
  sl_of_flat (fun _ => rfl) rfl fun _ => ⟨b', rfl, at_own (i := j) hm hj (fun j v hv => (by rw [Nat.zero_add]; simpa using hv))⟩
set_option maxHeartbeats 4000000 in
theorem hashInts_ok (p : Option Addr) (xs : List Int) (c : Nat) (hl : xs.length ≤ 256) : FunV Tryz.prog 72 [.slice p xs.length c] (fun H => Sl H p eI 1 xs) (intR 0 1000002) := by
  refine enterFunV Tryz.func72 rfl Tryz.ntmps72 rfl (fun W0 w a hp hm h => ?_)
  repeat' (first | refine c_seq ?_ | refine c_region ?_ | refine c_nil ?_ | refine k_then ?_ | refine c_block ?_ | ((refine st_op rfl rfl h ?_); clear h a; (first | (show Does _ (.move _) _ _ _ _; refine does_move rfl ?_) | (show Does _ (.assign _) _ _ _ _; refine does_assign rfl ?_) | (show Does _ (.call _) _ _ _ _; refine does_lenS (SliceT.out) rfl ?_)); intro a h; (try simp only [Value.cells, splice, nqq, Nat.reduceAdd, Nat.reduceMul, Int.reduceAdd, Int.reduceToNat, Int.reduceTMod] at h)))
  refine c_loop (σ := Nat) (fun k a w => k ≤ xs.length ∧ ∃ n : Int, (0 ≤ n ∧ n ≤ 1000002) ∧ Mem W0 [] (fun b => W0.heap[b]?) [] w ∧ Holds [(0, .slice p xs.length c), (6, .slice p xs.length c), (7, .int .i64 xs.length), (8, .int .i64 k), (3, I n)] 24 a) (fun k => xs.length - k) 0
    ⟨Nat.zero_le _, _, ⟨by omega, by omega⟩, hm, h.keep ⟨rfl, rfl, rfl, rfl, rfl, trivial⟩⟩ ?_
  clear h hm a w
  rintro k a w ⟨hk, n, hn, hm, h⟩
  by_cases hlt : k < xs.length
  · obtain ⟨q1, rfl, hat1⟩ := hp.at hlt
    rw [Nat.mul_one] at hat1
    repeat' (first | refine c_seq ?_ | refine c_region ?_ | refine c_nil ?_ | refine k_then ?_ | refine k_inN ?_ | refine c_skip ?_ | refine c_block ?_ | refine c_condT h rfl ?_ | ((refine st_op rfl rfl h ?_); clear h a; (first | (show Does _ (.call _) _ _ _ _; (first | ((refine does_funM hm en93 rfl (sFDm_ok _ (by omega)) ?_; clear hm; intro w hm)) | ((refine does_funM hm en92 rfl (sClamp_ok _ _ _ (by omega)) ?_; clear hm; intro w hm)))) | (show Does _ (.move _) _ _ _ _; refine does_move rfl ?_) | (show Does _ (.assign _) _ _ _ _; refine does_assign rfl ?_) | (show Does _ (.load _ _) _ _ _ _; (refine does_loadB hm rfl (by assumption) rfl ?_)) | (show Does _ (.binOp _ _ _ _ _) _ _ _ _; (first | refine does_lssT rfl rfl (by omega) ?_ | refine does_mul rfl rfl (mul_in (by omega) (by omega)) ?_ | refine does_add rfl rfl (by omega) ?_ | refine does_sub rfl rfl (by omega) ?_)) | (show Does _ (.indexAddr _ _ _) _ _ _ _; (refine does_indexS1 (by omega) rfl rfl ?_))); intro a h; (try simp only [Value.cells, splice, nqq, Nat.reduceAdd, Nat.reduceMul, Int.reduceAdd, Int.reduceToNat, Int.reduceTMod] at h)))
    exact k_thenN ⟨k + 1, ⟨by omega, _, ⟨by omega, by omega⟩, hm, h.keep ⟨rfl, rfl, rfl, rfl, rfl, trivial⟩⟩, by omega⟩
  · obtain rfl : k = xs.length := by omega
    repeat' (first | refine c_seq ?_ | refine c_region ?_ | refine c_nil ?_ | refine k_then ?_ | refine k_thenE ?_ | refine k_inE ?_ | refine c_ret ?_ | refine c_exit ?_ | refine c_condF h rfl ?_ | ((refine st_op rfl rfl h ?_); clear h a; (first | (show Does _ (.move _) _ _ _ _; refine does_move rfl ?_) | (show Does _ (.assign _) _ _ _ _; refine does_assign rfl ?_) | (show Does _ (.binOp _ _ _ _ _) _ _ _ _; (refine does_lssF rfl rfl (by omega) ?_))); intro a h; (try simp only [Value.cells, splice, nqq, Nat.reduceAdd, Nat.reduceMul, Int.reduceAdd, Int.reduceToNat, Int.reduceTMod] at h)))
    exact k_ret1 rfl h rfl ⟨⟨n, rfl, hn.1, hn.2⟩, hm.below⟩
set_option maxHeartbeats 4000000 in
theorem hashRange_ok (p : Option Addr) (xs : List Int) (c : Nat) (n : Int) (hl : xs.length ≤ 256) (hn : 1 ≤ n ∧ n ≤ 1000) : FunV Tryz.prog 54 [.slice p xs.length c, I n] (fun H => Sl H p eI 1 xs) (intR 0 (n - 1)) := by
  refine enterFunV Tryz.func54 rfl Tryz.ntmps54 rfl (fun W0 w a hp hm h => ?_)
  repeat' (first | refine c_seq ?_ | refine c_region ?_ | refine c_nil ?_ | refine k_then ?_ | refine c_skip ?_ | refine c_ret ?_ | refine c_condF h rfl ?_ | ((refine st_op rfl rfl h ?_); clear h a; (first | (show Does _ (.call _) _ _ _ _; ((refine does_funVal hm en72 rfl (hashInts_ok _ _ _ hl) (hp.up hm) ?_; clear hm; rintro v w ⟨m, rfl, hm1, hm2⟩ hm))) | (show Does _ (.move _) _ _ _ _; refine does_move rfl ?_) | (show Does _ (.assign _) _ _ _ _; refine does_assign rfl ?_) | (show Does _ (.binOp _ _ _ _ _) _ _ _ _; (first | refine does_lssF rfl rfl (by omega) ?_ | refine does_rem rfl rfl (by omega) ?_))); intro a h; (try simp only [Value.cells, splice, nqq, Nat.reduceAdd, Nat.reduceMul, Int.reduceAdd, Int.reduceToNat, Int.reduceTMod] at h)))
  have k1 := Int.tmod_nonneg n hm1
  have k2 := Int.tmod_lt_of_pos m (show 0 < n by omega)
  exact k_ret1 rfl h rfl ⟨⟨_, rfl, k1, by omega⟩, hm.below⟩
end Go.Proofs.YtcbnegmmjflmcaaGreat.St
end

section
/-
  Frozen memory that is new: what a call hands back with slices within slices.
-/
set_option linter.unusedSimpArgs false
set_option linter.unusedVariables false
namespace Go.Proofs.YtcbnegmmjflmcaaGreat.St
open Go.RowKit
section
variable {P : Program} {E : Env} {w W0 : World} {X : List Nat} {B B' : Heap} {L : List Own} {Φ : Value → World → Prop} {ty t : TypeId} {x y : Operand}
end
end Go.Proofs.YtcbnegmmjflmcaaGreat.St
end

section
/-
  Contracts of the functions on programs: sizes, copies, sameness.
-/
set_option linter.unusedSimpArgs false
set_option linter.unusedVariables false
namespace Go.Proofs.YtcbnegmmjflmcaaGreat.St
open Go.RowKit Go.WideShapes
structure PNode where
  op : Int
  name : ByteArray
  num : Int
  args : List Int
/-- a node as it lies: its arguments' row too -/
structure TNode where
  a : PNode
  ptr : Option Addr
  cap : Nat
abbrev eN (x : TNode) : List Value := [I x.a.op, .string x.a.name, I x.a.num, .slice x.ptr x.a.args.length x.cap]
abbrev TAssignment := ByteArray × Int
abbrev eAssignment (x : TAssignment) : List Value := [.string x.1, I x.2]

structure NodesH (B : Heap) (p : Option Addr) (xs : List TNode) : Prop where
  row : Sl B p eN 4 xs
  args : ∀ x ∈ xs, Sl B x.ptr eI 1 x.a.args
structure ProgH (B : Heap) (p q : Option Addr) (xs : List TNode) (ys : List TAssignment) : Prop where
  nodes : NodesH B p xs
  asg : Sl B q eAssignment 2 ys
theorem NodesH.mono {B B' : Heap} {p : Option Addr} {xs : List TNode} (h : NodesH B p xs) (hB : Heap.le B B') : NodesH B' p xs := ⟨h.row.mono hB, fun x hx => (h.args x hx).mono hB⟩
theorem ProgH.mono {B B' : Heap} {p q : Option Addr} {xs : List TNode} {ys : List TAssignment} (h : ProgH B p q xs ys) (hB : Heap.le B B') : ProgH B' p q xs ys := ⟨h.nodes.mono hB, h.asg.mono hB⟩
theorem NodesH.up {W0 w : World} {X : List Nat} {B : Heap} {L : List Own} {p : Option Addr} {xs : List TNode} (h : NodesH B p xs) (hm : Mem W0 X B L w) : NodesH (fun b => w.heap[b]?) p xs := h.mono hm.base
theorem ProgH.up {W0 w : World} {X : List Nat} {B : Heap} {L : List Own} {p q : Option Addr} {xs : List TNode} {ys : List TAssignment} (h : ProgH B p q xs ys) (hm : Mem W0 X B L w) : ProgH (fun b => w.heap[b]?) p q xs ys := h.mono hm.base
def bdN (x : TNode) : Prop := x.a.name.size ≤ maxLen ∧ x.a.args.length ≤ maxLen
theorem bdN.get {xs : List TNode} (h : ∀ x ∈ xs, bdN x) {k : Nat} (hk : k < xs.length) : xs[k].a.name.size ≤ 9223372036854775807 ∧ xs[k].a.args.length ≤ 9223372036854775807 := by
  have := h _ (List.getElem_mem hk)
  simp only [bdN, maxLen] at this
  omega
def smN (x : TNode) : Prop := x.a.args.length ≤ 1048576
def bdA (xs : List TAssignment) : Prop := ∀ x ∈ xs, x.1.size ≤ maxLen
theorem bdA.get {xs : List TAssignment} (h : bdA xs) {k : Nat} (hk : k < xs.length) : xs[k].1.size ≤ 9223372036854775807 := by
  have := h _ (List.getElem_mem hk)
  simp only [maxLen] at this
  omega
abbrev aN : TNode → PNode := TNode.a
structure NodesR (ns : List PNode) (v : Value) (N : Heap) : Prop where
  out : ∃ p c xs, v = .slice p xs.length c ∧ (xs.length ≤ c ∧ c ≤ maxLen) ∧ xs.map aN = ns ∧ NodesH N p xs
structure ProgR (ns : List PNode) (ys : List TAssignment) (v : Value) (N : Heap) : Prop where
  out : ∃ p c q d xs, v = .agg #[.slice p xs.length c, .slice q ys.length d] ∧ (xs.length ≤ c ∧ c ≤ maxLen) ∧ (ys.length ≤ d ∧ d ≤ maxLen) ∧ xs.map aN = ns ∧ ProgH N p q xs ys
end Go.Proofs.YtcbnegmmjflmcaaGreat.St
end

section
/-
  The bytes of strings, and ranges over strings.
-/
set_option linter.unusedSimpArgs false
set_option linter.unusedVariables false
namespace Go.Proofs.YtcbnegmmjflmcaaGreat.St
open Go.RowKit
/-- a byte of a string, as a number -/
def bt (s : ByteArray) (i : Nat) : Int := ((s.get! i).toNat : Int)
theorem bt_bd (s : ByteArray) (i : Nat) : 0 ≤ bt s i ∧ bt s i ≤ 255 := by
  have := (s.get! i).toNat_lt
  unfold bt
  omega
theorem get_of {s : ByteArray} {i : Nat} (h : i < s.size) : s[i]? = some (s.get! i) := by
  rw [getElem?_pos s i h]
  congr 1
  show s[i] = s.data[i]!
  have h2 : i < s.data.size := h
  rw [getElem!_pos s.data i h2]
  rfl
section
variable {P : Program} {E : Env} {w W0 : World} {X : List Nat} {B : Heap} {L : List Own} {Φ : Value → World → Prop} {ty t : TypeId} {x y : Operand}
theorem does_strIdx {s : ByteArray} {j : IntKind} {m : Int} (h0 : 0 ≤ m ∧ m < s.size) [hs : StrT P t] (hx : ev E x = some (.string s)) (hy : ev E y = some (.int j m)) (k : Φ (.int .u8 (bt s m.toNat)) w) : Does P (.index t x y) ty E w Φ := by
  refine ⟨fun ρ hρ => ?_⟩
  have hg := get_of (s := s) (i := m.toNat) (by omega)
  have : (execOp ρ (mk (.index t x y) ty)).run P w = .ok (.value (.int .u8 (bt s m.toNat))) w := by
    simp only [execOp, mk, Instr.index, hρ _ _ hx, hρ _ _ hy, asIntOf, Sem.run_bind, Sem.run_pure, Result.andThen_ok, run_underlying hs.out, h0.1, if_true, hg]
    rfl
  rw [this]; exact k
theorem does_strIdxN {s : ByteArray} {j : IntKind} {i : Nat} (h0 : i < s.size) [hs : StrT P t] (hx : ev E x = some (.string s)) (hy : ev E y = some (.int j i)) (k : Φ (.int .u8 (bt s i)) w) : Does P (.index t x y) ty E w Φ :=
  does_strIdx (m := i) (by omega) hx hy (by simpa using k)
end
end Go.Proofs.YtcbnegmmjflmcaaGreat.St
end

section
/-
  Identifiers, and nodes with the right fields.
-/
set_option linter.unusedSimpArgs false
set_option linter.unusedVariables false
namespace Go.Proofs.YtcbnegmmjflmcaaGreat.St
open Go.RowKit
def okc (s : ByteArray) (i : Nat) : Prop := (97 ≤ bt s i ∧ bt s i ≤ 122) ∨ (i ≠ 0 ∧ 48 ≤ bt s i ∧ bt s i ≤ 57)
def ident (s : ByteArray) : Prop := (1 ≤ s.size ∧ s.size ≤ 8) ∧ ∀ i, i < s.size → okc s i
theorem ident_no {s : ByteArray} {k : Nat} (hk : k < s.size) (h : ¬ okc s k) : ¬ ident s := fun e => h (e.2 k hk)
theorem okc_step {s : ByteArray} {k : Nat} (hpre : ∀ i, i < k → okc s i) (h : okc s k) : ∀ i, i < k + 1 → okc s i := fun i hi => by
  by_cases hik : i < k
  · exact hpre i hik
  · obtain rfl : i = k := by omega
    exact h
section
variable {P : Program} {E : Env} {w W0 : World} {X : List Nat} {B : Heap} {L : List Own} {Φ : Value → World → Prop} {ty t : TypeId} {x y : Operand}
end
set_option maxHeartbeats 4000000 in
theorem sIsIdentifier_ok (s : ByteArray) (hs : s.size ≤ 9223372036854775807) : Fun Tryz.prog 101 [.string s] (.bool (dB (ident s))) := by
  refine enterFun Tryz.func101 rfl Tryz.ntmps101 rfl (fun W0 w a hm h => ?_)
  repeat' (first | refine c_seq ?_ | refine c_region ?_ | refine c_nil ?_ | refine k_then ?_ | refine c_block ?_ | ((refine st_op rfl rfl h ?_); clear h a; ((show Does _ (.assign _) _ _ _ _; refine does_assign rfl ?_)); intro a h; (try simp only [Value.cells, splice, nz, Nat.reduceAdd, Nat.reduceMul, Int.reduceAdd, Int.reduceToNat, Int.reduceTMod] at h)))
  refine c_loop (σ := Nat) (fun k a w => k ≤ s.size ∧ (∀ i, i < k → okc s i) ∧ Mem W0 [] (fun b => W0.heap[b]?) [] w ∧ Holds [(0, .string s), (3, .int .i64 k)] _ a) (fun k => s.size - k) 0
    ⟨Nat.zero_le _, fun i hi => absurd hi (Nat.not_lt_zero _), hm, h.keep ⟨rfl, rfl, trivial⟩⟩ ?_
  clear h hm
  rintro k a w ⟨hk, hpre, hm, h⟩
  by_cases hlt : k < s.size
  · have hb := bt_bd s k
    have hno : ¬ okc s k → ¬ ident s := ident_no hlt
    repeat' (first | refine c_seq ?_ | refine c_region ?_ | refine c_nil ?_ | refine k_then ?_ | refine k_thenR ?_ | refine k_inN ?_ | refine k_inR ?_ | refine c_skip ?_ | refine c_ret ?_ | refine c_block ?_ | refine c_condT h rfl ?_ | refine c_condF h rfl ?_ | ((refine st_op rfl rfl h ?_); clear h a; (first | (show Does _ (.index _ _ _) _ _ _ _; (((refine does_strIdxN (by omega) rfl rfl ?_)))) | (show Does _ (.call _) _ _ _ _; (refine does_lenStr (StrT.out) rfl ?_)) | (show Does _ (.move _) _ _ _ _; refine does_move rfl ?_) | (show Does _ (.assign _) _ _ _ _; refine does_assign rfl ?_) | (show Does _ (.pick _ _ _) _ _ _ _; (first | refine does_pickT rfl rfl ?_ | refine does_pickF rfl rfl ?_)) | (show Does _ (.binOp _ _ _ _ _) _ _ _ _; (first | refine zlss rfl rfl ?_ | refine zleq rfl rfl ?_ | refine zgtr rfl rfl ?_ | refine zgeq rfl rfl ?_ | refine zeql rfl rfl ?_ | refine zadd rfl rfl ?_)) | (show Does _ (.unOp _ _ _) _ _ _ _; (first | refine does_notD rfl ?_ | refine does_not rfl ?_))); intro a h; (try simp only [Value.cells, splice, nz, Nat.reduceAdd, Nat.reduceMul, Int.reduceAdd, Int.reduceToNat, Int.reduceTMod] at h)) | ((refine st_skip rfl rfl h ?_); clear h a; intro a h) | ((refine c_condD h rfl ?_ ?_) <;> intro hc <;> (try (fail))) | (refine st_guardD rfl rfl h ?_ ?_ <;> clear h <;> intro hc h))
    all_goals first
      | ((refine k_ret1 rfl h rfl ⟨?_, hm.below⟩); exact boolF (hno (by unfold okc; omega)))
      | exact k_thenN ⟨k + 1, ⟨by omega, okc_step hpre (by unfold okc; omega), hm, h.keep ⟨rfl, rfl, trivial⟩⟩, by omega⟩
  · obtain rfl : k = s.size := by omega
    repeat' (first | refine c_seq ?_ | refine c_region ?_ | refine c_nil ?_ | refine k_then ?_ | refine k_thenE ?_ | refine k_inE ?_ | refine c_ret ?_ | refine c_exit ?_ | refine c_condF h rfl ?_ | ((refine st_op rfl rfl h ?_); clear h a; (first | (show Does _ (.call _) _ _ _ _; (first | ((refine does_funM hm en53 rfl (sIn_ok _ _ _) ?_); clear hm; intro w hm) | refine does_lenStr (StrT.out) rfl ?_)) | (show Does _ (.move _) _ _ _ _; refine does_move rfl ?_) | (show Does _ (.assign _) _ _ _ _; refine does_assign rfl ?_) | (show Does _ (.binOp _ _ _ _ _) _ _ _ _; (refine zlss rfl rfl ?_))); intro a h; (try simp only [Value.cells, splice, nz, Nat.reduceAdd, Nat.reduceMul, Int.reduceAdd, Int.reduceToNat, Int.reduceTMod] at h)))
    all_goals (refine k_ret1 rfl h rfl ⟨?_, hm.below⟩)
    all_goals first | exact boolF (fun e => by have := e.1; omega) | exact boolI ⟨fun e => ⟨by omega, hpre⟩, fun e => by have := e.1; omega⟩ | exact boolT ⟨by omega, hpre⟩
end Go.Proofs.YtcbnegmmjflmcaaGreat.St
end
