/-
  Which types' values are compared cell by cell.
-/
import Derived.Test.YtnclbllhflinfaaStEq
import Derived.Test.YtnclbllhflinfaaFns
import Derived.Test.YtnclbllhflinfaaLNum
import Derived.Test.YtnclbllhflinfaaStNew
import Derived.Test.YtnclbllhflinfaaJ2
import Derived.Test.YtnclbllhflinfaaStOwn

section
set_option linter.unusedSimpArgs false
set_option linter.unusedVariables false
namespace Go.Proofs.Ytnclbllhflinfaa.St
instance : EqT Try.prog 32 [.str, .int .i64] := ⟨by kernel_rfl, by kernel_rfl, by kernel_rfl, by kernel_rfl⟩
instance : EqT Try.prog 33 [.str, .int .i64] := ⟨by kernel_rfl, by kernel_rfl, by kernel_rfl, by kernel_rfl⟩
instance : EqT Try.prog 80 [.int .i64, .str, .int .i64, .int .i64] := ⟨by kernel_rfl, by kernel_rfl, by kernel_rfl, by kernel_rfl⟩
instance : EqT Try.prog 81 [.int .i64, .str, .int .i64, .int .i64] := ⟨by kernel_rfl, by kernel_rfl, by kernel_rfl, by kernel_rfl⟩
end Go.Proofs.Ytnclbllhflinfaa.St
end

section
/-
  Comparing strings.
-/
set_option linter.unusedSimpArgs false
set_option linter.unusedVariables false
namespace Go.Proofs.Ytnclbllhflinfaa.St
open Go.RowKit
section
variable {P : Program} {w : World} {E : Env} {Φ : Value → World → Prop} {ty t t' : TypeId} {x y : Operand}
theorem strB (m n : ByteArray) : (m.toList == n.toList) = dB (m = n) := by
  rw [dB_eq, ByteArray.toList_eq, ByteArray.toList_eq]
  have : m.data.toList = n.data.toList ↔ m = n := ⟨fun h => ByteArray.ext (Array.toList_inj.mp h), fun h => by rw [h]⟩
  by_cases h : m = n
  · simp [h]
  · have h' : ¬ m.data.toList = n.data.toList := fun e => h (this.1 e)
    rw [decide_eq_false h]
    exact beq_eq_false_iff_ne.2 h'
theorem does_eqlStr [StrT P t] {m n : ByteArray} (hx : ev E x = some (.string m)) (hy : ev E y = some (.string n)) (k : Φ (.bool (dB (m = n))) w) :
    Does P (.binOp .eql t x y t') ty E w Φ :=
  does_bin hx hy rfl (by rw [binOp_string_eql, strB]; rfl) k
theorem does_neqStr [StrT P t] {m n : ByteArray} (hx : ev E x = some (.string m)) (hy : ev E y = some (.string n)) (k : Φ (.bool (dB (¬ m = n))) w) :
    Does P (.binOp .neq t x y t') ty E w Φ :=
  does_bin hx hy rfl (by rw [binOp_string_neq, strB, dB_not]; rfl) k
theorem does_eqlStrS [hu : StrT P t] {m : ByteArray} (hx : ev E x = some (.string m)) (hy : ev E y = some (.string m)) (k : Φ (.bool true) w) :
    Does P (.binOp .eql t x y t') ty E w Φ := does_eqlStr hx hy (by rw [bT rfl]; exact k)
theorem does_neqStrS [hu : StrT P t] {m : ByteArray} (hx : ev E x = some (.string m)) (hy : ev E y = some (.string m)) (k : Φ (.bool false) w) :
    Does P (.binOp .neq t x y t') ty E w Φ := does_neqStr hx hy (by rw [bF (fun h => h rfl)]; exact k)
end
end Go.Proofs.Ytnclbllhflinfaa.St
end

section
/-
  Contracts of the functions on programs: sizes, copies, sameness.
-/
set_option linter.unusedSimpArgs false
set_option linter.unusedVariables false
namespace Go.Proofs.Ytnclbllhflinfaa.St
open Go.RowKit Go.WideShapes
structure PNode where
  op : Int
  name : ByteArray
  num : Int
  args : List Int
/-- a node as it lies: its arguments' row too -/
structure TNode where
  a : PNode
  ptr : Option Addr
  cap : Nat
abbrev eN (x : TNode) : List Value := [I x.a.op, .string x.a.name, I x.a.num, .slice x.ptr x.a.args.length x.cap]
abbrev TAssignment := ByteArray × Int
abbrev eAssignment (x : TAssignment) : List Value := [.string x.1, I x.2]

def bdAssignment (x : TAssignment) : Prop := (x.1).size ≤ maxLen ∧ (-9223372036854775808 ≤ x.2 ∧ x.2 ≤ 9223372036854775807)
theorem openAssignmentS {H : Type} {enc : TypeId × Value → H} {P : Program} {w : World} {spare : Nat → Bool} {held : Bool} {t e : TypeId} {fuel : Nat} {c : Value} {x : DataW H × List MemPlace} (hu : P.underlying t = some (.slice e)) (hf : flatT P 9 e = some [.str, .int .i64]) (hc : P.cellsOf e = 2)
    (h : DataW.trod enc P w 0 spare held fuel t [c] = some x) : ∃ (p : Option Addr) (xs : List TAssignment) (cap : Nat), c = .slice p xs.length cap ∧ xs.length ≤ cap ∧ cap ≤ maxLen ∧ Sl (fun b => w.heap[b]?) p eAssignment 2 xs ∧ ∀ x ∈ xs, bdAssignment x := by
  obtain ⟨p, css, cap, rfl, h1, h2, h3, h4⟩ := openSlice hu hf (by simp) (by simpa using hc) h
  obtain ⟨xs, rfl, hq⟩ := list_of eAssignment bdAssignment css fun cs hcs => by
    have f0 := h4 cs hcs
    obtain ⟨n0, r0, rfl, b0, f1⟩ := fits_str f0
    obtain ⟨n1, r1, rfl, b1, f2⟩ := fits_i64 f1
    obtain rfl := fits_nil f2
    exact ⟨(n0, n1), rfl, b0, b1⟩
  refine ⟨p, xs, cap, by rw [List.length_map], by rwa [List.length_map] at h1, h2, fun i x hi => ?_, hq⟩
  exact h3 i (eAssignment x) (by rw [List.getElem?_map, hi]; rfl)
theorem eAssignment_inj {x y : TAssignment} (h : eAssignment x = eAssignment y) : x = y := by
  obtain ⟨x0, x1⟩ := x
  obtain ⟨y0, y1⟩ := y
  simp only [eAssignment, List.cons.injEq, Value.int.injEq, Value.string.injEq, Value.bool.injEq, true_and, and_true] at h
  simp only [Prod.mk.injEq]
  exact h

structure NodesH (B : Heap) (p : Option Addr) (xs : List TNode) : Prop where
  row : Sl B p eN 4 xs
  args : ∀ x ∈ xs, Sl B x.ptr eI 1 x.a.args
structure ProgH (B : Heap) (p q : Option Addr) (xs : List TNode) (ys : List TAssignment) : Prop where
  nodes : NodesH B p xs
  asg : Sl B q eAssignment 2 ys
theorem NodesH.mono {B B' : Heap} {p : Option Addr} {xs : List TNode} (h : NodesH B p xs) (hB : Heap.le B B') : NodesH B' p xs := ⟨h.row.mono hB, fun x hx => (h.args x hx).mono hB⟩
theorem ProgH.mono {B B' : Heap} {p q : Option Addr} {xs : List TNode} {ys : List TAssignment} (h : ProgH B p q xs ys) (hB : Heap.le B B') : ProgH B' p q xs ys := ⟨h.nodes.mono hB, h.asg.mono hB⟩
theorem NodesH.up {W0 w : World} {X : List Nat} {B : Heap} {L : List Own} {p : Option Addr} {xs : List TNode} (h : NodesH B p xs) (hm : Mem W0 X B L w) : NodesH (fun b => w.heap[b]?) p xs := h.mono hm.base
theorem ProgH.up {W0 w : World} {X : List Nat} {B : Heap} {L : List Own} {p q : Option Addr} {xs : List TNode} {ys : List TAssignment} (h : ProgH B p q xs ys) (hm : Mem W0 X B L w) : ProgH (fun b => w.heap[b]?) p q xs ys := h.mono hm.base
def bdN (x : TNode) : Prop := x.a.name.size ≤ maxLen ∧ x.a.args.length ≤ maxLen
theorem bdN.get {xs : List TNode} (h : ∀ x ∈ xs, bdN x) {k : Nat} (hk : k < xs.length) : xs[k].a.name.size ≤ 9223372036854775807 ∧ xs[k].a.args.length ≤ 9223372036854775807 := by
  have := h _ (List.getElem_mem hk)
  simp only [bdN, maxLen] at this
  omega
def smN (x : TNode) : Prop := x.a.args.length ≤ 1048576
/-- what is left of a size's bound, or -1 -/
def leftP (left : Int) (Q : Prop) (v : Value) : Prop := ∃ r, v = I r ∧ (r = -1 ∨ ((0 ≤ r ∧ r ≤ left) ∧ Q))
def bdA (xs : List TAssignment) : Prop := ∀ x ∈ xs, x.1.size ≤ maxLen
theorem bdA.get {xs : List TAssignment} (h : bdA xs) {k : Nat} (hk : k < xs.length) : xs[k].1.size ≤ 9223372036854775807 := by
  have := h _ (List.getElem_mem hk)
  simp only [maxLen] at this
  omega
abbrev aN : TNode → PNode := TNode.a
structure NodesR (ns : List PNode) (v : Value) (N : Heap) : Prop where
  out : ∃ p c xs, v = .slice p xs.length c ∧ (xs.length ≤ c ∧ c ≤ maxLen) ∧ xs.map aN = ns ∧ NodesH N p xs
instance (ns : List PNode) : MonoR (NodesR ns) := ⟨fun _ _ _ hle ⟨⟨p, c, xs, h0, h1, h2, h3⟩⟩ => ⟨⟨p, c, xs, h0, h1, h2, h3.mono hle⟩⟩⟩
structure ProgR (ns : List PNode) (ys : List TAssignment) (v : Value) (N : Heap) : Prop where
  out : ∃ p c q d xs, v = .agg #[.slice p xs.length c, .slice q ys.length d] ∧ (xs.length ≤ c ∧ c ≤ maxLen) ∧ (ys.length ≤ d ∧ d ≤ maxLen) ∧ xs.map aN = ns ∧ ProgH N p q xs ys
theorem openNodeS {H : Type} {enc : TypeId × Value → H} {P : Program} {w : World} {spare : Nat → Bool} {held : Bool} {t e t2 e2 : TypeId} {fuel : Nat} {c : Value} {x : DataW H × List MemPlace} (hu : P.underlying t = some (.slice e)) (hf : flatT P 9 e = some [.int .i64, .str, .int .i64, .cell t2]) (hc : P.cellsOf e = 4)
    (hu2 : P.underlying t2 = some (.slice e2)) (hf2 : flatT P 9 e2 = some [.int .i64]) (hc2 : P.cellsOf e2 = 1)
    (h : DataW.trod enc P w 0 spare held fuel t [c] = some x) : ∃ (p : Option Addr) (xs : List TNode) (cap : Nat), c = .slice p xs.length cap ∧ xs.length ≤ cap ∧ cap ≤ maxLen ∧ NodesH (fun b => w.heap[b]?) p xs ∧ ∀ x ∈ xs, bdN x := by
  obtain ⟨p, css, cap, rfl, h1, h2, h3, h4⟩ := openSlice hu hf (by simp) (by simpa using hc) h
  obtain ⟨xs, rfl, hq⟩ := list_of eN (fun x => bdN x ∧ Sl (fun b => w.heap[b]?) x.ptr eI 1 x.a.args) css fun cs hcs => by
    obtain ⟨n0, r0, rfl, b0, f1⟩ := fits_i64 (h4 cs hcs)
    obtain ⟨n1, r1, rfl, b1, f2⟩ := fits_str f1
    obtain ⟨n2, r2, rfl, b2, f3⟩ := fits_i64 f2
    obtain ⟨n3, r3, rfl, ⟨u3, x3, g3⟩, f4⟩ := fits_cell f3
    obtain rfl := fits_nil f4
    obtain ⟨p0, xs0, c0, rfl, hle0, hn0, hi0, hbd0⟩ := openIntN hu2 hf2 hc2 g3
    exact ⟨⟨⟨n0, n1, n2, xs0⟩, p0, c0⟩, rfl, ⟨b1, by simp only; omega⟩, hi0⟩
  refine ⟨p, xs, cap, by rw [List.length_map], by rwa [List.length_map] at h1, h2, ⟨fun i x hi => ?_, fun x hx => (hq x hx).2⟩, fun x hx => (hq x hx).1⟩
  exact h3 i (eN x) (by rw [List.getElem?_map, hi]; rfl)
end Go.Proofs.Ytnclbllhflinfaa.St
end

section
/-
  The bytes of strings, and ranges over strings.
-/
set_option linter.unusedSimpArgs false
set_option linter.unusedVariables false
namespace Go.Proofs.Ytnclbllhflinfaa.St
open Go.RowKit
/-- a byte of a string, as a number -/
def bt (s : ByteArray) (i : Nat) : Int := ((s.get! i).toNat : Int)
theorem bt_bd (s : ByteArray) (i : Nat) : 0 ≤ bt s i ∧ bt s i ≤ 255 := by
  have := (s.get! i).toNat_lt
  unfold bt
  omega
theorem get_of {s : ByteArray} {i : Nat} (h : i < s.size) : s[i]? = some (s.get! i) := by
  rw [getElem?_pos s i h]
  congr 1
  show s[i] = s.data[i]!
  have h2 : i < s.data.size := h
  rw [getElem!_pos s.data i h2]
  rfl
theorem decode_lo {s : ByteArray} {i : Nat} (h : bt s i < 128) : Utf8.decode s i = ((s.get! i).toNat, 1) := by
  have h1 : (s.get! i).toNat < 128 := by unfold bt at h; omega
  simp [Utf8.decode, h1]
theorem decode_hi {s : ByteArray} {i : Nat} (h : ¬ bt s i < 128) : 128 ≤ (Utf8.decode s i).1 ∧ 1 ≤ (Utf8.decode s i).2 := by
  have h1 : ¬ (s.get! i).toNat < 128 := by unfold bt at h; omega
  have h0 : ∀ k, (s.get! (i + k)).toNat < 256 := fun k => (s.get! (i + k)).toNat_lt
  unfold Utf8.decode
  simp only [Nat.add_zero, h1, if_false, Utf8.runeError]
  split
  · split <;> rename_i hh <;> simp at hh ⊢ <;> omega
  · split
    · split <;> rename_i hh <;> simp at hh ⊢ <;> omega
    · split
      · split <;> rename_i hh <;> simp at hh ⊢ <;> omega
      · simp
def isRow : Obj → Bool
  | .cells _ _ _ => true
  | _ => false
theorem run_get {P : Program} {w : World} {b : Nat} {o : Obj} (h : w.heap[b]? = some o) (ho : isRow o = false) : (getObj b).run P w = .ok o w := by
  cases o <;> first | (cases ho; done) | simp [getObj, Sem.run, h]
theorem run_set {P : Program} {w : World} {b : Nat} {o : Obj} (o' : Obj) (h : w.heap[b]? = some o) (ho : isRow o = false) : (setObj b o').run P w = .ok () { w with heap := w.heap.setIfInBounds b o' } := by
  cases o <;> first | (cases ho; done) | simp [setObj, Sem.run, h]
section
variable {P : Program} {E : Env} {w W0 : World} {X : List Nat} {B : Heap} {L : List Own} {Φ : Value → World → Prop} {ty t : TypeId} {x y : Operand}
theorem does_strIdx {s : ByteArray} {j : IntKind} {m : Int} (h0 : 0 ≤ m ∧ m < s.size) [hs : StrT P t] (hx : ev E x = some (.string s)) (hy : ev E y = some (.int j m)) (k : Φ (.int .u8 (bt s m.toNat)) w) : Does P (.index t x y) ty E w Φ := by
  refine ⟨fun ρ hρ => ?_⟩
  have hg := get_of (s := s) (i := m.toNat) (by omega)
  have : (execOp ρ (mk (.index t x y) ty)).run P w = .ok (.value (.int .u8 (bt s m.toNat))) w := by
    simp only [execOp, mk, Instr.index, hρ _ _ hx, hρ _ _ hy, asIntOf, Sem.run_bind, Sem.run_pure, Result.andThen_ok, run_underlying hs.out, h0.1, if_true, hg]
    rfl
  rw [this]; exact k
theorem does_strIdxN {s : ByteArray} {j : IntKind} {i : Nat} (h0 : i < s.size) [hs : StrT P t] (hx : ev E x = some (.string s)) (hy : ev E y = some (.int j i)) (k : Φ (.int .u8 (bt s i)) w) : Does P (.index t x y) ty E w Φ :=
  does_strIdx (m := i) (by omega) hx hy (by simpa using k)
theorem does_rangeStr {s : ByteArray} [hs : StrT P t] (hm : Mem W0 X B L w) (hx : ev E x = some (.string s)) (k : ∀ b w', Mem W0 X B (.blk b (.stringIter s 0) :: L) w' → Φ (.pointer (some ⟨b, 0, none⟩)) w') : Does P (.range t x) ty E w Φ := by
  refine ⟨fun ρ hρ => ?_⟩
  have : (execOp ρ (mk (.range t x) ty)).run P w = .ok (.value (.pointer (some ⟨w.heap.size, 0, none⟩))) (w.alloc (.stringIter s 0)) := by
    simp [execOp, mk, Instr.range, hρ _ _ hx, run_underlying hs.out]
  rw [this]; exact k _ _ (hm.alloc _)
theorem next_mem (i : Nat) {b : Nat} {o o' : Obj} (hm : Mem W0 X B L w) (hL : L[i]? = some (.blk b o)) : Mem W0 X B (L.set i (.blk b o')) { w with heap := w.heap.setIfInBounds b o' } := by
  have hb := mem_idx hm hL
  have hlt : b < w.heap.size := (Array.getElem?_eq_some_iff.1 hb).1
  exact hm.update i hL rfl rfl rfl (by simp) (by simp [hlt]) (fun c hc _ => by simp [Array.getElem?_setIfInBounds_ne (Ne.symm hc)])
theorem does_nextStr (i : Nat) {s : ByteArray} {b p : Nat} (hm : Mem W0 X B L w) (hx : ev E x = some (.pointer (some ⟨b, 0, none⟩))) (hL : L[i]? = some (.blk b (.stringIter s p))) (hp : p < s.size)
    (k : ∀ w', Mem W0 X B (L.set i (.blk b (.stringIter s (p + (Utf8.decode s p).2)))) w' → Φ (.tuple #[.bool true, .int .i64 p, .int .i32 ((Utf8.decode s p).1 : Nat)]) w') : Does P (.next x true) ty E w Φ := by
  refine ⟨fun ρ hρ => ?_⟩
  have hb := mem_idx hm hL
  have hlt : b < w.heap.size := (Array.getElem?_eq_some_iff.1 hb).1
  have : (execOp ρ (mk (.next x true) ty)).run P w = .ok (.value (.tuple #[.bool true, .int .i64 p, .int .i32 ((Utf8.decode s p).1 : Nat)])) { w with heap := w.heap.setIfInBounds b (.stringIter s (p + (Utf8.decode s p).2)) } := by
    simp only [Own.holds] at hb
    simp [execOp, mk, Instr.next, hρ _ _ hx, run_get hb rfl, hp, run_set _ hb rfl, goInt]
  rw [this]; exact k _ (next_mem i hm hL)
theorem does_nextEnd (i : Nat) {s : ByteArray} {b p : Nat} (hm : Mem W0 X B L w) (hx : ev E x = some (.pointer (some ⟨b, 0, none⟩))) (hL : L[i]? = some (.blk b (.stringIter s p))) (hp : ¬ p < s.size)
    (k : Φ (.tuple #[.bool false]) w) : Does P (.next x true) ty E w Φ := by
  refine ⟨fun ρ hρ => ?_⟩
  have hb := mem_idx hm hL
  have : (execOp ρ (mk (.next x true) ty)).run P w = .ok (.value (.tuple #[.bool false])) w := by
    simp only [Own.holds] at hb
    simp [execOp, mk, Instr.next, hρ _ _ hx, run_get hb rfl, hp]
  rw [this]; exact k
end
end Go.Proofs.Ytnclbllhflinfaa.St
end
