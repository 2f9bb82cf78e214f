/-
  Calls that write into one block that they are given.
-/
import Derived.Test.YtcbnegmmjflmcaaGreatJ2
import Derived.Test.YtcbnegmmjflmcaaGreatJ1

section
set_option linter.unusedSimpArgs false
set_option linter.unusedVariables false
namespace Go.Proofs.YtcbnegmmjflmcaaGreat.St
open Go.RowKit
def hole (w : World) (b : Nat) : Heap := fun k => if k = b then none else w.heap[k]?
section
variable {P : Program} {E : Env} {w W0 : World} {X : List Nat} {B : Heap} {L : List Own} {Φ : Value → World → Prop} {ty t : TypeId} {x y : Operand}
theorem le_hole {i b : Nat} {o : Obj} (hm : Mem W0 X B L w) (hL : L[i]? = some (.blk b o)) : Heap.le B (hole w b) := fun k o' hk => by
  have hne : k ≠ b := fun e => by
    subst e
    rw [hm.apart _ (List.mem_of_getElem? hL) k rfl] at hk
    cases hk
  show (if k = b then none else w.heap[k]?) = some o'
  rw [if_neg hne, hm.base k o' hk]
/-- given the block b of these cells, it returns some value, leaves other cells in b and new blocks of its own: R speaks of all three -/
structure FunU (P : Program) (f : FuncId) (vs : List Value) (b : Nat) (T : TypeId) (cs : List Value) (pre : Heap → Prop) (R : Value → List Value → List Own → Prop) : Prop where
  out : ∀ w, w.heap[b]? = some (.cells cs.toArray T (0, 0)) → pre (hole w b) → Calls P f vs.toArray w fun e w' => ∃ v cs' L', e = .returned v ∧ R v cs' L' ∧ Mem w [b] (hole w b) (.blk b (.cells cs'.toArray T (0, 0)) :: L') w'
theorem Mem.touch (i : Nat) {L' : List Own} {w' : World} {b : Nat} {o o' : Obj} (hm : Mem W0 X B L w) (hL : L[i]? = some (.blk b o)) (hn : Mem w [b] (hole w b) (.blk b o' :: L') w') : Mem W0 X B (L' ++ L.set i (.blk b o')) w' := by
  have hkeep : ∀ c, c ≠ b → c < w.heap.size → w'.heap[c]? = w.heap[c]? := fun c hc hl => hn.block c hl (by simpa using hc)
  have e := hm.update i (o' := o') hL hn.os hn.tape hn.output hn.size (hn.own _ (List.mem_cons_self ..)) hkeep
  have hnd := hn.nodup
  simp only [List.filterMap_cons, Own.dom] at hnd
  have hnd := List.nodup_cons.1 hnd
  have hge : ∀ x ∈ L', ∀ c, x.dom = some c → w.heap.size ≤ c := fun x hx c hc => by
    rcases hn.fresh x (List.mem_cons_of_mem _ hx) c hc with h | h
    · exact h
    · simp only [List.mem_singleton] at h
      subst h
      exact absurd (List.mem_filterMap.2 ⟨x, hx, hc⟩) hnd.1
  have hlt : ∀ y ∈ L.set i (.blk b o'), ∀ c, y.dom = some c → c < w.heap.size := fun y hy c hc => by
    obtain ⟨j, hj⟩ := List.mem_iff_getElem?.1 hy
    by_cases hij : i = j
    · subst hij
      rw [List.getElem?_set_self (List.getElem?_eq_some_iff.1 hL).1] at hj
      cases hj
      exact Own.lt (mem_idx hm hL) hc
    · rw [List.getElem?_set_ne hij] at hj
      exact Own.lt (mem_idx hm hj) hc
  refine ⟨e.os, e.tape, e.output, e.size, e.block, e.base, fun x hx => ?_, fun x hx c hc => ?_, fun x hx c hc => ?_, ?_⟩
  · rcases List.mem_append.1 hx with hx | hx
    · exact hn.own x (List.mem_cons_of_mem _ hx)
    · exact e.own x hx
  · rcases List.mem_append.1 hx with hx | hx
    · exact .inl (Nat.le_trans hm.size (hge x hx c hc))
    · exact e.fresh x hx c hc
  · rcases List.mem_append.1 hx with hx | hx
    · cases hB : B c with
      | none => rfl
      | some o2 =>
        have h1 := (Array.getElem?_eq_some_iff.1 (hm.base c o2 hB)).1
        have h2 := hge x hx c hc
        omega
    · exact e.apart x hx c hc
  · rw [List.filterMap_append]
    refine List.nodup_append.2 ⟨hnd.2, e.nodup, fun a ha c hc hac => ?_⟩
    subst hac
    obtain ⟨x, hx, hxb⟩ := List.mem_filterMap.1 ha
    obtain ⟨y, hy, hyb⟩ := List.mem_filterMap.1 hc
    have h1 := hge x hx _ hxb
    have h2 := hlt y hy _ hyb
    omega
theorem does_funU (i : Nat) {f : FuncId} {args : List Operand} {ats : Array TypeId} {vs : List Value} {b : Nat} {T : TypeId} {cs : List Value} {pre : Heap → Prop} {R : Value → List Value → List Own → Prop} (hm : Mem W0 X B L w) (hen : Enters P f) (hx : evs E args = some vs)
    (hL : L[i]? = some (.blk b (.cells cs.toArray T (0, 0)))) (hc : FunU P f vs b T cs pre R) (hp : pre (hole w b)) (k : ∀ v cs' L' w', R v cs' L' → Mem W0 X B (L' ++ L.set i (.blk b (.cells cs'.toArray T (0, 0)))) w' → Φ v w') :
    Does P (.call { callee := .value (.func f), args := args.toArray, argTypes := ats }) ty E w Φ :=
  does_call hen hx ((hc.out w (mem_idx hm hL) hp).mono fun _ w' ⟨v, cs', L', he, hR, hn⟩ => ⟨v, he, k v cs' L' w' hR (hm.touch i hL hn)⟩)
theorem Mem.startU {b : Nat} {o : Obj} (h : w.heap[b]? = some o) : Mem w [b] (hole w b) [.blk b o] w := Mem.startX h
theorem enterFunU {f : FuncId} {fn : Func} {c : Code} {vs : List Value} {n b : Nat} {T : TypeId} {cs : List Value} {pre : Heap → Prop} {R : Value → List Value → List Own → Prop} (hf : P.funcs[f]? = some fn) (hb : fn.body = some c) (hn : fn.ntmps = n) (hl : Nat.ble vs.length n = true)
    (h : ∀ W0 w a, pre (hole W0 b) → Mem W0 [b] (hole W0 b) [.blk b (.cells cs.toArray T (0, 0))] w → Holds (enumE 0 vs) n a → CW P c (Post P fn fun u w' => ∃ cs' L', R u cs' L' ∧ Mem W0 [b] (hole W0 b) (.blk b (.cells cs'.toArray T (0, 0)) :: L') w') a w) : FunU P f vs b T cs pre R := by
  refine ⟨fun w hw hp => ?_⟩
  refine (enter (R := fun u w' => ∃ cs' L', R u cs' L' ∧ Mem w [b] (hole w b) (.blk b (.cells cs'.toArray T (0, 0)) :: L') w') hf hb hn hl (fun a ha => h w w a hp (Mem.startU hw) ha)).mono ?_
  rintro e w' ⟨u, rfl, cs', L', hR, hm⟩
  exact ⟨u, cs', L', rfl, hR, hm⟩
end
/-- a function that only computes, its value told by R -/
structure FunV (P : Program) (f : FuncId) (vs : List Value) (pre : Heap → Prop) (R : Value → Prop) : Prop where
  out : ∀ w, pre (fun b => w.heap[b]?) → Calls P f vs.toArray w fun e w' => ∃ v, e = .returned v ∧ R v ∧ Ext w w'
section
variable {P : Program} {E : Env} {w W0 : World} {X : List Nat} {B : Heap} {L : List Own} {Φ : Value → World → Prop} {ty t : TypeId} {x y : Operand}
theorem does_funVal {f : FuncId} {args : List Operand} {ats : Array TypeId} {vs : List Value} {pre : Heap → Prop} {R : Value → Prop} (hm : Mem W0 X B L w) (hen : Enters P f) (hx : evs E args = some vs) (hc : FunV P f vs pre R) (hp : pre (fun b => w.heap[b]?))
    (k : ∀ v w', R v → Mem W0 X B L w' → Φ v w') : Does P (.call { callee := .value (.func f), args := args.toArray, argTypes := ats }) ty E w Φ :=
  does_call hen hx ((hc.out w hp).mono fun _ w' ⟨v, he, hR, hn⟩ => ⟨v, he, k v w' hR (hm.ext hn)⟩)
theorem enterFunV {f : FuncId} {fn : Func} {c : Code} {vs : List Value} {n : Nat} {pre : Heap → Prop} {R : Value → Prop} (hf : P.funcs[f]? = some fn) (hb : fn.body = some c) (hn : fn.ntmps = n) (hl : Nat.ble vs.length n = true)
    (h : ∀ W0 w a, pre (fun b => W0.heap[b]?) → Mem W0 [] (fun b => W0.heap[b]?) [] w → Holds (enumE 0 vs) n a → CW P c (Post P fn fun u w' => R u ∧ Ext W0 w') a w) : FunV P f vs pre R := by
  refine ⟨fun w hp => ?_⟩
  refine (enter (R := fun u w' => R u ∧ Ext w w') hf hb hn hl (fun a ha => h w w a hp (Mem.start w) ha)).mono ?_
  rintro e w' ⟨u, rfl, hR, hm⟩
  exact ⟨u, rfl, hR, hm⟩
end
end Go.Proofs.YtcbnegmmjflmcaaGreat.St
end

section
/-
  Rules that find their block, and their side conditions, by themselves.
-/
set_option linter.unusedSimpArgs false
set_option linter.unusedVariables false
namespace Go.Proofs.YtcbnegmmjflmcaaGreat.St
open Go.RowKit
/-- where the block b lies among one's own -/
class OwnAt (L : List Own) (b : Nat) (i : outParam Nat) (o : outParam Obj) : Prop where
  out : L[i]? = some (.blk b o)
instance (priority := low) OwnAt.tail {x : Own} {L : List Own} {b i : Nat} {o : Obj} [h : OwnAt L b i o] : OwnAt (x :: L) b (i + 1) o := ⟨by simpa using h.out⟩
instance OwnAt.head {b : Nat} {o : Obj} {L : List Own} : OwnAt (.blk b o :: L) b 0 o := ⟨rfl⟩
inductive DecB (p : Prop) : Bool → Prop where
  | t (h : p) : DecB p true
  | f (h : ¬ p) : DecB p false
  | d : DecB p (dB p)
theorem DecB.eq {p : Prop} {b : Bool} (h : DecB p b) : dB p = b := by
  cases h with
  | t h => exact bT h
  | f h => exact bF h
  | d => rfl
theorem nz : (∀ l : List Value, l.toArray.toList = l) ∧ (∀ (a b : Value) (l : List Value), (a :: l).set 0 b = b :: l) ∧ (∀ (a b : Value) (n : Nat) (l : List Value), (a :: l).set (n + 1) b = a :: l.set n b) ∧
    (∀ l : List Value, l.drop 0 = l) ∧ (∀ (a : Value) (n : Nat) (l : List Value), (a :: l).drop (n + 1) = l.drop n) ∧ (∀ (a : Value) (n : Nat) (l : List Value), (a :: l).take (n + 1) = a :: l.take n) ∧ (∀ l : List Value, l.take 0 = []) ∧
    (∀ n : Nat, 0 + n = n) ∧ (∀ n : Nat, 0 * n = 0) ∧ (∀ n : Nat, 1 * n = n) ∧ (∀ n : Nat, ((n : Int)).toNat = n) :=
  ⟨fun _ => rfl, fun _ _ _ => rfl, fun _ _ _ _ => rfl, fun _ => rfl, fun _ _ _ => rfl, fun _ _ _ => rfl, fun _ => by simp, Nat.zero_add, Nat.zero_mul, Nat.one_mul, fun _ => rfl⟩
theorem ns : (∀ (a b : Own) (l : List Own), (a :: l).set 0 b = b :: l) ∧ (∀ (a b : Own) (n : Nat) (l : List Own), (a :: l).set (n + 1) b = a :: l.set n b) := ⟨fun _ _ _ => rfl, fun _ _ _ _ => rfl⟩
section
variable {P : Program} {E : Env} {w W0 : World} {X : List Nat} {B : Heap} {L : List Own} {Φ : Value → World → Prop} {ty t t' : TypeId} {x y : Operand}
theorem zl {b off i : Nat} {cs : List Value} {T : TypeId} {fz : Nat × Nat} {v : Value} [Scalar P t] (hm : Mem W0 X B L w) (hx : ev E x = some (.pointer (some ⟨b, off, none⟩))) [h : OwnAt L b i (.cells cs.toArray T fz)] (hv : cs[off]? = some v) (k : Φ v w) : Does P (.load t x) ty E w Φ :=
  does_loadO i hm hx h.out hv k
theorem za {b off i s : Nat} {cs : List Value} {T : TypeId} {fz : Nat × Nat} [Aggr P t s] (hm : Mem W0 X B L w) (hx : ev E x = some (.pointer (some ⟨b, off, none⟩))) [h : OwnAt L b i (.cells cs.toArray T fz)] (hv : Nat.beq ((cs.drop off).take s).length s = true) (k : Φ (.agg ((cs.drop off).take s).toArray) w) : Does P (.load t x) ty E w Φ :=
  does_loadOA i hm hx h.out hv k
theorem zs {b off s b_ i : Nat} {z : Value} {cs vs : List Value} {T : TypeId} {v : Value} [Sz P t z s b_] (hm : Mem W0 X B L w) (hx : ev E x = some (.pointer (some ⟨b, off, none⟩))) (hy : ev E y = some v)
    [h : OwnAt L b i (.cells cs.toArray T (0, 0))] (hv : v.cells = vs.toArray) (ho : oneCells vs = true) (hs : Nat.beq vs.length s = true) (hl : Nat.ble (off + vs.length) cs.length = true)
    (k : ∀ w', Mem W0 X B (L.set i (.blk b (.cells (splice cs off vs).toArray T (0, 0)))) w' → Φ undef w') : Does P (.store t x y) ty E w Φ :=
  does_storeO i hm hx hy h.out hv ho hs hl k
theorem zlss {j : IntKind} {m n : Int} {b : Bool} (hx : ev E x = some (.int j m)) (hy : ev E y = some (.int j n)) (k : Φ (.bool b) w) (hb : DecB (m < n) b := by first | exact .t (by omega) | exact .f (by omega) | exact .d) : Does P (.binOp .lss t x y t') ty E w Φ := does_lss hx hy (by rw [hb.eq]; exact k)
theorem zleq {j : IntKind} {m n : Int} {b : Bool} (hx : ev E x = some (.int j m)) (hy : ev E y = some (.int j n)) (k : Φ (.bool b) w) (hb : DecB (m ≤ n) b := by first | exact .t (by omega) | exact .f (by omega) | exact .d) : Does P (.binOp .leq t x y t') ty E w Φ := does_leq hx hy (by rw [hb.eq]; exact k)
theorem zgtr {j : IntKind} {m n : Int} {b : Bool} (hx : ev E x = some (.int j m)) (hy : ev E y = some (.int j n)) (k : Φ (.bool b) w) (hb : DecB (n < m) b := by first | exact .t (by omega) | exact .f (by omega) | exact .d) : Does P (.binOp .gtr t x y t') ty E w Φ := does_gtr hx hy (by rw [hb.eq]; exact k)
theorem zgeq {j : IntKind} {m n : Int} {b : Bool} (hx : ev E x = some (.int j m)) (hy : ev E y = some (.int j n)) (k : Φ (.bool b) w) (hb : DecB (n ≤ m) b := by first | exact .t (by omega) | exact .f (by omega) | exact .d) : Does P (.binOp .geq t x y t') ty E w Φ := does_geq hx hy (by rw [hb.eq]; exact k)
theorem zeql {j : IntKind} {m n : Int} {b : Bool} (hx : ev E x = some (.int j m)) (hy : ev E y = some (.int j n)) (k : Φ (.bool b) w) (hb : DecB (m = n) b := by first | exact .t (by omega) | exact .f (by omega) | exact .d) : Does P (.binOp .eql t x y t') ty E w Φ := does_eql hx hy (by rw [hb.eq]; exact k)
theorem zneq {j : IntKind} {m n : Int} {b : Bool} (hx : ev E x = some (.int j m)) (hy : ev E y = some (.int j n)) (k : Φ (.bool b) w) (hb : DecB (m ≠ n) b := by first | exact .t (by omega) | exact .f (by omega) | exact .d) : Does P (.binOp .neq t x y t') ty E w Φ := does_neq hx hy (by rw [hb.eq]; exact k)
theorem zadd {m n : Int} (hx : ev E x = some (I m)) (hy : ev E y = some (I n)) (k : Φ (I (m + n)) w) (hr : -9223372036854775808 ≤ m + n ∧ m + n ≤ 9223372036854775807 := by omega) : Does P (.binOp .add t x y t') ty E w Φ := does_add hx hy hr k
theorem zsub {m n : Int} (hx : ev E x = some (I m)) (hy : ev E y = some (I n)) (k : Φ (I (m - n)) w) (hr : -9223372036854775808 ≤ m - n ∧ m - n ≤ 9223372036854775807 := by omega) : Does P (.binOp .sub t x y t') ty E w Φ := does_sub hx hy hr k
theorem ziSL1 {e : TypeId} {z : Value} {b_ n c b i : Nat} {j : IntKind} [hs : SliceT P t e] [Sz P e z 1 b_] (hx : ev E x = some (.slice (some ⟨b, 0, none⟩) n c)) (hy : ev E y = some (.int j i)) (k : Φ (.pointer (some ⟨b, i, none⟩)) w) (hlt : i < n := by omega) : Does P (.indexAddr t x y) ty E w Φ := does_indexSL1 hlt hx hy k
theorem ziS1 {e : TypeId} {z : Value} {b_ n c i : Nat} {q : Addr} {j : IntKind} [hs : SliceT P t e] [Sz P e z 1 b_] (hx : ev E x = some (.slice (some q) n c)) (hy : ev E y = some (.int j i)) (k : Φ (.pointer (some (q.add i))) w) (hlt : i < n := by omega) : Does P (.indexAddr t x y) ty E w Φ := does_indexS1 hlt hx hy k
theorem ziSn {e : TypeId} {z : Value} {s b_ n c i : Nat} {q : Addr} {j : IntKind} [hs : SliceT P t e] [Sz P e z s b_] (hx : ev E x = some (.slice (some q) n c)) (hy : ev E y = some (.int j i)) (k : Φ (.pointer (some (q.add (i * s)))) w) (hlt : i < n := by omega) : Does P (.indexAddr t x y) ty E w Φ := does_indexSn hlt hx hy k
theorem zc {f : FuncId} {args : List Operand} {ats : Array TypeId} {vs : List Value} {v : Value} {pre : Heap → Prop} (hm : Mem W0 X B L w) (hen : Enters P f) (hx : evs E args = some vs) (hc : FunP P f vs pre v) (k : ∀ w', Mem W0 X B L w' → Φ v w')
    (hp : pre (fun b => w.heap[b]?) := by repeat' (first | assumption | with_reducible refine And.intro ?_ ?_ | exact Ints.up (by assumption) hm | exact Sl.up (by assumption) hm | exact At.up (by assumption) hm | exact NodesH.up (by assumption) hm | exact ProgH.up (by assumption) hm | exact row_sl 0 hm rfl (fun _ => rfl) (by omega) | exact row_sl 1 hm rfl (fun _ => rfl) (by omega) | exact row_sl 2 hm rfl (fun _ => rfl) (by omega) | exact row_sl 3 hm rfl (fun _ => rfl) (by omega) | trivial)) :
    Does P (.call { callee := .value (.func f), args := args.toArray, argTypes := ats }) ty E w Φ := does_funP hm hen hx hc hp k
end
end Go.Proofs.YtcbnegmmjflmcaaGreat.St
end

section
/-
  Contracts for slices of integers, as rows of one cell an element.
-/
set_option linter.unusedSimpArgs false
set_option linter.unusedVariables false
namespace Go.Proofs.YtcbnegmmjflmcaaGreat.St
open Go.RowKit Go.WideShapes
abbrev eI (n : Int) : List Value := [I n]

theorem Sl.at1 {B : Heap} {p : Option Addr} {xs : List Int} (h : Sl B p eI 1 xs) {k : Nat} (hk : k < xs.length) : ∃ a, p = some a ∧ At B (a.add k) [I xs[k]] := by
  obtain ⟨a, ha, hat⟩ := h.at hk
  rw [Nat.mul_one] at hat
  exact ⟨a, ha, hat⟩

set_option maxHeartbeats 2000000 in
theorem allWithin_ok (p : Option Addr) (xs : List Int) (c : Nat) (lo hi : Int) (hxs : xs.length ≤ 1048576) : FunP Tryz.prog 32 [.slice p xs.length c, I lo, I hi] (fun H => Sl H p eI 1 xs) (.bool (dB (∀ i, i < xs.length → lo ≤ xs.getD i 0 ∧ xs.getD i 0 ≤ hi))) := by
  refine enterFunP Tryz.func32 rfl Tryz.ntmps32 rfl (fun W0 w a hp hm h => ?_)
  repeat' (first | refine c_seq ?_ | refine c_region ?_ | refine c_nil ?_ | refine k_then ?_ | refine c_block ?_ | ((refine st_op rfl rfl h ?_); clear h a; (first | (show Does _ (.call _) _ _ _ _; (refine does_lenS (SliceT.out) rfl ?_)) | (show Does _ (.move _) _ _ _ _; refine does_move rfl ?_) | (show Does _ (.assign _) _ _ _ _; refine does_assign rfl ?_)); intro a h; (try simp only [Value.cells, splice, nz, Nat.reduceAdd, Nat.reduceMul, Int.reduceAdd, Int.reduceToNat, Int.reduceTMod] at h)))
  refine c_loop (σ := Nat) (fun k a w => k ≤ xs.length ∧ (∀ i, i < k → lo ≤ xs.getD i 0 ∧ xs.getD i 0 ≤ hi) ∧ Mem W0 [] (fun b => W0.heap[b]?) [] w ∧ Holds [(1, I lo), (2, I hi), (9, .slice p xs.length c), (10, .int .i64 xs.length), (11, .int .i64 k)] _ a) (fun k => xs.length - k) 0
    ⟨Nat.zero_le _, fun i h => absurd h (Nat.not_lt_zero _), hm, h.keep ⟨rfl, rfl, rfl, rfl, rfl, trivial⟩⟩ ?_
  clear h hm
  rintro k a w ⟨hk, hpre, hm, h⟩
  by_cases hlt : k < xs.length
  · obtain ⟨q1, rfl, hat1⟩ := hp.at1 hlt
    have hg : xs.getD k 0 = xs[k] := by simp [List.getD, hlt]
    repeat' (first | refine c_seq ?_ | refine c_region ?_ | refine c_nil ?_ | refine k_then ?_ | refine k_thenR ?_ | refine k_inN ?_ | refine k_inR ?_ | refine c_skip ?_ | refine c_ret ?_ | refine c_block ?_ | refine c_condT h rfl ?_ | ((refine st_op rfl rfl h ?_); clear h a; (first | (show Does _ (.call _) _ _ _ _; (((refine does_funM hm en30 rfl (within_ok _ _ _) ?_); clear hm; intro w hm))) | (show Does _ (.move _) _ _ _ _; refine does_move rfl ?_) | (show Does _ (.assign _) _ _ _ _; refine does_assign rfl ?_) | (show Does _ (.load _ _) _ _ _ _; (refine does_loadB hm rfl (by assumption) rfl ?_)) | (show Does _ (.binOp _ _ _ _ _) _ _ _ _; (first | refine zlss rfl rfl ?_ | refine zadd rfl rfl ?_)) | (show Does _ (.unOp _ _ _) _ _ _ _; (refine does_notD rfl ?_)) | (show Does _ (.indexAddr _ _ _) _ _ _ _; (refine ziS1 rfl rfl ?_))); intro a h; (try simp only [Value.cells, splice, nz, Nat.reduceAdd, Nat.reduceMul, Int.reduceAdd, Int.reduceToNat, Int.reduceTMod] at h)) | ((refine c_condD h rfl ?_ ?_) <;> intro hc <;> (try (fail))))
    · (refine k_ret1 rfl h rfl ⟨?_, hm.below⟩)
      exact boolF (fun hh => hc (by rw [← hg]; exact hh k hlt))
    · refine k_thenN ⟨k + 1, ⟨by omega, fun i hi' => ?_, hm.dropAll, h.keep ⟨rfl, rfl, rfl, rfl, rfl, trivial⟩⟩, by omega⟩
      by_cases hik : i < k
      · exact hpre i hik
      · obtain rfl : i = k := by omega
        rw [hg]
        exact Classical.not_not.1 hc
  · obtain rfl : k = xs.length := by omega
    repeat' (first | refine c_seq ?_ | refine c_region ?_ | refine c_nil ?_ | refine k_then ?_ | refine k_thenE ?_ | refine k_inE ?_ | refine c_ret ?_ | refine c_exit ?_ | refine c_condF h rfl ?_ | ((refine st_op rfl rfl h ?_); clear h a; (first | (show Does _ (.assign _) _ _ _ _; refine does_assign rfl ?_) | (show Does _ (.binOp _ _ _ _ _) _ _ _ _; (refine zlss rfl rfl ?_))); intro a h; (try simp only [Value.cells, splice, nz, Nat.reduceAdd, Nat.reduceMul, Int.reduceAdd, Int.reduceToNat, Int.reduceTMod] at h)))
    (refine k_ret1 rfl h rfl ⟨?_, hm.below⟩)
    exact boolT hpre
end Go.Proofs.YtcbnegmmjflmcaaGreat.St
end
