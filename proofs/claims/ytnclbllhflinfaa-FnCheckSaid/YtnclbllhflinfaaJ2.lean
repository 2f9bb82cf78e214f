/-
  An argument that is a list of bytes.
-/
import Derived.Test.YtnclbllhflinfaaLCur
import Derived.Test.YtnclbllhflinfaaStCur
import Derived.Test.YtnclbllhflinfaaScal

section
set_option linter.unusedSimpArgs false
set_option linter.unusedVariables false
namespace Go.Proofs.Ytnclbllhflinfaa.St
open Go.RowKit
theorem openByteS {H : Type} {enc : TypeId × Value → H} {P : Program} {w : World} {spare : Nat → Bool} {held : Bool} {t e : TypeId} {fuel : Nat} {c : Value} {x : DataW H × List MemPlace} (hu : P.underlying t = some (.slice e)) (hf : flatT P 9 e = some [.int .u8]) (hc : P.cellsOf e = 1)
    (h : DataW.trod enc P w 0 spare held fuel t [c] = some x) : ∃ (p : Option Addr) (xs : List Int) (cap : Nat), c = .slice p xs.length cap ∧ xs.length ≤ cap ∧ cap ≤ maxLen ∧ Sl (fun b => w.heap[b]?) p eB 1 xs ∧ bytesOk xs := by
  obtain ⟨p, css, cap, rfl, h1, h2, h3, h4⟩ := openSlice hu hf (by simp) (by simpa using hc) h
  obtain ⟨xs, rfl, hq⟩ := list_of eB (fun x => 0 ≤ x ∧ x ≤ 255) css fun cs hcs => by
    obtain ⟨n0, r0, rfl, b0, f1⟩ := fits_int (h4 cs hcs)
    obtain rfl := fits_nil f1
    exact ⟨n0, rfl, b0⟩
  refine ⟨p, xs, cap, by rw [List.length_map], by rwa [List.length_map] at h1, h2, fun i x hi => ?_, hq⟩
  exact h3 i (eB x) (by rw [List.getElem?_map, hi]; rfl)
end Go.Proofs.Ytnclbllhflinfaa.St
end

section
/-
  Rules that find their block, and their side conditions, by themselves.
-/
set_option linter.unusedSimpArgs false
set_option linter.unusedVariables false
namespace Go.Proofs.Ytnclbllhflinfaa.St
open Go.RowKit
/-- where the block b lies among one's own -/
class OwnAt (L : List Own) (b : Nat) (i : outParam Nat) (o : outParam Obj) : Prop where
  out : L[i]? = some (.blk b o)
instance (priority := low) OwnAt.tail {x : Own} {L : List Own} {b i : Nat} {o : Obj} [h : OwnAt L b i o] : OwnAt (x :: L) b (i + 1) o := ⟨by simpa using h.out⟩
instance OwnAt.head {b : Nat} {o : Obj} {L : List Own} : OwnAt (.blk b o :: L) b 0 o := ⟨rfl⟩
inductive DecB (p : Prop) : Bool → Prop where
  | t (h : p) : DecB p true
  | f (h : ¬ p) : DecB p false
  | d : DecB p (dB p)
theorem DecB.eq {p : Prop} {b : Bool} (h : DecB p b) : dB p = b := by
  cases h with
  | t h => exact bT h
  | f h => exact bF h
  | d => rfl
theorem nz : (∀ l : List Value, l.toArray.toList = l) ∧ (∀ (a b : Value) (l : List Value), (a :: l).set 0 b = b :: l) ∧ (∀ (a b : Value) (n : Nat) (l : List Value), (a :: l).set (n + 1) b = a :: l.set n b) ∧
    (∀ l : List Value, l.drop 0 = l) ∧ (∀ (a : Value) (n : Nat) (l : List Value), (a :: l).drop (n + 1) = l.drop n) ∧ (∀ (a : Value) (n : Nat) (l : List Value), (a :: l).take (n + 1) = a :: l.take n) ∧ (∀ l : List Value, l.take 0 = []) ∧
    (∀ n : Nat, 0 + n = n) ∧ (∀ n : Nat, 0 * n = 0) ∧ (∀ n : Nat, 1 * n = n) ∧ (∀ n : Nat, ((n : Int)).toNat = n) :=
  ⟨fun _ => rfl, fun _ _ _ => rfl, fun _ _ _ _ => rfl, fun _ => rfl, fun _ _ _ => rfl, fun _ _ _ => rfl, fun _ => by simp, Nat.zero_add, Nat.zero_mul, Nat.one_mul, fun _ => rfl⟩
theorem ns : (∀ (a b : Own) (l : List Own), (a :: l).set 0 b = b :: l) ∧ (∀ (a b : Own) (n : Nat) (l : List Own), (a :: l).set (n + 1) b = a :: l.set n b) := ⟨fun _ _ _ => rfl, fun _ _ _ _ => rfl⟩
section
variable {P : Program} {E : Env} {w W0 : World} {X : List Nat} {B : Heap} {L : List Own} {Φ : Value → World → Prop} {ty t t' : TypeId} {x y : Operand}
theorem zl {b off i : Nat} {cs : List Value} {T : TypeId} {fz : Nat × Nat} {v : Value} [Scalar P t] (hm : Mem W0 X B L w) (hx : ev E x = some (.pointer (some ⟨b, off, none⟩))) [h : OwnAt L b i (.cells cs.toArray T fz)] (hv : cs[off]? = some v) (k : Φ v w) : Does P (.load t x) ty E w Φ :=
  does_loadO i hm hx h.out hv k
theorem za {b off i s : Nat} {cs : List Value} {T : TypeId} {fz : Nat × Nat} [Aggr P t s] (hm : Mem W0 X B L w) (hx : ev E x = some (.pointer (some ⟨b, off, none⟩))) [h : OwnAt L b i (.cells cs.toArray T fz)] (hv : Nat.beq ((cs.drop off).take s).length s = true) (k : Φ (.agg ((cs.drop off).take s).toArray) w) : Does P (.load t x) ty E w Φ :=
  does_loadOA i hm hx h.out hv k
theorem zs {b off s b_ i : Nat} {z : Value} {cs vs : List Value} {T : TypeId} {v : Value} [Sz P t z s b_] (hm : Mem W0 X B L w) (hx : ev E x = some (.pointer (some ⟨b, off, none⟩))) (hy : ev E y = some v)
    [h : OwnAt L b i (.cells cs.toArray T (0, 0))] (hv : v.cells = vs.toArray) (ho : oneCells vs = true) (hs : Nat.beq vs.length s = true) (hl : Nat.ble (off + vs.length) cs.length = true)
    (k : ∀ w', Mem W0 X B (L.set i (.blk b (.cells (splice cs off vs).toArray T (0, 0)))) w' → Φ undef w') : Does P (.store t x y) ty E w Φ :=
  does_storeO i hm hx hy h.out hv ho hs hl k
theorem zlss {j : IntKind} {m n : Int} {b : Bool} (hx : ev E x = some (.int j m)) (hy : ev E y = some (.int j n)) (k : Φ (.bool b) w) (hb : DecB (m < n) b := by first | exact .t (by omega) | exact .f (by omega) | exact .d) : Does P (.binOp .lss t x y t') ty E w Φ := does_lss hx hy (by rw [hb.eq]; exact k)
theorem zleq {j : IntKind} {m n : Int} {b : Bool} (hx : ev E x = some (.int j m)) (hy : ev E y = some (.int j n)) (k : Φ (.bool b) w) (hb : DecB (m ≤ n) b := by first | exact .t (by omega) | exact .f (by omega) | exact .d) : Does P (.binOp .leq t x y t') ty E w Φ := does_leq hx hy (by rw [hb.eq]; exact k)
theorem zgtr {j : IntKind} {m n : Int} {b : Bool} (hx : ev E x = some (.int j m)) (hy : ev E y = some (.int j n)) (k : Φ (.bool b) w) (hb : DecB (n < m) b := by first | exact .t (by omega) | exact .f (by omega) | exact .d) : Does P (.binOp .gtr t x y t') ty E w Φ := does_gtr hx hy (by rw [hb.eq]; exact k)
theorem zgeq {j : IntKind} {m n : Int} {b : Bool} (hx : ev E x = some (.int j m)) (hy : ev E y = some (.int j n)) (k : Φ (.bool b) w) (hb : DecB (n ≤ m) b := by first | exact .t (by omega) | exact .f (by omega) | exact .d) : Does P (.binOp .geq t x y t') ty E w Φ := does_geq hx hy (by rw [hb.eq]; exact k)
theorem zeql {j : IntKind} {m n : Int} {b : Bool} (hx : ev E x = some (.int j m)) (hy : ev E y = some (.int j n)) (k : Φ (.bool b) w) (hb : DecB (m = n) b := by first | exact .t (by omega) | exact .f (by omega) | exact .d) : Does P (.binOp .eql t x y t') ty E w Φ := does_eql hx hy (by rw [hb.eq]; exact k)
theorem zneq {j : IntKind} {m n : Int} {b : Bool} (hx : ev E x = some (.int j m)) (hy : ev E y = some (.int j n)) (k : Φ (.bool b) w) (hb : DecB (m ≠ n) b := by first | exact .t (by omega) | exact .f (by omega) | exact .d) : Does P (.binOp .neq t x y t') ty E w Φ := does_neq hx hy (by rw [hb.eq]; exact k)
theorem zadd {m n : Int} (hx : ev E x = some (I m)) (hy : ev E y = some (I n)) (k : Φ (I (m + n)) w) (hr : -9223372036854775808 ≤ m + n ∧ m + n ≤ 9223372036854775807 := by omega) : Does P (.binOp .add t x y t') ty E w Φ := does_add hx hy hr k
theorem zsub {m n : Int} (hx : ev E x = some (I m)) (hy : ev E y = some (I n)) (k : Φ (I (m - n)) w) (hr : -9223372036854775808 ≤ m - n ∧ m - n ≤ 9223372036854775807 := by omega) : Does P (.binOp .sub t x y t') ty E w Φ := does_sub hx hy hr k
theorem ziSL1 {e : TypeId} {z : Value} {b_ n c b i : Nat} {j : IntKind} [hs : SliceT P t e] [Sz P e z 1 b_] (hx : ev E x = some (.slice (some ⟨b, 0, none⟩) n c)) (hy : ev E y = some (.int j i)) (k : Φ (.pointer (some ⟨b, i, none⟩)) w) (hlt : i < n := by omega) : Does P (.indexAddr t x y) ty E w Φ := does_indexSL1 hlt hx hy k
theorem ziSLn {e : TypeId} {z : Value} {s b_ n c b i : Nat} {j : IntKind} [hs : SliceT P t e] [Sz P e z s b_] (hx : ev E x = some (.slice (some ⟨b, 0, none⟩) n c)) (hy : ev E y = some (.int j i)) (k : Φ (.pointer (some ⟨b, i * s, none⟩)) w) (hlt : i < n := by omega) : Does P (.indexAddr t x y) ty E w Φ := does_indexSLn hlt hx hy k
theorem ziSL {e : TypeId} {z : Value} {s b_ n c b o : Nat} {j : IntKind} {m : Int} [hs : SliceT P t e] [Sz P e z s b_] (hx : ev E x = some (.slice (some ⟨b, o, none⟩) n c)) (hy : ev E y = some (.int j m)) (k : Φ (.pointer (some ⟨b, o + m.toNat * s, none⟩)) w) (h0 : 0 ≤ m ∧ m < n := by omega) : Does P (.indexAddr t x y) ty E w Φ := does_indexSL h0 hx hy k
theorem ziS1 {e : TypeId} {z : Value} {b_ n c i : Nat} {q : Addr} {j : IntKind} [hs : SliceT P t e] [Sz P e z 1 b_] (hx : ev E x = some (.slice (some q) n c)) (hy : ev E y = some (.int j i)) (k : Φ (.pointer (some (q.add i))) w) (hlt : i < n := by omega) : Does P (.indexAddr t x y) ty E w Φ := does_indexS1 hlt hx hy k
theorem ziSn {e : TypeId} {z : Value} {s b_ n c i : Nat} {q : Addr} {j : IntKind} [hs : SliceT P t e] [Sz P e z s b_] (hx : ev E x = some (.slice (some q) n c)) (hy : ev E y = some (.int j i)) (k : Φ (.pointer (some (q.add (i * s)))) w) (hlt : i < n := by omega) : Does P (.indexAddr t x y) ty E w Φ := does_indexSn hlt hx hy k
theorem ziS1m {e : TypeId} {z : Value} {b_ n c : Nat} {q : Addr} {j : IntKind} {m : Int} [hs : SliceT P t e] [Sz P e z 1 b_] (hx : ev E x = some (.slice (some q) n c)) (hy : ev E y = some (.int j m)) (k : Φ (.pointer (some (q.add m.toNat))) w) (h0 : 0 ≤ m ∧ m < n := by omega) : Does P (.indexAddr t x y) ty E w Φ := does_indexS1m h0 hx hy k
theorem ziS {e : TypeId} {z : Value} {s b_ n c : Nat} {q : Addr} {j : IntKind} {m : Int} [hs : SliceT P t e] [Sz P e z s b_] (hx : ev E x = some (.slice (some q) n c)) (hy : ev E y = some (.int j m)) (k : Φ (.pointer (some (q.add (m.toNat * s)))) w) (h0 : 0 ≤ m ∧ m < n := by omega) : Does P (.indexAddr t x y) ty E w Φ := does_indexS h0 hx hy k
theorem ziP {e : TypeId} {z : Value} {s b_ n : Nat} {q : Addr} {j : IntKind} {m : Int} [hs : ArrT P t n e] [Sz P e z s b_] (hx : ev E x = some (.pointer (some q))) (hy : ev E y = some (.int j m)) (k : Φ (.pointer (some (q.add (m.toNat * s)))) w) (h0 : 0 ≤ m ∧ m < n := by omega) : Does P (.indexAddr t x y) ty E w Φ := does_indexP h0 hx hy k
theorem ziPL {e : TypeId} {z : Value} {s b_ n b o : Nat} {j : IntKind} {m : Int} [hs : ArrT P t n e] [Sz P e z s b_] (hx : ev E x = some (.pointer (some ⟨b, o, none⟩))) (hy : ev E y = some (.int j m)) (k : Φ (.pointer (some ⟨b, o + m.toNat * s, none⟩)) w) (h0 : 0 ≤ m ∧ m < n := by omega) : Does P (.indexAddr t x y) ty E w Φ := does_indexPL h0 hx hy k
theorem zc {f : FuncId} {args : List Operand} {ats : Array TypeId} {vs : List Value} {v : Value} {pre : Heap → Prop} (hm : Mem W0 X B L w) (hen : Enters P f) (hx : evs E args = some vs) (hc : FunP P f vs pre v) (k : ∀ w', Mem W0 X B L w' → Φ v w')
    (hp : pre (fun b => w.heap[b]?) := by repeat' (first | assumption | with_reducible refine And.intro ?_ ?_ | exact Ints.up (by assumption) hm | exact Sl.up (by assumption) hm | exact At.up (by assumption) hm | exact NodesH.up (by assumption) hm | exact ProgH.up (by assumption) hm | exact row_sl 0 hm rfl (fun _ => rfl) (by omega) | exact row_sl 1 hm rfl (fun _ => rfl) (by omega) | exact row_sl 2 hm rfl (fun _ => rfl) (by omega) | exact row_sl 3 hm rfl (fun _ => rfl) (by omega) | trivial)) :
    Does P (.call { callee := .value (.func f), args := args.toArray, argTypes := ats }) ty E w Φ := does_funP hm hen hx hc hp k
theorem zcx {f : FuncId} {args : List Operand} {ats : Array TypeId} {vs : List Value} {v : Value} {pre : Heap → Prop} (hm : Mem W0 X B L w) (hen : Enters P f) (hx : evs E args = some vs) (hc : FunP P f vs pre v) (k : ∀ w', Ext w w' → Φ v w')
    (hp : pre (fun b => w.heap[b]?) := by repeat' (first | assumption | with_reducible refine And.intro ?_ ?_ | exact Ints.up (by assumption) hm | exact Sl.up (by assumption) hm | exact At.up (by assumption) hm | exact NodesH.up (by assumption) hm | exact ProgH.up (by assumption) hm | trivial)) :
    Does P (.call { callee := .value (.func f), args := args.toArray, argTypes := ats }) ty E w Φ := does_funPX hen hx hc hp k
end
end Go.Proofs.Ytnclbllhflinfaa.St
end
