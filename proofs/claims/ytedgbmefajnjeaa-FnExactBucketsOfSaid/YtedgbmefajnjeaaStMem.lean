/-
  The rules of the operations on memory.
-/
import Derived.Test.YtedgbmefajnjeaaStOps
set_option linter.unusedSimpArgs false
set_option linter.unusedVariables false
namespace Go.Proofs.Ytedgbmefajnjeaa.St
open Go.RowKit Go.Proofs.Ytedgbmefajnjeaa.Co

/-! ### What the program's table says of a type -/
def aggD : TypeDesc → Bool
  | .struct _ | .array _ _ => true
  | _ => false
class Scalar (P : Program) (t : TypeId) : Prop where
  out : ∃ d, P.underlying t = some d ∧ aggD d = false
class Aggr (P : Program) (t : TypeId) (s : outParam Nat) : Prop where
  out : (∃ d, P.underlying t = some d ∧ aggD d = true) ∧ (P.info? t).map (·.size) = some s
class Sz (P : Program) (t : TypeId) (z : outParam Value) (s by_ : outParam Nat) : Prop where
  out : (P.info? t).map (fun i => (i.zero, i.size, i.bytes)) = some (some z, s, by_)
/-- the cells of a type's zero value -/
class ZeroC (P : Program) (t : TypeId) (zs : outParam (List Value)) : Prop where
  out : ∃ i, P.info? t = some i ∧ ∃ z, i.zero = some z ∧ z.cells = zs.toArray ∧ i.size = zs.length
/-- where the parts of a struct or an array lie: their offsets and sizes -/
class Parts (P : Program) (t : TypeId) (ps : outParam (List (Nat × Nat))) : Prop where
  out : (∃ fs, P.underlying t = some (.struct fs) ∧ fs.toList.map (fun f => (f.offset, P.cellsOf f.type)) = ps ∧ fs.toList.all (fun f => (P.info? f.type).isSome) = true) ∨
    (∃ n e, P.underlying t = some (.array n e) ∧ (List.range n).map (fun i => (i * P.cellsOf e, P.cellsOf e)) = ps ∧ (P.info? e).isSome = true)
class SliceT (P : Program) (t : TypeId) (e : outParam TypeId) : Prop where
  out : P.underlying t = some (.slice e)
class ArrT (P : Program) (t : TypeId) (n : outParam Nat) (e : outParam TypeId) : Prop where
  out : P.underlying t = some (.array n e)
class StrT (P : Program) (t : TypeId) : Prop where
  out : P.underlying t = some .string
class BoolT (P : Program) (t : TypeId) : Prop where
  out : P.underlying t = some .bool
class Fld (P : Program) (t : TypeId) (k : Nat) (off : outParam Nat) : Prop where
  out : ∃ fs f i, P.underlying t = some (.struct fs) ∧ fs[k]? = some f ∧ f.offset = off ∧ P.info? f.type = some i ∧ i.size ≠ 0
class En (P : Program) (f : FuncId) : Prop where
  out : Enters P f

def fldB (P : Program) (t : TypeId) (k off : Nat) : Bool :=
  match P.underlying t with
  | some (.struct fs) => match fs[k]? with
    | some f => f.offset == off && (match P.info? f.type with | some i => i.size != 0 | none => false)
    | none => false
  | _ => false

theorem fld_of {P : Program} {t : TypeId} {k off : Nat} (h : fldB P t k off = true) : ∃ fs f i, P.underlying t = some (.struct fs) ∧ fs[k]? = some f ∧ f.offset = off ∧ P.info? f.type = some i ∧ i.size ≠ 0 := by
  unfold fldB at h
  split at h
  · rename_i fs hfs
    split at h
    · rename_i f hf
      simp only [Bool.and_eq_true, beq_iff_eq] at h
      obtain ⟨h1, h2⟩ := h
      split at h2
      · rename_i i hi
        exact ⟨fs, f, i, hfs, hf, h1, hi, by simpa using h2⟩
      · cases h2
    · cases h
  · cases h

section
variable {P : Program} {w : World}

theorem sz_parts {t : TypeId} {z : Value} {s b : Nat} [h : Sz P t z s b] : ∃ i, P.info? t = some i ∧ i.zero = some z ∧ i.size = s ∧ i.bytes = b := by
  have := h.out
  cases hi : P.info? t with
  | none => simp [hi] at this
  | some i =>
    simp only [hi, Option.map_some, Option.some.injEq, Prod.mk.injEq] at this
    exact ⟨i, rfl, this.1, this.2.1, this.2.2⟩

theorem run_zero {t : TypeId} {z : Value} {s b : Nat} [h : Sz P t z s b] : (zeroValue t).run P w = .ok z w := by
  obtain ⟨i, h1, h2, _⟩ := sz_parts (h := h)
  simp [zeroValue, typeInfo, h1, h2]

theorem run_size {t : TypeId} {z : Value} {s b : Nat} [h : Sz P t z s b] : (sizeOf t).run P w = .ok s w := by
  obtain ⟨i, h1, h2, h3, _⟩ := sz_parts (h := h)
  simp [sizeOf, typeInfo, h1, h3]

theorem run_isAggF {t : TypeId} [h : Scalar P t] : (isAgg t).run P w = .ok false w := by
  obtain ⟨d, hd, ha⟩ := h.out
  unfold isAgg
  rw [Sem.run_bind, run_underlying hd w]
  cases d <;> simp_all [aggD]

theorem run_isAggT {t : TypeId} {s : Nat} [h : Aggr P t s] : (isAgg t).run P w = .ok true w := by
  obtain ⟨⟨d, hd, ha⟩, _⟩ := h.out
  unfold isAgg
  rw [Sem.run_bind, run_underlying hd w]
  cases d <;> simp_all [aggD]

theorem run_aggSize {t : TypeId} {s : Nat} [h : Aggr P t s] : (sizeOf t).run P w = .ok s w := by
  obtain ⟨_, h2⟩ := h.out
  cases hi : P.info? t with
  | none => simp [hi] at h2
  | some i =>
    simp only [hi, Option.map_some, Option.some.injEq] at h2
    simp [sizeOf, typeInfo, hi, h2]

theorem run_loadVar1 {t : TypeId} [Scalar P t] {q : Addr} {v : Value} (h : w.cell? q = some v) : (loadVar t q).run P w = .ok v w := by
  simp [loadVar, run_isAggF, h]

theorem run_loadVarA {t : TypeId} {s : Nat} [Aggr P t s] {q : Addr} {cs : List Value} (hl : cs.length = s) (h : ∀ j v, cs[j]? = some v → w.cell? (q.add j) = some v) :
    (loadVar t q).run P w = .ok (.agg cs.toArray) w := by
  subst hl
  simp [loadVar, run_isAggT, run_aggSize, run_loadCells_list w q cs h]
end

/-! ### A place in frozen memory -/
def At (B : Heap) (q : Addr) (cs : List Value) : Prop :=
  q.spot = none ∧ ∃ arr T fz, B q.block = some (.cells arr T fz) ∧ ∀ j v, cs[j]? = some v → arr[q.off + j]? = some v

def Heap.le (B B' : Heap) : Prop := ∀ b o, B b = some o → B' b = some o

theorem At.mono {B B' : Heap} {q : Addr} {cs : List Value} (h : At B q cs) (hB : Heap.le B B') : At B' q cs := by
  obtain ⟨h1, arr, T, fz, h2, h3⟩ := h
  exact ⟨h1, arr, T, fz, hB _ _ h2, h3⟩

theorem add_add (q : Addr) (m n : Nat) (hs : q.spot = none) : q.add n = ⟨q.block, q.off + n, none⟩ := by
  unfold Addr.add
  split
  · subst_vars; cases q; simp_all
  · rfl

theorem At.cell {B : Heap} {q : Addr} {cs : List Value} {w : World} (h : At B q cs) (hb : ∀ b o, B b = some o → w.heap[b]? = some o) {j : Nat} {v : Value} (hv : cs[j]? = some v) :
    w.cell? (q.add j) = some v := by
  obtain ⟨h1, arr, T, fz, h2, h3⟩ := h
  rw [add_add q 0 j h1]
  simp [World.cell?, hb _ _ h2, h3 j v hv]

theorem At.cell0 {B : Heap} {q : Addr} {cs : List Value} {w : World} (h : At B q cs) (hb : ∀ b o, B b = some o → w.heap[b]? = some o) {v : Value} (hv : cs[0]? = some v) :
    w.cell? q = some v := by
  have := h.cell hb hv
  rwa [show q.add 0 = q by simp [Addr.add]] at this

theorem At.add {B : Heap} {q : Addr} {cs : List Value} (h : At B q cs) (n : Nat) : At B (q.add n) (cs.drop n) := by
  obtain ⟨h1, arr, T, fz, h2, h3⟩ := h
  rw [add_add q 0 n h1]
  refine ⟨rfl, arr, T, fz, h2, fun j v hv => ?_⟩
  have := h3 (n + j) v (by simpa [List.getElem?_drop] using hv)
  rwa [← Nat.add_assoc] at this

theorem own_cell {w : World} {b j : Nat} {cs : List Value} {T : TypeId} {fz : Nat × Nat} {v : Value} (h : w.heap[b]? = some (.cells cs.toArray T fz)) (hv : cs[j]? = some v) : w.cell? ⟨b, j, none⟩ = some v := by
  simp [World.cell?, h, hv]

section
variable {P : Program} {E : Env} {w W0 : World} {X : List Nat} {B : Heap} {L : List Own} {Φ : Value → World → Prop} {ty t : TypeId} {x y : Operand}

theorem does_box {v : Value} {cs : List Value} (hm : Mem W0 X B L w) (hx : ev E x = some v) (hc : v.cells = cs.toArray) (k : ∀ b w', Mem W0 X B (.blk b (.cells cs.toArray t) :: L) w' → Φ (.pointer (some ⟨b, 0, none⟩)) w') :
    Does P (.box t x) ty E w Φ := by
  refine does_of (fun ρ hρ => ?_)
  have : (execOp ρ (mk (.box t x) ty)).run P w = .ok (.value (.pointer (some ⟨w.heap.size, 0, none⟩))) (w.alloc (.cells cs.toArray t)) := by
    simp [execOp, mk, Instr.box, newVar, newRow, hρ _ _ hx, hc]
  rw [this]; exact k _ _ (hm.alloc _)

theorem zeroC_of {z : Value} {zs : List Value} (h : (P.info? t).map (fun i => (i.zero, i.size)) = some (some z, zs.length)) (hz : z.cells = zs.toArray) : ∃ i, P.info? t = some i ∧ ∃ z, i.zero = some z ∧ z.cells = zs.toArray ∧ i.size = zs.length := by
  cases hi : P.info? t with
  | none => simp [hi] at h
  | some i =>
    simp only [hi, Option.map_some, Option.some.injEq, Prod.mk.injEq] at h
    exact ⟨i, rfl, z, h.1, hz, h.2⟩

theorem does_alloc {cs : List Value} (hm : Mem W0 X B L w) [hz : ZeroC P t cs] (k : ∀ b w', Mem W0 X B (.blk b (.cells cs.toArray t) :: L) w' → Φ (.pointer (some ⟨b, 0, none⟩)) w') :
    Does P (.alloc t) ty E w Φ := by
  refine does_of (fun ρ hρ => ?_)
  obtain ⟨i, hi, z, h1, h2, h3⟩ := hz.out
  have hrz : (zeroValue t).run P w = .ok z w := by simp [zeroValue, typeInfo, hi, h1]
  have : (execOp ρ (mk (.alloc t) ty)).run P w = .ok (.value (.pointer (some ⟨w.heap.size, 0, none⟩))) (w.alloc (.cells cs.toArray t)) := by
    simp only [execOp, mk, Instr.alloc, Sem.run_bind, hrz, Result.andThen_ok]
    simp [newVar, newRow, h2]
  rw [this]; exact k _ _ (hm.alloc _)

theorem does_load_of {q : Addr} {v : Value} (hx : ev E x = some (.pointer (some q))) (hr : (loadVar t q).run P w = .ok v w) (k : Φ v w) : Does P (.load t x) ty E w Φ := by
  refine does_of (fun ρ hρ => ?_)
  have : (execOp ρ (mk (.load t x) ty)).run P w = .ok (.value v) w := by
    simp [execOp, mk, Instr.loadAt, Instr.sureAddr, hρ _ _ hx, hr]
  rw [this]; exact k

theorem mem_idx {i : Nat} {o : Own} (hm : Mem W0 X B L w) (hL : L[i]? = some o) : o.holds w := hm.own o (List.mem_of_getElem? hL)

/-- a scalar out of a block of one's own -/
theorem does_loadO (i : Nat) {b off : Nat} {cs : List Value} {T : TypeId} {fz : Nat × Nat} {v : Value} [Scalar P t] (hm : Mem W0 X B L w) (hx : ev E x = some (.pointer (some ⟨b, off, none⟩))) (hL : L[i]? = some (.blk b (.cells cs.toArray T fz)))
    (hv : cs[off]? = some v) (k : Φ v w) : Does P (.load t x) ty E w Φ :=
  does_load_of hx (run_loadVar1 (own_cell (mem_idx hm hL) hv)) k

/-- a struct or an array out of a block of one's own -/
theorem does_loadOA (i : Nat) {b off s : Nat} {cs : List Value} {T : TypeId} {fz : Nat × Nat} [Aggr P t s] (hm : Mem W0 X B L w) (hx : ev E x = some (.pointer (some ⟨b, off, none⟩))) (hL : L[i]? = some (.blk b (.cells cs.toArray T fz)))
    (hv : Nat.beq ((cs.drop off).take s).length s = true) (k : Φ (.agg ((cs.drop off).take s).toArray) w) : Does P (.load t x) ty E w Φ :=
  does_load_of hx (run_loadVarA (Nat.eq_of_beq_eq_true hv) (fun j v hj => by
    rw [show (⟨b, off, none⟩ : Addr).add j = ⟨b, off + j, none⟩ from add_add _ 0 j rfl]
    refine own_cell (mem_idx hm hL) ?_
    have h1 := hj
    rw [List.getElem?_take] at h1
    split at h1
    · rwa [List.getElem?_drop] at h1
    · cases h1)) k

theorem does_loadB {q : Addr} {cs : List Value} {v : Value} [Scalar P t] (hm : Mem W0 X B L w) (hx : ev E x = some (.pointer (some q))) (hq : At B q cs) (hv : cs[0]? = some v) (k : Φ v w) : Does P (.load t x) ty E w Φ :=
  does_load_of hx (run_loadVar1 (hq.cell0 hm.base hv)) k

theorem does_loadBA {q : Addr} {s : Nat} {cs : List Value} [Aggr P t s] (hm : Mem W0 X B L w) (hx : ev E x = some (.pointer (some q))) (hq : At B q cs) (hl : Nat.beq cs.length s = true) (k : Φ (.agg cs.toArray) w) : Does P (.load t x) ty E w Φ :=
  does_load_of hx (run_loadVarA (Nat.eq_of_beq_eq_true hl) (fun _ _ hj => hq.cell hm.base hj)) k

theorem does_fieldAddr {n off : Nat} {q : Addr} [h : Fld P t n off] (hx : ev E x = some (.pointer (some q))) (k : Φ (.pointer (some (q.add off))) w) : Does P (.fieldAddr t x n) ty E w Φ := by
  refine does_of (fun ρ hρ => ?_)
  obtain ⟨fs, f, i, h1, h2, h3, h4, h5⟩ := h.out
  have : (execOp ρ (mk (.fieldAddr t x n) ty)).run P w = .ok (.value (.pointer (some (q.add off)))) w := by
    simp only [execOp, mk, Instr.fieldAt, Sem.run_bind, run_underlying h1, Result.andThen_ok, h2]
    simp [Instr.sureAddr, hρ _ _ hx, fieldPlace, sizeOf, typeInfo, h4, h5, h3]
  rw [this]; exact k

theorem does_fieldAddrL {n off b o : Nat} [h : Fld P t n off] (hx : ev E x = some (.pointer (some ⟨b, o, none⟩))) (k : Φ (.pointer (some ⟨b, o + off, none⟩)) w) : Does P (.fieldAddr t x n) ty E w Φ :=
  does_fieldAddr hx (by rw [add_add _ 0 off rfl]; exact k)

theorem run_cell_store {w : World} {b j : Nat} {cs : List Value} {T : TypeId} {u v : Value} (h : w.heap[b]? = some (.cells cs.toArray T (0, 0))) (hj : cs[j]? = some u) (hv : v.oneCell' = true) :
    (store ⟨b, j, none⟩ v).run P w = .ok () (w.setCell ⟨b, j, none⟩ v) := by
  rw [run_store P w _ v .plain hv, own_cell h hj]
  simp [World.frozen?, h]

theorem setCell_get {w : World} {b j : Nat} {cs : List Value} {T : TypeId} {v : Value} (h : w.heap[b]? = some (.cells cs.toArray T (0, 0))) :
    (w.setCell ⟨b, j, none⟩ v).heap[b]? = some (.cells (cs.set j v).toArray T (0, 0)) := by
  simp [World.setCell, Array.getElem?_modify, h]

theorem setCell_other {w : World} {b j c : Nat} {v : Value} (h : c ≠ b) : (w.setCell ⟨b, j, none⟩ v).heap[c]? = w.heap[c]? := heap_setCell_other w ⟨b, j, none⟩ c v h

theorem nodup_dom {L : List Own} (h : (L.filterMap Own.dom).Nodup) {i j : Nat} {x y : Own} {b : Nat} (hi : L[i]? = some x) (hj : L[j]? = some y) (hx : x.dom = some b) (hy : y.dom = some b) : i = j := by
  induction L generalizing i j with
  | nil => simp at hi
  | cons z L ih =>
    have hn : (L.filterMap Own.dom).Nodup := by
      simp only [List.filterMap_cons] at h
      split at h
      · exact h
      · exact (List.nodup_cons.1 h).2
    have hz : ∀ (k : Nat) (u : Own), L[k]? = some u → u.dom = some b → z.dom = some b → False := fun k u hk hu hz => by
      simp only [List.filterMap_cons, hz] at h
      exact (List.nodup_cons.1 h).1 (List.mem_filterMap.2 ⟨u, List.mem_of_getElem? hk, hu⟩)
    cases i with
    | zero =>
      cases j with
      | zero => rfl
      | succ j =>
        simp only [List.getElem?_cons_zero, Option.some.injEq] at hi
        subst hi
        exact (hz j y (by simpa using hj) hy hx).elim
    | succ i =>
      cases j with
      | zero =>
        simp only [List.getElem?_cons_zero, Option.some.injEq] at hj
        subst hj
        exact (hz i x (by simpa using hi) hx hy).elim
      | succ j => exact congrArg (· + 1) (ih (i := i) (j := j) hn (by simpa using hi) (by simpa using hj))

theorem filterMap_set {L : List Own} {i : Nat} {x y : Own} (hi : L[i]? = some x) (hd : y.dom = x.dom) : (L.set i y).filterMap Own.dom = L.filterMap Own.dom := by
  induction L generalizing i with
  | nil => simp at hi
  | cons z L ih =>
    cases i with
    | zero =>
      simp only [List.getElem?_cons_zero, Option.some.injEq] at hi
      subst hi
      simp [List.filterMap_cons, hd]
    | succ i => simp only [List.set_cons_succ, List.filterMap_cons, ih (i := i) (by simpa using hi)]

/-- a block of one's own is replaced by another of the same number -/
theorem Mem.update (i : Nat) {b : Nat} {o o' : Obj} (hm : Mem W0 X B L w) {w' : World} (hL : L[i]? = some (.blk b o)) (hos : w'.os = w.os) (htape : w'.tape = w.tape) (hout : w'.output = w.output) (hsize : w.heap.size ≤ w'.heap.size)
    (hget : w'.heap[b]? = some o') (hoth : ∀ c, c ≠ b → c < w.heap.size → w'.heap[c]? = w.heap[c]?) : Mem W0 X B (L.set i (.blk b o')) w' := by
  have hmem := List.mem_of_getElem? hL
  have hlt : i < L.length := (List.getElem?_eq_some_iff.1 hL).1
  have hset : ∀ x ∈ L.set i (.blk b o'), x = .blk b o' ∨ (x ∈ L ∧ ∀ c, x.dom = some c → c ≠ b) := by
    intro x hx
    obtain ⟨j, hj⟩ := List.mem_iff_getElem?.1 hx
    by_cases hij : i = j
    · subst hij
      rw [List.getElem?_set_self hlt] at hj
      exact .inl (Option.some.inj hj).symm
    · rw [List.getElem?_set_ne hij] at hj
      refine .inr ⟨List.mem_of_getElem? hj, fun c hc he => ?_⟩
      subst he
      exact hij (nodup_dom hm.nodup hL hj rfl hc)
  refine ⟨by rw [hos, hm.os], by rw [htape, hm.tape], by rw [hout, hm.output], Nat.le_trans hm.size hsize, ?_, ?_, ?_, ?_, ?_, ?_⟩
  · intro c hc hX
    have hcb : c ≠ b := by
      intro e
      subst e
      rcases hm.fresh _ hmem c rfl with h | h
      · omega
      · exact hX h
    rw [hoth c hcb (Nat.lt_of_lt_of_le hc hm.size), hm.block c hc hX]
  · intro c o2 hc
    have hcb : c ≠ b := by
      intro e
      subst e
      rw [hm.apart _ hmem c rfl] at hc
      cases hc
    have := hm.base c o2 hc
    rw [hoth c hcb (Array.getElem?_eq_some_iff.1 this).1, this]
  · intro x hx
    rcases hset x hx with rfl | ⟨hx, hne⟩
    · exact hget
    · exact Own.keep (hm.own x hx) fun c hc => hoth c (hne c hc) (Own.lt (hm.own x hx) hc)
  · intro x hx c hc
    rcases hset x hx with rfl | ⟨hx, _⟩
    · exact hm.fresh _ hmem c hc
    · exact hm.fresh x hx c hc
  · intro x hx c hc
    rcases hset x hx with rfl | ⟨hx, _⟩
    · exact hm.apart _ hmem c hc
    · exact hm.apart x hx c hc
  · rw [filterMap_set (y := .blk b o') hL rfl]; exact hm.nodup

theorem does_store_of {q : Addr} {v : Value} {w' : World} (hx : ev E x = some (.pointer (some q))) (hy : ev E y = some v) (hr : (storeVar t q v).run P w = .ok () w') (k : Φ undef w') : Does P (.store t x y) ty E w Φ := by
  refine does_of (fun ρ hρ => ?_)
  have : (execOp ρ (mk (.store t x y) ty)).run P w = .ok .skip w' := by
    simp [execOp, mk, Instr.storeAt, Instr.sureAddr, hρ _ _ hx, hρ _ _ hy, hr]
  rw [this]; exact k

def splice (cs : List Value) (off : Nat) : List Value → List Value
  | [] => cs
  | v :: vs => splice (cs.set off v) (off + 1) vs

theorem run_storeCells (vs : List Value) : ∀ (cs : List Value) (off i : Nat) {w : World} {b : Nat} {T : TypeId}, w.heap[b]? = some (.cells cs.toArray T (0, 0)) → off + i + vs.length ≤ cs.length → (∀ v ∈ vs, v.oneCell' = true) →
    ∃ w', (storeCells ⟨b, off, none⟩ vs i).run P w = .ok () w' ∧ w'.heap[b]? = some (.cells (splice cs (off + i) vs).toArray T (0, 0)) ∧ w'.os = w.os ∧ w'.tape = w.tape ∧ w'.output = w.output ∧ w'.heap.size = w.heap.size ∧ ∀ c, c ≠ b → w'.heap[c]? = w.heap[c]? := by
  induction vs with
  | nil => intro cs off i w b T h _ _; exact ⟨w, by simp [storeCells], h, rfl, rfl, rfl, rfl, fun _ _ => rfl⟩
  | cons v vs ih =>
    intro cs off i w b T h hl hv
    have hlt : off + i < cs.length := by simp at hl; omega
    have h1 := run_cell_store (P := P) (v := v) h (List.getElem?_eq_getElem hlt) (hv v (List.mem_cons_self ..))
    obtain ⟨w', hr, hg, ho, ht, hu, hs, hc⟩ := ih (cs.set (off + i) v) off (i + 1) (setCell_get (v := v) (j := off + i) h) (by simp at hl ⊢; omega) (fun u hu => hv u (List.mem_cons_of_mem _ hu))
    refine ⟨w', ?_, hg, ho, ht, hu, by rw [hs]; simp [World.setCell], fun c hcb => by rw [hc c hcb, setCell_other hcb]⟩
    have hadd : (⟨b, off, none⟩ : Addr).add i = ⟨b, off + i, none⟩ := add_add _ 0 i rfl
    simp only [storeCells, Sem.run_bind, hadd, h1, Result.andThen_ok]
    exact hr

def oneCells : List Value → Bool
  | [] => true
  | v :: r => v.oneCell' && oneCells r
theorem oneCells_mem {l : List Value} (h : oneCells l = true) : ∀ v ∈ l, v.oneCell' = true := by
  induction l with
  | nil => simp
  | cons u l ih =>
    simp only [oneCells, Bool.and_eq_true] at h
    intro v hv
    rcases List.mem_cons.1 hv with rfl | hv
    · exact h.1
    · exact ih h.2 v hv

/-- a store into a block of one's own, of any number of cells -/
theorem does_storeO (i : Nat) {b off s b_ : Nat} {z : Value} {cs vs : List Value} {T : TypeId} {v : Value} [Sz P t z s b_] (hm : Mem W0 X B L w) (hx : ev E x = some (.pointer (some ⟨b, off, none⟩))) (hy : ev E y = some v)
    (hL : L[i]? = some (.blk b (.cells cs.toArray T (0, 0)))) (hv : v.cells = vs.toArray) (ho : oneCells vs = true) (hs : Nat.beq vs.length s = true) (hl : Nat.ble (off + vs.length) cs.length = true)
    (k : ∀ w', Mem W0 X B (L.set i (.blk b (.cells (splice cs off vs).toArray T (0, 0)))) w' → Φ undef w') : Does P (.store t x y) ty E w Φ := by
  obtain ⟨w', hr, hg, hos, ht, hu, hsz, hc⟩ := run_storeCells (P := P) vs cs off 0 (mem_idx hm hL) (by simpa using Nat.le_of_ble_eq_true hl) (oneCells_mem ho)
  have hs' := Nat.eq_of_beq_eq_true hs
  refine does_store_of hx hy (w' := w') ?_ (k w' (hm.update i hL hos ht hu (Nat.le_of_eq hsz.symm) hg (fun c hcb _ => hc c hcb)))
  simp only [storeVar, Sem.run_bind, run_size (P := P) (t := t), Result.andThen_ok, hv]
  simp [hs', hr]

/-! ### A struct or an array made of its parts -/
def fillL (ps : List (Nat × Nat)) (cs : List Value) : List (Nat × Value) → Option (List Value)
  | [] => some cs
  | (i, v) :: rest => match ps[i]? with
    | none => none
    | some (off, size) => bif Nat.beq v.cells.toList.length size && Nat.ble (off + v.cells.toList.length) cs.length then fillL ps (splice cs off v.cells.toList) rest else none

theorem splice_length : ∀ (vs cs : List Value) (off : Nat), (splice cs off vs).length = cs.length
  | [], _, _ => rfl
  | v :: vs, cs, off => by simp [splice, splice_length vs]

theorem foldl_splice : ∀ (vs : List Value) (cs : List Value) (off i : Nat),
    ((vs.zipIdx i).foldl (fun (a : Array Value) (x : Value × Nat) => a.setIfInBounds (off + x.2) x.1) cs.toArray) = (splice cs (off + i) vs).toArray
  | [], cs, off, i => by simp [splice]
  | v :: vs, cs, off, i => by
    simp only [List.zipIdx_cons, List.foldl_cons, splice]
    have := foldl_splice vs (cs.set (off + i) v) off (i + 1)
    simpa [Nat.add_assoc] using this

theorem fill_eq (ps : List (Nat × Nat)) (place : Nat → Option (Nat × Nat)) (hp : ∀ i, place i = ps[i]?) : ∀ (parts : List (Nat × Value)) (cs cs' : List Value), fillL ps cs parts = some cs' →
    Instr.fill place cs.toArray parts = some cs'.toArray
  | [], cs, cs', h => by simp only [fillL, Option.some.injEq] at h; subst h; rfl
  | (i, v) :: rest, cs, cs', h => by
    simp only [fillL] at h
    simp only [Instr.fill, hp]
    cases hq : ps[i]? with
    | none => simp [hq] at h
    | some p =>
      obtain ⟨off, size⟩ := p
      simp only [hq] at h
      cases hc : (Nat.beq v.cells.toList.length size && Nat.ble (off + v.cells.toList.length) cs.length) with
      | false => rw [hc] at h; simp at h
      | true =>
        rw [hc] at h
        simp only [cond_true] at h
        simp only [Bool.and_eq_true] at hc
        have h1 : v.cells.size = size := by have := Nat.eq_of_beq_eq_true hc.1; simpa using this
        have h2 : off + v.cells.size ≤ cs.length := by have := Nat.le_of_ble_eq_true hc.2; simpa using this
        have ih := fill_eq ps place hp rest _ _ h
        have hf : v.cells.zipIdx.foldl (fun (cs : Array Value) (x : Value × Nat) => cs.setIfInBounds (off + x.2) x.1) cs.toArray = (splice cs off v.cells.toList).toArray := by
          rw [← Array.foldl_toList]
          have := foldl_splice v.cells.toList cs off 0
          simpa using this
        simp only [h1, ne_eq, not_true_eq_false, decide_false, Bool.false_or, List.size_toArray]
        rw [if_neg (by simp; omega)]
        exact (congrArg (fun a => Instr.fill place a rest) hf).trans ih

theorem mapM_pure_list {α β : Type} (f : α → Sem β) (g : α → β) (w : World) : ∀ (l : List α), (∀ x ∈ l, (f x).run P w = .ok (g x) w) → (l.mapM f).run P w = .ok (l.map g) w
  | [], _ => by simp
  | x :: l, h => by
    have ih := mapM_pure_list f g w l (fun y hy => h y (List.mem_cons_of_mem _ hy))
    simp only [List.mapM_cons, Sem.run_bind, h x (List.mem_cons_self ..), ih, Result.andThen_ok, Sem.run_pure, List.map_cons]

def evp (E : Env) : List (Nat × Operand) → Option (List (Nat × Value))
  | [] => some []
  | (i, x) :: r => match ev E x with
    | none => none
    | some v => match evp E r with
      | none => none
      | some vs => some ((i, v) :: vs)

theorem evp_map {ρ : Operand → Value} (hρ : Sat E ρ) : ∀ (l : List (Nat × Operand)) (us : List (Nat × Value)), evp E l = some us → l.map (fun (i, x) => (i, ρ x)) = us := by
  intro l
  induction l with
  | nil => intro us h; simp [evp] at h; simp [h]
  | cons z l ih =>
    obtain ⟨i, z⟩ := z
    intro us h
    simp only [evp] at h
    split at h
    · cases h
    · rename_i v hv
      split at h
      · cases h
      · rename_i vs' hvs
        simp only [Option.some.injEq] at h
        subst h
        simp [ih _ hvs, hρ _ _ hv]

theorem run_build {zs cs : List Value} {ps : List (Nat × Nat)} {parts : List (Nat × Value)} [hz : ZeroC P t zs] [hp : Parts P t ps] (hf : fillL ps zs parts = some cs) : (Instr.build t parts.toArray).run P w = .ok (.agg cs.toArray) w := by
  obtain ⟨i, hi, z, h1, h2, h3⟩ := hz.out
  have hrz : (zeroValue t).run P w = .ok z w := by simp [zeroValue, typeInfo, hi, h1]
  rcases hp.out with ⟨fs, hu, hps, hall⟩ | ⟨n, e, hu, hps, hall⟩
  · have hm : (fs.toList.mapM fun f => (do pure (f.offset, ← sizeOf f.type) : Sem (Nat × Nat))).run P w = .ok ps w := by
      rw [← hps]
      refine mapM_pure_list _ _ w _ fun f hf => ?_
      have := List.all_eq_true.1 hall f hf
      cases hq : P.info? f.type with
      | none => simp [hq] at this
      | some j => simp [sizeOf, typeInfo, hq, Program.cellsOf]
    have hfe := fill_eq ps (fun i => ps.toArray[i]?) (fun i => by simp) parts zs cs hf
    simp only [Instr.build, Sem.run_bind, hrz, Result.andThen_ok, run_underlying hu, Array.mapM_eq_mapM_toList, Sem.run_map, hm, h2, hfe]
    simp
  · cases hq : P.info? e with
    | none => simp [hq] at hall
    | some j =>
      have hsz : (sizeOf e).run P w = .ok (P.cellsOf e) w := by simp [sizeOf, typeInfo, hq, Program.cellsOf]
      have hlt : ∀ (q : List (Nat × Value)) (c c' : List Value), fillL ps c q = some c' → ∀ x ∈ q, x.1 < n := by
        intro q
        induction q with
        | nil => intro c c' _ x hx; cases hx
        | cons y q ih =>
          intro c c' h x hx
          obtain ⟨i, v⟩ := y
          simp only [fillL] at h
          cases hy : ps[i]? with
          | none => simp [hy] at h
          | some p =>
            obtain ⟨off, size⟩ := p
            simp only [hy] at h
            rcases List.mem_cons.1 hx with rfl | hx
            · have := (List.getElem?_eq_some_iff.1 hy).1
              rw [← hps] at this
              simpa using this
            · cases hc : (Nat.beq v.cells.toList.length size && Nat.ble (off + v.cells.toList.length) c.length) with
              | false => rw [hc] at h; simp at h
              | true => rw [hc] at h; simp only [cond_true] at h; exact ih _ _ h x hx
      have hfe : Instr.fill (fun i => some (i * P.cellsOf e, P.cellsOf e)) zs.toArray parts = some cs.toArray := by
        have hgen : ∀ (q : List (Nat × Value)) (c : Array Value), (∀ x ∈ q, x.1 < n) → Instr.fill (fun i => some (i * P.cellsOf e, P.cellsOf e)) c q = Instr.fill (fun i => ps[i]?) c q := by
          intro q
          induction q with
          | nil => intro c _; rfl
          | cons y q ih =>
            intro c hq
            obtain ⟨i, v⟩ := y
            have hi' : ps[i]? = some (i * P.cellsOf e, P.cellsOf e) := by
              rw [← hps]
              simp [hq (i, v) (List.mem_cons_self ..)]
            simp only [Instr.fill, hi']
            split
            · rfl
            · exact ih _ fun x hx => hq x (List.mem_cons_of_mem _ hx)
        rw [hgen parts _ (hlt parts zs cs hf)]
        exact fill_eq ps (fun i => ps[i]?) (fun _ => rfl) parts zs cs hf
      simp only [Instr.build, Sem.run_bind, hrz, Result.andThen_ok, run_underlying hu, hsz, h2, hfe]
      simp

theorem does_build {zs cs : List Value} {ps : List (Nat × Nat)} {parts : List (Nat × Operand)} {vs : List (Nat × Value)} [ZeroC P t zs] [Parts P t ps] (hx : evp E parts = some vs) (hf : fillL ps zs vs = some cs) (k : Φ (.agg cs.toArray) w) :
    Does P (.build t parts.toArray) ty E w Φ := by
  refine does_of (fun ρ hρ => ?_)
  have : (execOp ρ (mk (.build t parts.toArray) ty)).run P w = .ok (.value (.agg cs.toArray)) w := by
    simp only [execOp, mk, List.map_toArray, evp_map hρ _ _ hx, Sem.run_bind, run_build (P := P) (w := w) hf, Result.andThen_ok, Sem.run_pure]
  rw [this]; exact k

/-! ### Addresses of elements -/
theorem does_indexS {e : TypeId} {z : Value} {s b_ n c : Nat} {q : Addr} {j : IntKind} {m : Int} (h0 : 0 ≤ m ∧ m < n) [hs : SliceT P t e] [Sz P e z s b_] (hx : ev E x = some (.slice (some q) n c)) (hy : ev E y = some (.int j m))
    (k : Φ (.pointer (some (q.add (m.toNat * s)))) w) : Does P (.indexAddr t x y) ty E w Φ := by
  refine does_of (fun ρ hρ => ?_)
  have : (execOp ρ (mk (.indexAddr t x y) ty)).run P w = .ok (.value (.pointer (some (q.add (m.toNat * s))))) w := by
    simp only [execOp, mk, Instr.indexAt, hρ _ _ hx, hρ _ _ hy, asIntOf, Sem.run_bind, Sem.run_pure, Result.andThen_ok, run_underlying hs.out, run_size (P := P) (t := e)]
    simp [h0, run_size (P := P) (t := e)]
  rw [this]; exact k

theorem does_indexS1 {e : TypeId} {z : Value} {b_ n c i : Nat} {q : Addr} {j : IntKind} (hlt : i < n) [hs : SliceT P t e] [Sz P e z 1 b_] (hx : ev E x = some (.slice (some q) n c)) (hy : ev E y = some (.int j i))
    (k : Φ (.pointer (some (q.add i))) w) : Does P (.indexAddr t x y) ty E w Φ :=
  does_indexS (m := i) (by omega) hx hy (by simpa using k)

theorem does_indexSn {e : TypeId} {z : Value} {s b_ n c i : Nat} {q : Addr} {j : IntKind} (hlt : i < n) [hs : SliceT P t e] [Sz P e z s b_] (hx : ev E x = some (.slice (some q) n c)) (hy : ev E y = some (.int j i))
    (k : Φ (.pointer (some (q.add (i * s)))) w) : Does P (.indexAddr t x y) ty E w Φ :=
  does_indexS (m := i) (by omega) hx hy (by simpa using k)

/-- an element of an array behind a pointer -/
theorem does_indexP {e : TypeId} {z : Value} {s b_ n : Nat} {q : Addr} {j : IntKind} {m : Int} (h0 : 0 ≤ m ∧ m < n) [hs : ArrT P t n e] [Sz P e z s b_] (hx : ev E x = some (.pointer (some q))) (hy : ev E y = some (.int j m))
    (k : Φ (.pointer (some (q.add (m.toNat * s)))) w) : Does P (.indexAddr t x y) ty E w Φ := by
  refine does_of (fun ρ hρ => ?_)
  have : (execOp ρ (mk (.indexAddr t x y) ty)).run P w = .ok (.value (.pointer (some (q.add (m.toNat * s))))) w := by
    simp only [execOp, mk, Instr.indexAt, hρ _ _ hx, hρ _ _ hy, asIntOf, Sem.run_bind, Sem.run_pure, Result.andThen_ok, run_underlying hs.out, run_size (P := P) (t := e), Instr.sureAddr]
    simp [h0, run_size (P := P) (t := e)]
  rw [this]; exact k

theorem does_indexPL {e : TypeId} {z : Value} {s b_ n b o : Nat} {j : IntKind} {m : Int} (h0 : 0 ≤ m ∧ m < n) [hs : ArrT P t n e] [Sz P e z s b_] (hx : ev E x = some (.pointer (some ⟨b, o, none⟩))) (hy : ev E y = some (.int j m))
    (k : Φ (.pointer (some ⟨b, o + m.toNat * s, none⟩)) w) : Does P (.indexAddr t x y) ty E w Φ :=
  does_indexP h0 hx hy (by rw [add_add _ 0 _ rfl]; exact k)

/-! ### Parts of values -/
theorem does_fieldV {n off : Nat} {cs : List Value} {u : Value} (hx : ev E x = some (.agg cs.toArray)) (hr : ∀ w, (Instr.field t (.agg cs.toArray) n).run P w = .ok u w) (k : Φ u w) : Does P (.field t x n) ty E w Φ := by
  refine does_of (fun ρ hρ => ?_)
  have : (execOp ρ (mk (.field t x n) ty)).run P w = .ok (.value u) w := by
    simp [execOp, mk, hρ _ _ hx, hr]
  rw [this]; exact k

/-! ### Function values -/
theorem does_makeFunc {f : Fn} {fi ca : List Operand} {us vs : List Value} (h1 : evs E fi = some us) (h2 : evs E ca = some vs) (k : Φ (.func f us.toArray vs.toArray) w) : Does P (.makeFunc f fi.toArray ca.toArray) ty E w Φ := by
  refine does_of (fun ρ hρ => ?_)
  have : (execOp ρ (mk (.makeFunc f fi.toArray ca.toArray) ty)).run P w = .ok (.value (.func f us.toArray vs.toArray)) w := by
    simp [execOp, mk, Instr.makeFunc, evs_map hρ _ _ h1, evs_map hρ _ _ h2]
  rw [this]; exact k

theorem does_fun' {f : FuncId} {args : List Operand} {ats : Array TypeId} {vs : List Value} {v : Value} (hm : Mem W0 X B L w) [hen : En P f] (hx : evs E args = some vs) (hc : Fun P f vs v)
    (k : ∀ w', Mem W0 X B L w' → Φ v w') : Does P (.call { callee := .value (.func f), args := args.toArray, argTypes := ats }) ty E w Φ :=
  does_funM hm hen.out hx hc k

/-- a call of a function value -/
theorem does_funV {f : FuncId} {args : List Operand} {ats : Array TypeId} {first vs cap us : List Value} {v : Value} {c : Operand} (hm : Mem W0 X B L w) (hf : ev E c = some (.func (.func f) first.toArray cap.toArray)) (hx : evs E args = some vs)
    (hus : first ++ vs ++ cap = us) [hen : En P f] (hc : Fun P f us v)
    (k : ∀ w', Mem W0 X B L w' → Φ v w') : Does P (.call { callee := .value c, args := args.toArray, argTypes := ats }) ty E w Φ :=
  does_callV hen.out hf hx (by rw [hus]; exact (hc.out w).mono fun _ w' ⟨he, hw⟩ => ⟨v, he, k w' (hm.ext hw)⟩)
end

/-! ### Results that lie in memory -/
def RV (P : Program) (w : World) (E : Env) : ResultVar → Value → Prop
  | .tmp t, v => Env.get E t = some v
  | .cell a t, v => ∃ q, Env.get E a = some (.pointer (some q)) ∧ (loadVar t q).run P w = .ok v w

def RVs (P : Program) (w : World) (E : Env) : List ResultVar → List Value → Prop
  | [], [] => True
  | r :: rs, v :: vs => RV P w E r v ∧ RVs P w E rs vs
  | _, _ => False

theorem rv_cell1 {P : Program} {w W0 : World} {X : List Nat} {B : Heap} {L : List Own} {E : Env} {a b off i : Nat} {t T : TypeId} {cs : List Value} {fz : Nat × Nat} {v : Value} [Scalar P t] (hm : Mem W0 X B L w) (ha : Env.get E a = some (.pointer (some ⟨b, off, none⟩)))
    (hL : L[i]? = some (.blk b (.cells cs.toArray T fz))) (hv : cs[off]? = some v) : RV P w E (.cell a t) v :=
  ⟨_, ha, run_loadVar1 (own_cell (mem_idx hm hL) hv)⟩

theorem rv_cellA {P : Program} {w W0 : World} {X : List Nat} {B : Heap} {L : List Own} {E : Env} {a b i s : Nat} {t T : TypeId} {cs : List Value} {fz : Nat × Nat} [Aggr P t s] (hm : Mem W0 X B L w) (ha : Env.get E a = some (.pointer (some ⟨b, 0, none⟩)))
    (hL : L[i]? = some (.blk b (.cells cs.toArray T fz))) (hl : Nat.beq cs.length s = true) : RV P w E (.cell a t) (.agg cs.toArray) :=
  ⟨_, ha, run_loadVarA (Nat.eq_of_beq_eq_true hl) fun j v hj => by
    rw [show (⟨b, 0, none⟩ : Addr).add j = ⟨b, 0 + j, none⟩ from add_add _ 0 j rfl, Nat.zero_add]
    exact own_cell (mem_idx hm hL) hj⟩

def resOf (a : Act) : ResultVar → Sem Value
  | .tmp t => pure (a.tmps.getD t undef)
  | .cell x t => do loadVar t (← asAddr (a.tmps.getD x undef))

theorem resOf_run {P : Program} {w : World} {E : Env} {n : Nat} {a : Act} (h : Holds E n a) {r : ResultVar} {v : Value} (h1 : RV P w E r v) : (resOf a r).run P w = .ok v w := by
  cases r with
  | tmp t =>
    have := h.get t v h1
    simp [resOf, this]
  | cell x t =>
    obtain ⟨q, hq, hl⟩ := h1
    have := h.get x _ hq
    simp [resOf, this, asAddr, hl]

theorem results_run {P : Program} {w : World} {E : Env} {n : Nat} {a : Act} (h : Holds E n a) : ∀ (rs : List ResultVar) (vs : List Value), RVs P w E rs vs → (rs.mapM (resOf a)).run P w = .ok vs w
  | [], [], _ => by simp
  | r :: rs, v :: vs, ⟨h1, h2⟩ => by
    have ih := results_run h rs vs h2
    simp only [List.mapM_cons, Sem.run_bind, resOf_run h h1, ih, Result.andThen_ok, Sem.run_pure]
  | [], _ :: _, h => h.elim
  | _ :: _, [], h => h.elim

theorem results_eq (fn : Func) (a : Act) : results fn a.tmps = (do let vs ← fn.results.mapM (resOf a); pure (if h : vs.size = 1 then vs[0] else .tuple vs)) := by
  unfold results
  congr 2

def packed : List Value → Value
  | [v] => v
  | vs => .tuple vs.toArray

theorem k_ret {P : Program} {fn : Func} {R : Value → World → Prop} {a : Act} {w W0 : World} {X : List Nat} {B : Heap} {L : List Own} {E : Env} {n : Nat} {rs : List ResultVar} {vs : List Value} (hr : fn.results = rs.toArray) (h : Holds E n a) (hm : Mem W0 X B L w) (hv : ∀ w, Mem W0 X B L w → RVs P w E rs vs) (k : R (packed vs) w) :
    Cont (Post P fn R) .ret a w := by
  refine ⟨show a.defers = [] ∧ ∃ u, (∀ d, (results fn a.tmps).run P (w.at d) = .ok u (w.at d)) ∧ R u w from ⟨h.defers, packed vs, fun d => ?_, k⟩⟩
  have := results_run (P := P) (w := w.at d) h rs vs (hv _ (hm.at d))
  rw [results_eq, hr, Array.mapM_eq_mapM_toList]
  simp only [Sem.run_bind, Sem.run_map, this, Result.andThen_ok, Sem.run_pure]
  rcases vs with _ | ⟨v, _ | ⟨u, vs⟩⟩ <;> simp [packed]

end Go.Proofs.Ytedgbmefajnjeaa.St
