/-
  Which pieces of the model's own language write nothing, and read only where a condition says: what an operation lists.
-/
import Derived.Test.YtedgbmefajnjeaaCoK
namespace Go.Proofs.Ytedgbmefajnjeaa.Co
open Go Go.Conc

def RD {α : Type} (P : Program) (p : Addr → Prop) : Sem α → Prop
  | .pure _ => True
  | .load _ a k => p a ∧ ∀ v, RD P p (k v)
  | .store _ _ _ _ => False
  | .new _ k => ∀ r, RD P p (k r)
  | .shape _ k => ∀ s, RD P p (k s)
  | .freeze _ _ _ => False
  | .frozen _ k => ∀ b, RD P p (k b)
  | .getObj _ k => ∀ o, RD P p (k o)
  | .setObj _ _ _ => False
  | .choose _ k => ∀ n, RD P p (k n)
  | .sys _ _ => False
  | .program k => RD P p (k P)
  | .mark m k => Neutral m ∧ RD P p k
  | .halt _ => True

section
variable {P : Program} {p : Addr → Prop}
theorem rd_bind' {α β : Type} {f : α → Sem β} (hf : ∀ a, RD P p (f a)) : ∀ {s : Sem α}, RD P p s → RD P p (s.bind f) := by
  intro s
  induction s with
  | pure a => exact fun _ => hf a
  | load m a k ih => exact fun h => ⟨h.1, fun v => ih v (h.2 v)⟩
  | store m a v k ih => exact fun h => h.elim
  | new o k ih => exact fun h v => ih v (h v)
  | shape r k ih => exact fun h v => ih v (h v)
  | freeze a n k ih => exact fun h => h.elim
  | frozen a k ih => exact fun h v => ih v (h v)
  | getObj r k ih => exact fun h v => ih v (h v)
  | setObj r o k ih => exact fun h => h.elim
  | choose q k ih => exact fun h v => ih v (h v)
  | sys c k ih => exact fun h => h.elim
  | program k ih => exact fun h => ih P h
  | mark m k ih => exact fun h => ⟨h.1, ih h.2⟩
  | halt h => exact fun _ => trivial
theorem rd_bind {α β : Type} {s : Sem α} {f : α → Sem β} (hs : RD P p s) (hf : ∀ a, RD P p (f a)) : RD P p (s >>= f) := rd_bind' hf hs
theorem rd_map {α β : Type} {s : Sem α} {f : α → β} (hs : RD P p s) : RD P p (f <$> s) := rd_bind' (f := fun a => Sem.pure (f a)) (fun _ => trivial) hs
theorem rd_load {a : Addr} {m : Mode} (h : p a) : RD P p (load a m) := ⟨h, fun _ => trivial⟩
theorem rd_new {o : Obj} : RD P p (newObj o) := fun _ => trivial
theorem rd_shape {r : Nat} : RD P p (shape r) := fun _ => trivial
theorem rd_getObj {r : Nat} : RD P p (getObj r) := fun _ => trivial
theorem rd_choose {q : Question} : RD P p (choose q) := fun _ => trivial
theorem rd_program : RD P p program := trivial
theorem rd_mapM {α β : Type} {f : α → Sem β} (h : ∀ a, RD P p (f a)) : ∀ l : List α, RD P p (l.mapM f)
  | [] => by simp only [List.mapM_nil]; exact trivial
  | a :: l => by
    simp only [List.mapM_cons]
    exact rd_bind (h a) fun b => rd_bind (rd_mapM h l) fun _ => trivial
theorem rd_mapMA {α β : Type} {f : α → Sem β} (h : ∀ a, RD P p (f a)) (l : Array α) : RD P p (l.mapM f) := by
  rw [Array.mapM_eq_mapM_toList]
  exact rd_map (rd_mapM h _)

/-- what it lists: no write; no mark but a neutral one; cells as the condition says -/
structure Rd (p : Addr → Prop) (e : Event) : Prop where
  nw : e.write = false
  mark : ∀ m, e.loc = .mark m → Neutral m
  at_ : ∀ a, e.loc = .cell a → p a

theorem rd_runT {α : Type} : ∀ {s : Sem α}, RD P p s → ∀ (w : World) (es : Array Event), (∀ a, p a → ∃ cs t fz, w.heap[a.block]? = some (.cells cs t fz)) → (∀ e ∈ es, Rd p e) → ∀ e ∈ (s.runT P w es).2, Rd p e := by
  have push : ∀ {es : Array Event} {e : Event}, (∀ e ∈ es, Rd p e) → Rd p e → ∀ x ∈ es.push e, Rd p x := fun h he x hx => by
    rcases Array.mem_push.1 hx with hx | rfl
    · exact h x hx
    · exact he
  intro s
  induction s with
  | pure a => exact fun _ _ _ _ h => h
  | load m a k ih =>
    intro h w es hc he
    simp only [Sem.runT]
    split
    · exact ih _ (h.2 _) _ _ hc (push he ⟨rfl, fun m => by simp, fun b hb => by simp only [Loc.cell.injEq] at hb; subst hb; exact h.1⟩)
    · obtain ⟨cs, t, fz, hcell⟩ := hc a h.1
      have : w.farLoad P a (m == .atomic) = .error (w.noCell a "load: no such cell") := by simp [World.farLoad, hcell]
      rw [this]
      exact he
  | store m a v k ih => exact fun h => h.elim
  | new o k ih =>
    intro h w es hc he
    refine ih _ (h _) _ _ (fun a ha => ?_) he
    obtain ⟨cs, t, fz, hcell⟩ := hc a ha
    refine ⟨cs, t, fz, ?_⟩
    have hlt := (Array.getElem?_eq_some_iff.1 hcell).1
    simp only [Array.getElem?_push]
    rw [if_neg (by omega)]
    exact hcell
  | shape r k ih => exact fun h w es hc he => ih _ (h _) _ _ hc he
  | freeze a n k ih => exact fun h => h.elim
  | frozen a k ih => exact fun h w es hc he => ih _ (h _) _ _ hc he
  | getObj r k ih =>
    intro h w es hc he
    simp only [Sem.runT]
    split
    · exact he
    · exact ih _ (h _) _ _ hc (push he ⟨rfl, fun m => by simp, fun b hb => by simp at hb⟩)
    · exact he
  | setObj r o k ih => exact fun h => h.elim
  | choose q k ih =>
    intro h w es hc he
    simp only [Sem.runT]
    split
    · exact ih _ (h _) _ _ hc he
    · exact ih _ (h _) _ _ hc he
  | sys c k ih => exact fun h => h.elim
  | program k ih => exact fun h w es hc he => ih _ h _ _ hc he
  | mark m k ih =>
    intro h w es hc he
    refine ih h.2 _ _ hc (push he ⟨rfl, fun m' hm => ?_, fun b hb => by simp at hb⟩)
    simp only [Loc.mark.injEq] at hm
    subst hm
    exact h.1
  | halt x => exact fun _ _ _ _ h => h

theorem rd_events {α : Type} {s : Sem α} (h : RD P p s) {w : World} (hc : ∀ a, p a → ∃ cs t fz, w.heap[a.block]? = some (.cells cs t fz)) : ∀ e ∈ s.events P w #[], Rd p e :=
  rd_runT h w #[] hc fun e he => by simp at he

/-- wherever it reads: no write, and no mark but a neutral one -/
theorem nw_runT {α : Type} : ∀ {s : Sem α}, RD P p s → ∀ (w : World) (es : Array Event), (∀ e ∈ es, e.write = false) → ∀ e ∈ (s.runT P w es).2, e.write = false := by
  have push : ∀ {es : Array Event} {e : Event}, (∀ e ∈ es, e.write = false) → e.write = false → ∀ x ∈ es.push e, x.write = false := fun h he x hx => by
    rcases Array.mem_push.1 hx with hx | rfl
    · exact h x hx
    · exact he
  intro s
  induction s with
  | pure a => exact fun _ _ _ h => h
  | load m a k ih =>
    intro h w es he
    simp only [Sem.runT]
    split
    · exact ih _ (h.2 _) _ _ (push he rfl)
    · split
      · refine ih _ (h.2 _) _ _ fun e hx => ?_
        rcases Array.mem_append.1 hx with hx | hx
        · exact he e hx
        · obtain ⟨y, _, rfl⟩ := Array.mem_map.1 hx
          rfl
      · exact he
  | store m a v k ih => exact fun h => h.elim
  | new o k ih => exact fun h w es he => ih _ (h _) _ _ he
  | shape r k ih => exact fun h w es he => ih _ (h _) _ _ he
  | freeze a n k ih => exact fun h => h.elim
  | frozen a k ih => exact fun h w es he => ih _ (h _) _ _ he
  | getObj r k ih =>
    intro h w es he
    simp only [Sem.runT]
    split
    · exact he
    · exact ih _ (h _) _ _ (push he rfl)
    · exact he
  | setObj r o k ih => exact fun h => h.elim
  | choose q k ih =>
    intro h w es he
    simp only [Sem.runT]
    split
    · exact ih _ (h _) _ _ he
    · exact ih _ (h _) _ _ he
  | sys c k ih => exact fun h => h.elim
  | program k ih => exact fun h w es he => ih _ h _ _ he
  | mark m k ih => exact fun h w es he => ih h.2 _ _ (push he rfl)
  | halt x => exact fun _ _ _ h => h

theorem nw_events {α : Type} {s : Sem α} (h : RD P p s) {w : World} : ∀ e ∈ s.events P w #[], e.write = false := nw_runT h w #[] fun e he => by simp at he

/-! ### The library's small pieces -/
theorem rd_typeInfo {t : TypeId} : RD P p (typeInfo t) := by
  unfold typeInfo
  refine rd_bind rd_program fun _ => ?_
  split <;> exact trivial
theorem rd_underlying {t : TypeId} : RD P p (underlying t) := by
  unfold underlying
  refine rd_bind rd_program fun _ => ?_
  split <;> exact trivial
theorem rd_zeroValue {t : TypeId} : RD P p (zeroValue t) := by
  unfold zeroValue
  refine rd_bind rd_typeInfo fun _ => ?_
  split <;> exact trivial
theorem rd_sizeOf {t : TypeId} : RD P p (sizeOf t) := rd_bind rd_typeInfo fun _ => trivial
theorem rd_isAgg {t : TypeId} : RD P p (isAgg t) := by
  unfold isAgg
  refine rd_bind rd_underlying fun _ => ?_
  split <;> exact trivial
theorem rd_loadCellsFrom {a : Addr} (h : ∀ i, p (a.add i)) : ∀ (n i : Nat) (acc : Array Value), RD P p (loadCellsFrom a i n acc)
  | 0, _, _ => trivial
  | n + 1, i, _ => rd_bind (rd_load (h i)) fun _ => rd_loadCellsFrom h n (i + 1) _
theorem rd_loadVar {t : TypeId} {a : Addr} (h0 : p a) (h : ∀ i, p (a.add i)) : RD P p (loadVar t a) := by
  unfold loadVar
  refine rd_bind rd_isAgg fun _ => ?_
  split
  · exact rd_bind rd_sizeOf fun _ => rd_bind (rd_loadCellsFrom h _ _ _) fun _ => trivial
  · exact rd_load h0
theorem rd_newRow {t : TypeId} {cs : Array Value} : RD P p (newRow t cs) := rd_bind rd_new fun _ => trivial
theorem rd_newVar {t : TypeId} {v : Value} : RD P p (newVar t v) := rd_newRow
theorem rd_sureAddr {v : Value} : RD P p (Instr.sureAddr v) := by
  unfold Instr.sureAddr
  split <;> exact trivial
theorem rd_fieldPlace {a : Addr} {f : Field} : RD P p (fieldPlace a f) := by
  unfold fieldPlace
  refine rd_bind rd_sizeOf fun _ => ?_
  split
  · unfold partAt byteOf
    repeat' (first | exact trivial | exact rd_program | exact rd_shape | exact rd_getObj | refine rd_bind ?_ (fun _ => ?_) | split | dsimp only)
  · exact trivial
theorem rd_fieldAt {s : TypeId} {v : Value} {i : Nat} : RD P p (Instr.fieldAt s v i) := by
  unfold Instr.fieldAt
  refine rd_bind rd_underlying fun _ => ?_
  split
  · split
    · exact rd_bind rd_sureAddr fun _ => rd_bind rd_fieldPlace fun _ => trivial
    · exact trivial
  · exact trivial
theorem rd_build {t : TypeId} {parts : Array (Nat × Value)} : RD P p (Instr.build t parts) := by
  unfold Instr.build
  refine rd_bind rd_zeroValue fun _ => rd_bind rd_underlying fun _ => ?_
  split
  · refine rd_bind (rd_mapMA (by intro f; exact rd_bind rd_sizeOf fun _ => trivial) _) fun _ => ?_
    split <;> exact trivial
  · refine rd_bind rd_sizeOf fun _ => ?_
    split <;> exact trivial
  · exact trivial
theorem rd_buildSlice {t : TypeId} {n : Nat} {parts : Array (Nat × Value)} : RD P p (Instr.buildSlice t n parts) := by
  unfold Instr.buildSlice
  dsimp only
  repeat' (first | exact trivial | exact rd_underlying | exact rd_sizeOf | exact rd_zeroValue | exact rd_newRow | refine rd_bind ?_ (fun _ => ?_) | split)
theorem rd_extract {v : Value} {i : Nat} : RD P p (Instr.extract v i) := by
  unfold Instr.extract
  split
  · split <;> exact trivial
  · exact trivial
theorem rd_v {s : Sem Value} (h : RD P p s) : RD P p (do pure (.value (← s)) : Sem Next) := rd_bind h fun _ => trivial
theorem rd_binI {op : BinOp} {t : TypeId} {j k : IntKind} {m n : Int} : RD P p (binOp op t (.int j m) (.int k n)) := by
  cases op <;> simp only [binOp, Op.intArith, Op.intCmp, Op.intBits, Op.intDiv, Op.shift, runtimePanic] <;>
  (repeat' (first | exact trivial | exact rd_program | exact rd_underlying | exact rd_newRow | refine rd_bind ?_ (fun _ => ?_) | split))
end
end Go.Proofs.Ytedgbmefajnjeaa.Co
