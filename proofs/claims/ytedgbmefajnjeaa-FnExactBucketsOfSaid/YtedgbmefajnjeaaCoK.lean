/-
  Which pieces of the model's own language lay no mark but a neutral one: what an operation lists is then mild.
-/
import Derived.Test.YtedgbmefajnjeaaCoR
namespace Go.Proofs.Ytedgbmefajnjeaa.Co
open Go Go.Conc

def NM {α : Type} (P : Program) : Sem α → Prop
  | .pure _ => True
  | .load _ _ k => ∀ v, NM P (k v)
  | .store _ _ _ k => NM P k
  | .new _ k => ∀ r, NM P (k r)
  | .shape _ k => ∀ s, NM P (k s)
  | .freeze _ _ k => NM P k
  | .frozen _ k => ∀ b, NM P (k b)
  | .getObj _ k => ∀ o, NM P (k o)
  | .setObj _ _ k => NM P k
  | .choose _ k => ∀ n, NM P (k n)
  | .sys _ k => ∀ r, NM P (k r)
  | .program k => NM P (k P)
  | .mark m k => Neutral m ∧ NM P k
  | .halt _ => True

theorem nm_bind' {α β : Type} {P : Program} {f : α → Sem β} (hf : ∀ a, NM P (f a)) : ∀ {s : Sem α}, NM P s → NM P (s.bind f) := by
  intro s
  induction s with
  | pure a => exact fun _ => hf a
  | load m a k ih => exact fun h v => ih v (h v)
  | store m a v k ih => exact fun h => ih h
  | new o k ih => exact fun h v => ih v (h v)
  | shape r k ih => exact fun h v => ih v (h v)
  | freeze a n k ih => exact fun h => ih h
  | frozen a k ih => exact fun h v => ih v (h v)
  | getObj r k ih => exact fun h v => ih v (h v)
  | setObj r o k ih => exact fun h => ih h
  | choose q k ih => exact fun h v => ih v (h v)
  | sys c k ih => exact fun h v => ih v (h v)
  | program k ih => exact fun h => ih P h
  | mark m k ih => exact fun h => ⟨h.1, ih h.2⟩
  | halt h => exact fun _ => trivial
theorem nm_bind {α β : Type} {P : Program} {s : Sem α} {f : α → Sem β} (hs : NM P s) (hf : ∀ a, NM P (f a)) : NM P (s >>= f) := nm_bind' hf hs
theorem nm_map {α β : Type} {P : Program} {s : Sem α} {f : α → β} (hs : NM P s) : NM P (f <$> s) := nm_bind' (f := fun a => Sem.pure (f a)) (fun _ => trivial) hs
theorem nm_pure {α : Type} {P : Program} {a : α} : NM P (pure a : Sem α) := trivial
theorem nm_pure' {α : Type} {P : Program} {a : α} : NM P (Sem.pure a) := trivial
theorem nm_ite {α : Type} {P : Program} {c : Prop} [Decidable c] {a b : Sem α} (ha : NM P a) (hb : NM P b) : NM P (if c then a else b) := by split <;> assumption
theorem nm_halt {α : Type} {P : Program} {h : Halt} : NM P (Sem.halt h : Sem α) := trivial
theorem nm_stuck {α : Type} {P : Program} {s : String} : NM P (stuck s : Sem α) := trivial
theorem nm_unsup {α : Type} {P : Program} {u : Unsupported} : NM P (unsupported u : Sem α) := trivial
theorem nm_panic {α : Type} {P : Program} {v : Value} : NM P (goPanic v : Sem α) := trivial
theorem nm_load {P : Program} {a : Addr} {m : Mode} : NM P (load a m) := fun _ => trivial
theorem nm_store {P : Program} {a : Addr} {v : Value} {m : Mode} : NM P (store a v m) := trivial
theorem nm_new {P : Program} {o : Obj} : NM P (newObj o) := fun _ => trivial
theorem nm_shape {P : Program} {r : Nat} : NM P (shape r) := fun _ => trivial
theorem nm_frozen {P : Program} {a : Addr} : NM P (frozen a) := fun _ => trivial
theorem nm_getObj {P : Program} {r : Nat} : NM P (getObj r) := fun _ => trivial
theorem nm_choose {P : Program} {q : Question} : NM P (choose q) := fun _ => trivial
theorem nm_program {P : Program} : NM P program := trivial
theorem nm_room {P : Program} {n : Nat} : NM P (askRoom n) := by
  unfold askRoom
  split
  · exact ⟨rfl, trivial⟩
  · exact trivial

theorem mild_sub {es fs : Array Event} (h : Mild es) (hs : ∀ e ∈ fs, e ∈ es ∨ ∀ m, e.loc ≠ .mark m) : Mild fs := fun e he m hm => by
  rcases hs e he with h' | h'
  · exact h e h' m hm
  · exact absurd hm (h' m)

theorem nm_runT {α : Type} {P : Program} : ∀ {s : Sem α}, NM P s → ∀ (w : World) (es : Array Event), Mild es → Mild (s.runT P w es).2 := by
  have push : ∀ {es : Array Event} {e : Event}, Mild es → (∀ m, e.loc ≠ .mark m) → Mild (es.push e) := fun h he => mild_sub h fun x hx => by
    rcases Array.mem_push.1 hx with hx | rfl
    · exact .inl hx
    · exact .inr he
  have app : ∀ {es : Array Event} {l : List Addr} {a b : Bool}, Mild es → Mild (es ++ l.toArray.map (⟨.cell ·, a, b⟩)) := fun h => mild_sub h fun x hx => by
    rcases Array.mem_append.1 hx with hx | hx
    · exact .inl hx
    · obtain ⟨y, _, rfl⟩ := Array.mem_map.1 hx
      exact .inr fun m => by simp
  intro s
  induction s with
  | pure a => exact fun _ _ _ h => h
  | load m a k ih =>
    intro h w es he
    simp only [Sem.runT]
    split
    · exact ih _ (h _) _ _ (push he fun m => by simp)
    · split
      · exact ih _ (h _) _ _ (app he)
      · exact he
  | store m a v k ih =>
    intro h w es he
    unfold Sem.runT
    split <;> rename_i heq <;> (try cases heq) <;> (try exact he)
    all_goals (first | exact he | skip)
    all_goals
      split
      · split
        · exact he
        · exact ih h _ _ (push he fun m => by simp)
      · split
        · exact ih h _ _ (app he)
        · exact he
  | new o k ih => exact fun h w es he => ih _ (h _) _ _ he
  | shape r k ih => exact fun h w es he => ih _ (h _) _ _ he
  | freeze a n k ih => exact fun h w es he => ih h _ _ he
  | frozen a k ih => exact fun h w es he => ih _ (h _) _ _ he
  | getObj r k ih =>
    intro h w es he
    simp only [Sem.runT]
    split
    · exact he
    · exact ih _ (h _) _ _ (push he fun m => by simp)
    · exact he
  | setObj r o k ih =>
    intro h w es he
    simp only [Sem.runT]
    split
    · exact he
    · exact ih h _ _ (push he fun m => by simp)
    · exact he
  | choose q k ih =>
    intro h w es he
    simp only [Sem.runT]
    split
    · exact ih _ (h _) _ _ he
    · exact ih _ (h _) _ _ he
  | sys c k ih => exact fun h w es he => ih _ (h _) _ _ (push he fun m => by simp)
  | program k ih => exact fun h w es he => ih _ h _ _ he
  | mark m k ih =>
    intro h w es he
    refine ih h.2 _ _ fun e hx m' hm => ?_
    rcases Array.mem_push.1 hx with hx | rfl
    · exact he e hx m' hm
    · simp only [Loc.mark.injEq] at hm
      subst hm
      exact h.1
  | halt x => exact fun _ _ _ h => h

theorem nm_events {α : Type} {P : Program} {s : Sem α} (h : NM P s) (w : World) : Mild (s.events P w #[]) := nm_runT h w #[] mild_nil

/-! ### The library's small pieces -/
theorem nm_mapM {α β : Type} {P : Program} {f : α → Sem β} (h : ∀ a, NM P (f a)) : ∀ l : List α, NM P (l.mapM f)
  | [] => by simp only [List.mapM_nil]; exact trivial
  | a :: l => by
    simp only [List.mapM_cons]
    exact nm_bind (h a) fun b => nm_bind (nm_mapM h l) fun _ => trivial
theorem nm_mapMA {α β : Type} {P : Program} {f : α → Sem β} (h : ∀ a, NM P (f a)) (l : Array α) : NM P (l.mapM f) := by
  rw [Array.mapM_eq_mapM_toList]
  exact nm_map (nm_mapM h _)

theorem nm_typeInfo {P : Program} {t : TypeId} : NM P (typeInfo t) := by
  unfold typeInfo
  refine nm_bind nm_program fun _ => ?_
  split <;> exact trivial
theorem nm_underlying {P : Program} {t : TypeId} : NM P (underlying t) := by
  unfold underlying
  refine nm_bind nm_program fun _ => ?_
  split <;> exact trivial
theorem nm_zeroValue {P : Program} {t : TypeId} : NM P (zeroValue t) := by
  unfold zeroValue
  refine nm_bind nm_typeInfo fun _ => ?_
  split <;> exact trivial
theorem nm_sizeOf {P : Program} {t : TypeId} : NM P (sizeOf t) := nm_bind nm_typeInfo fun _ => trivial
theorem nm_isAgg {P : Program} {t : TypeId} : NM P (isAgg t) := by
  unfold isAgg
  refine nm_bind nm_underlying fun _ => ?_
  split <;> exact trivial
theorem nm_loadCellsFrom {P : Program} {a : Addr} : ∀ (n i : Nat) (acc : Array Value), NM P (loadCellsFrom a i n acc)
  | 0, _, _ => trivial
  | n + 1, i, _ => nm_bind nm_load fun _ => nm_loadCellsFrom n (i + 1) _
theorem nm_storeCells {P : Program} {a : Addr} : ∀ (vs : List Value) (i : Nat), NM P (storeCells a vs i)
  | [], _ => trivial
  | _ :: vs, i => by unfold storeCells; exact nm_bind nm_store fun _ => nm_storeCells vs (i + 1)
theorem nm_loadVar {P : Program} {t : TypeId} {a : Addr} : NM P (loadVar t a) := by
  unfold loadVar
  refine nm_bind nm_isAgg fun _ => ?_
  split
  · exact nm_bind nm_sizeOf fun _ => nm_bind (nm_loadCellsFrom _ _ _) fun _ => trivial
  · exact nm_load
theorem nm_storeVar {P : Program} {t : TypeId} {a : Addr} {v : Value} : NM P (storeVar t a v) := by
  unfold storeVar
  refine nm_bind nm_sizeOf fun _ => ?_
  split
  · exact nm_bind nm_stuck fun _ => nm_storeCells _ _
  · exact nm_bind nm_pure fun _ => nm_storeCells _ _
theorem nm_newRow {P : Program} {t : TypeId} {cs : Array Value} : NM P (newRow t cs) := nm_bind nm_new fun _ => trivial
theorem nm_newVar {P : Program} {t : TypeId} {v : Value} : NM P (newVar t v) := nm_newRow
theorem nm_elemOf {P : Program} {t : TypeId} : NM P (elemOf t) := by
  unfold elemOf
  refine nm_bind nm_underlying fun _ => ?_
  split <;> exact trivial
theorem nm_runtimePanic {α : Type} {P : Program} {e : RuntimeError} : NM P (runtimePanic e : Sem α) := by
  unfold runtimePanic
  refine nm_bind nm_program fun _ => ?_
  split
  all_goals first
    | exact trivial
    | exact nm_bind (nm_bind nm_elemOf fun _ => nm_newVar) fun _ => trivial
    | exact nm_bind nm_elemOf fun _ => nm_bind nm_newVar fun _ => trivial
theorem nm_sureAddr {P : Program} {v : Value} : NM P (Instr.sureAddr v) := by
  unfold Instr.sureAddr
  split <;> exact trivial
theorem nm_asAddr {P : Program} {v : Value} : NM P (asAddr v) := by
  unfold asAddr
  split
  all_goals first | exact trivial | exact nm_runtimePanic
theorem nm_asBool {P : Program} {v : Value} : NM P (asBool v) := by
  unfold asBool
  split <;> exact trivial
theorem nm_asIntOf {P : Program} {v : Value} : NM P (asIntOf v) := by
  unfold asIntOf
  split <;> exact trivial
theorem nm_boundsPanic {α : Type} {P : Program} {k : IntKind} {x y : Int} {c : BoundsCode} : NM P (boundsPanic k x y c : Sem α) := by
  unfold boundsPanic
  dsimp only
  split
  · exact nm_bind (nm_map nm_choose) fun _ => nm_runtimePanic
  · exact nm_bind nm_pure fun _ => nm_runtimePanic
theorem nm_results {P : Program} (fn : Func) (tmps : Array Value) : NM P (results fn tmps) := by
  unfold results
  refine nm_bind (nm_mapMA (fun x => ?_) _) fun _ => trivial
  split
  · exact trivial
  · exact nm_bind nm_asAddr fun _ => nm_loadVar

/-! ### Operations -/
class NMOp (P : Program) (op : Op) : Prop where
  out : ∀ (ρ : Operand → Value) (ty : TypeId) (pos : String), NM P (execOp ρ ⟨none, op, ty, pos, #[], none⟩)

section
variable {P : Program} {x y c : Operand} {t : TypeId}
theorem nm_v {s : Sem Value} (h : NM P s) : NM P (do pure (.value (← s)) : Sem Next) := nm_bind h fun _ => trivial
theorem nm_u {s : Sem Unit} (h : NM P s) : NM P (do s; pure .skip : Sem Next) := nm_bind h fun _ => trivial
instance : NMOp P (.move x) := ⟨fun _ _ _ => trivial⟩
instance : NMOp P (.assign x) := ⟨fun _ _ _ => trivial⟩
instance : NMOp P (.pick c x y) := ⟨fun ρ _ _ => by
  show NM P (do pure (.value (if ← asBool (ρ c) then ρ x else ρ y)) : Sem Next)
  exact nm_bind nm_asBool fun _ => trivial⟩
instance : NMOp P (.alloc t) := ⟨fun _ _ _ => nm_v (by
  unfold Instr.alloc
  refine nm_bind nm_zeroValue fun _ => ?_
  split
  · exact nm_bind nm_storeVar fun _ => trivial
  · exact nm_bind nm_newVar fun _ => trivial)⟩
instance : NMOp P (.box t x) := ⟨fun _ _ _ => nm_v (nm_bind nm_newVar fun _ => trivial)⟩
instance : NMOp P (.load t x) := ⟨fun _ _ _ => nm_v (nm_bind nm_sureAddr fun _ => nm_loadVar)⟩
instance : NMOp P (.store t x y) := ⟨fun _ _ _ => nm_u (nm_bind nm_sureAddr fun _ => nm_storeVar)⟩
instance {i : Nat} : NMOp P (.extract x i) := ⟨fun _ _ _ => nm_v (by
  unfold Instr.extract
  split
  · split <;> exact trivial
  · exact trivial)⟩
instance {f : Fn} {a b : Array Operand} : NMOp P (.makeFunc f a b) := ⟨fun _ _ _ => nm_v trivial⟩
theorem nm_fieldPlace {a : Addr} {f : Field} : NM P (fieldPlace a f) := by
  unfold fieldPlace
  refine nm_bind nm_sizeOf fun _ => ?_
  split
  · unfold partAt byteOf
    repeat' (first | exact trivial | exact nm_program | exact nm_shape | exact nm_getObj | refine nm_bind ?_ (fun _ => ?_) | split | dsimp only)
  · exact trivial
theorem nm_fieldAt {s : TypeId} {v : Value} {i : Nat} : NM P (Instr.fieldAt s v i) := by
  unfold Instr.fieldAt
  refine nm_bind nm_underlying fun _ => ?_
  split
  · split
    · exact nm_bind nm_sureAddr fun _ => nm_bind nm_fieldPlace fun _ => trivial
    · exact trivial
  · exact trivial
instance {i : Nat} : NMOp P (.fieldAddr t x i) := ⟨fun _ _ _ => nm_v nm_fieldAt⟩
theorem nm_indexAt {u v : Value} : NM P (Instr.indexAt t u v) := by
  unfold Instr.indexAt
  dsimp only
  repeat' (first | exact trivial | exact nm_asIntOf | exact nm_underlying | exact nm_sureAddr | exact nm_sizeOf | exact nm_boundsPanic | refine nm_bind ?_ (fun _ => ?_) | split)
instance : NMOp P (.indexAddr t x y) := ⟨fun _ _ _ => nm_v nm_indexAt⟩
theorem nm_part {cs : Array Value} {off : Nat} : NM P (part t cs off) := by
  unfold part
  repeat' (first | exact trivial | exact nm_isAgg | exact nm_sizeOf | refine nm_bind ?_ (fun _ => ?_) | split)
theorem nm_asAgg {v : Value} : NM P (asAgg v) := by
  unfold asAgg
  split <;> exact trivial
theorem nm_field {v : Value} {i : Nat} : NM P (Instr.field t v i) := by
  unfold Instr.field
  repeat' (first | exact trivial | exact nm_underlying | exact nm_part | exact nm_asAgg | refine nm_bind ?_ (fun _ => ?_) | split)
instance {i : Nat} : NMOp P (.field t x i) := ⟨fun _ _ _ => nm_v nm_field⟩
theorem nm_build {parts : Array (Nat × Value)} : NM P (Instr.build t parts) := by
  unfold Instr.build
  refine nm_bind nm_zeroValue fun _ => nm_bind nm_underlying fun _ => ?_
  split
  · refine nm_bind (nm_mapMA (by intro f; exact nm_bind nm_sizeOf fun _ => nm_pure) _) fun _ => ?_
    split <;> exact trivial
  · refine nm_bind nm_sizeOf fun _ => ?_
    split <;> exact trivial
  · exact trivial
instance {parts : Array (Nat × Operand)} : NMOp P (.build t parts) := ⟨fun _ _ _ => nm_v nm_build⟩
theorem nm_buildSlice {n : Nat} {parts : Array (Nat × Value)} : NM P (Instr.buildSlice t n parts) := by
  unfold Instr.buildSlice
  dsimp only
  repeat' (first | exact trivial | exact nm_underlying | exact nm_sizeOf | exact nm_zeroValue | exact nm_newRow | refine nm_bind ?_ (fun _ => ?_) | split)
instance {n : Nat} {parts : Array (Nat × Operand)} : NMOp P (.buildSlice t n parts) := ⟨fun _ _ _ => nm_v nm_buildSlice⟩
theorem nm_makeChan {v : Value} : NM P (Instr.makeChan t v) := by
  unfold Instr.makeChan asInt
  dsimp only
  repeat' (first | exact trivial | exact nm_underlying | exact nm_typeInfo | exact nm_asIntOf | exact nm_runtimePanic | exact nm_new | refine nm_bind ?_ (fun _ => ?_) | split)
instance : NMOp P (.makeChan t x) := ⟨fun _ _ _ => nm_v nm_makeChan⟩
theorem nm_firstCells {size n : Nat} {v : Value} : NM P (Builtin.firstCells size n v) := by
  unfold Builtin.firstCells
  split
  · exact nm_loadCellsFrom _ _ _
  all_goals exact trivial
theorem nm_lenOf {v : Value} : NM P (Builtin.lenOf v) := by
  unfold Builtin.lenOf
  split <;> exact trivial
theorem nm_holdsCells {a : Addr} {n : Nat} : NM P (Builtin.holdsCells a n) := by
  unfold Builtin.holdsCells
  refine nm_bind nm_shape fun _ => ?_
  split <;> exact trivial
theorem nm_mayShare {size sLen n : Nat} {b : Option Addr} {v : Value} : NM P (Builtin.mayShare size sLen n b v) := by
  unfold Builtin.mayShare
  dsimp only
  repeat' (first | exact trivial | exact nm_holdsCells | exact nm_frozen | refine nm_bind ?_ (fun _ => ?_) | split)
theorem nm_noRoom : NM P (mark .noRoom) := ⟨rfl, trivial⟩
set_option maxHeartbeats 4000000 in
theorem nm_append {ats : Array TypeId} {ty : TypeId} {args : Array Value} : NM P (Builtin.append_ ats ty args) := by
  unfold Builtin.append_ asInt
  dsimp only
  repeat' (first | exact trivial | exact nm_underlying | exact nm_typeInfo | exact nm_asIntOf | exact nm_runtimePanic | exact nm_newRow | exact nm_zeroValue | exact nm_firstCells | exact nm_lenOf | exact nm_mayShare | exact nm_noRoom | exact nm_choose | exact nm_sizeOf | exact nm_room | exact nm_storeCells _ _ | refine nm_bind ?_ (fun _ => ?_) | refine nm_ite ?_ ?_ | split | dsimp only)
theorem nm_len {ats : Array TypeId} {ty : TypeId} {args : Array Value} : NM P (Builtin.len_ ats ty args) := by
  unfold Builtin.len_
  repeat' (first | exact trivial | exact nm_underlying | exact nm_getObj | refine nm_bind ?_ (fun _ => ?_) | split)
instance {args : Array Operand} {ats : Array TypeId} : NMOp P (.call { callee := .builtin .append, args, argTypes := ats }) := ⟨fun _ _ _ => nm_v nm_append⟩
instance {args : Array Operand} {ats : Array TypeId} : NMOp P (.call { callee := .builtin .len, args, argTypes := ats }) := ⟨fun _ _ _ => nm_v nm_len⟩
end
end Go.Proofs.Ytedgbmefajnjeaa.Co
