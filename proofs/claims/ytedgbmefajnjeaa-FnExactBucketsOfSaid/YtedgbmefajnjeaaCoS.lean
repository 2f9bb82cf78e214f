/-
  A sender's walk: it reads a frozen part of memory and writes nothing; its temporaries decide each step, whatever the others do.
-/
import Derived.Test.YtedgbmefajnjeaaStOwn
import Derived.Test.YtedgbmefajnjeaaCoW
import Derived.Conc.PipeGen
set_option linter.unusedSimpArgs false
set_option linter.unusedVariables false
namespace Go.Proofs.Ytedgbmefajnjeaa.St
open Go.RowKit Go.Proofs.Ytedgbmefajnjeaa.Co

def SB (B : Heap) (w : World) : Prop := ∀ b o, B b = some o → w.heap[b]? = some o
def MB (B : Heap) (l : Loc) : Prop := ∃ a : Addr, l = .cell a ∧ B a.block = none
/-- cells of the frozen part -/
def FC (B : Heap) (a : Addr) : Prop := ∃ cs t fz, B a.block = some (.cells cs t fz)

theorem memS {B : Heap} {w : World} (h : SB B w) : Mem w [] B [] w :=
  ⟨rfl, rfl, rfl, Nat.le_refl _, fun _ _ _ => rfl, h, by simp, by simp, by simp, by simp⟩

theorem evB_rd {B : Heap} {e : Event} (h : Rd (FC B) e) : Conc.EvB (MB B) e :=
  ⟨h.mark, h.nw, fun ⟨a, ha, hb⟩ => by
    obtain ⟨cs, t, fz, hc⟩ := h.at_ a ha
    rw [hb] at hc
    cases hc⟩

/-- the sender's script from here -/
structure SD (P : Program) (B : Heap) (c : Nat) (vs : List Value) (g : Goroutine) : Prop where
  out : Conc.Sends P c (SB B) (MB B) vs g

section
variable {P : Program} {B : Heap} {c : Nat} {vs : List Value} {b : Frame} {a : Act} {k : List Item} {cs : List Frame}

theorem sd_step {g g' : Goroutine} (hs : g.status = .running) (h : ∀ w, SB B w → ∃ es, stepG P false g w = .go g' w es ∧ ∀ e ∈ es, Conc.EvB (MB B) e) (hk : SD P B c vs g') : SD P B c vs g := by
  obtain ⟨n, hn⟩ := (Conc.sends_iff P c (SB B) (MB B) vs g').1 hk.out
  refine ⟨(Conc.sends_iff P c (SB B) (MB B) vs g).2 ⟨n + 1, Conc.Goes.step hs fun w₁ h₁ => ?_⟩⟩
  obtain ⟨es, he, hb⟩ := h w₁ h₁
  rw [he]
  exact ⟨⟨rfl, hb⟩, hn.anyWorld w₁⟩
theorem sd_ctl {g g' : Goroutine} (hs : g.status = .running) (h : ∀ w, stepG P false g w = .go g' w #[]) (hk : SD P B c vs g') : SD P B c vs g :=
  sd_step hs (fun w _ => ⟨#[], h w, fun e he => by simp at he⟩) hk

theorem sd_seq {x y : Code} (h : SD P B c vs (Conc.G (b.at a (.code x :: .code y :: k)) cs)) : SD P B c vs (Conc.G (b.at a (.code (.seq x y) :: k)) cs) := sd_ctl rfl (fun _ => Conc.stepG_seq) h
theorem sd_skip (h : SD P B c vs (Conc.G (b.at a k) cs)) : SD P B c vs (Conc.G (b.at a (.code .skip :: k)) cs) := sd_ctl rfl (fun _ => Conc.stepG_skip) h
theorem sd_inBlock {id : Nat} (h : SD P B c vs (Conc.G (b.at a k) cs)) : SD P B c vs (Conc.G (b.at a (.inBlock id :: k)) cs) := sd_ctl rfl (fun _ => Conc.stepG_inBlock) h
theorem sd_block {id : Nat} {x : Code} (h : SD P B c vs (Conc.G (b.at a (.code x :: .inBlock id :: k)) cs)) : SD P B c vs (Conc.G (b.at a (.code (.block id x) :: k)) cs) := sd_ctl rfl (fun _ => Conc.stepG_block) h
theorem sd_loop {x : Code} (h : SD P B c vs (Conc.G (b.at a (.code x :: .inLoop x :: k)) cs)) : SD P B c vs (Conc.G (b.at a (.code (.loop x) :: k)) cs) := sd_ctl rfl (fun _ => Conc.stepG_loop) h
theorem sd_inLoop {x : Code} (h : SD P B c vs (Conc.G (b.at a (.code x :: .inLoop x :: k)) cs)) : SD P B c vs (Conc.G (b.at a (.inLoop x :: k)) cs) := sd_ctl rfl (fun _ => Conc.stepG_inLoop) h
theorem sd_exit {id : Nat} {k' : List Item} (he : exitTo id k = some k') (h : SD P B c vs (Conc.G (b.at a k') cs)) : SD P B c vs (Conc.G (b.at a (.code (.exit id) :: k)) cs) := sd_ctl rfl (fun _ => Conc.stepG_exit he) h
theorem sd_end (h : SD P B c vs (Conc.G { b.at a [] with mode := .returning } cs)) : SD P B c vs (Conc.G (b.at a []) cs) := sd_ctl rfl (fun _ => Conc.stepG_end) h

/-- what the temporaries hold; what is deferred -/
structure HD (ds : List Deferred) (E : Env) (n : Nat) (a : Act) : Prop where
  defers : a.defers = ds
  holds : Holds E n ⟨a.tmps, []⟩
variable {ds : List Deferred} {E : Env} {n : Nat}
theorem HD.sat (h : HD ds E n a) : Sat E a.eval := h.holds.sat
theorem HD.put (h : HD ds E n a) {d : Nat} (hd : Nat.blt d n = true) (v : Value) : HD ds ((d, v) :: E) n (a.put (some d) v) := ⟨h.defers, h.holds.put hd v⟩
theorem HD.keep {E' : Env} (h : HD ds E n a) (hs : Sub E E') : HD ds E' n a := ⟨h.defers, h.holds.keep hs⟩

theorem sd_cond {o : Operand} {t : Bool} {x y : Code} (h : HD ds E n a) (ho : ev E o = some (.bool t)) (hk : SD P B c vs (Conc.G (b.at a (.code (if t then x else y) :: k)) cs)) : SD P B c vs (Conc.G (b.at a (.code (.cond o x y) :: k)) cs) :=
  sd_ctl rfl (fun _ => Conc.stepG_cond (h.sat _ _ ho)) hk
theorem sd_condT {o : Operand} {x y : Code} (h : HD ds E n a) (ho : ev E o = some (.bool true)) (hk : SD P B c vs (Conc.G (b.at a (.code x :: k)) cs)) : SD P B c vs (Conc.G (b.at a (.code (.cond o x y) :: k)) cs) := sd_cond h ho hk
theorem sd_condF {o : Operand} {x y : Code} (h : HD ds E n a) (ho : ev E o = some (.bool false)) (hk : SD P B c vs (Conc.G (b.at a (.code y :: k)) cs)) : SD P B c vs (Conc.G (b.at a (.code (.cond o x y) :: k)) cs) := sd_cond h ho hk
end

/-- an operation that enters no function -/
class NE (P : Program) (op : Op) : Prop where
  out : ∀ (ρ : Operand → Value) (ty : TypeId) (w w' : World) (f : FuncId) (args : Array Value), (execOp ρ (mk op ty)).run P w ≠ .ok (.enter f args) w'
theorem ne_v {P : Program} (s : Sem Value) (w w' : World) (f : FuncId) (args : Array Value) : ((do pure (.value (← s))) : Sem Next).run P w ≠ .ok (.enter f args) w' := by
  intro h
  rw [Sem.run_bind] at h
  cases hs : s.run P w with
  | ok v w1 => rw [hs] at h; simp at h
  | halt x w1 => rw [hs] at h; simp [Result.andThen] at h
theorem ne_u {P : Program} (s : Sem Unit) (w w' : World) (f : FuncId) (args : Array Value) : ((do s; pure .skip) : Sem Next).run P w ≠ .ok (.enter f args) w' := by
  intro h
  rw [Sem.run_bind] at h
  cases hs : s.run P w with
  | ok v w1 => rw [hs] at h; simp at h
  | halt x w1 => rw [hs] at h; simp [Result.andThen] at h
section
variable {P : Program} {x y : Operand} {t t' : TypeId}
instance : NE P (.move x) := ⟨fun _ _ _ _ _ _ h => by cases h⟩
instance : NE P (.assign x) := ⟨fun _ _ _ _ _ _ h => by cases h⟩
instance : NE P (.load t x) := ⟨fun _ _ _ _ _ _ => ne_v _ _ _ _ _⟩
instance : NE P (.alloc t) := ⟨fun _ _ _ _ _ _ => ne_v _ _ _ _ _⟩
instance : NE P (.box t x) := ⟨fun _ _ _ _ _ _ => ne_v _ _ _ _ _⟩
instance {i : Nat} : NE P (.fieldAddr t x i) := ⟨fun _ _ _ _ _ _ => ne_v _ _ _ _ _⟩
instance {i : Nat} : NE P (.extract x i) := ⟨fun _ _ _ _ _ _ => ne_v _ _ _ _ _⟩
instance {o : BinOp} : NE P (.binOp o t x y t') := ⟨fun _ _ _ _ _ _ => ne_v _ _ _ _ _⟩
instance {l : Array (Nat × Operand)} : NE P (.build t l) := ⟨fun _ _ _ _ _ _ => ne_v _ _ _ _ _⟩
instance {n : Nat} {l : Array (Nat × Operand)} : NE P (.buildSlice t n l) := ⟨fun _ _ _ _ _ _ => ne_v _ _ _ _ _⟩
instance : NE P (.store t x y) := ⟨fun _ _ _ _ _ _ => ne_u _ _ _ _ _⟩
instance {l : Array Operand} {ats : Array TypeId} : NE P (.call { callee := .builtin .append, args := l, argTypes := ats }) := ⟨fun _ _ _ _ _ _ => ne_v _ _ _ _ _⟩
instance {l : Array Operand} {ats : Array TypeId} : NE P (.call { callee := .builtin .min, args := l, argTypes := ats }) := ⟨fun _ _ _ _ _ _ => ne_v _ _ _ _ _⟩
end

/-- operations still to come, in this order -/
structure SL (P : Program) (B : Heap) (c : Nat) (vs : List Value) (b : Frame) (k : List Item) (cs : List Frame) (l rest : List Oper) (a : Act) : Prop where
  out : ∀ pre, l = pre ++ rest → SD P B c vs (Conc.G (b.at a (.inRegion l.toArray (List.range' pre.length rest.length) :: k)) cs)

section
variable {P : Program} {B : Heap} {c : Nat} {vs : List Value} {b : Frame} {a : Act} {k : List Item} {cs : List Frame} {l rest : List Oper} {ds : List Deferred} {E : Env} {n d : Nat} {op : Op} {ty t t' : TypeId} {pos : String} {af : Array Edge} {g : Option (Nat × Bool)} {x y : Operand}

theorem sd_region {id : Nat} (h : SL P B c vs b k cs l l a) : SD P B c vs (Conc.G (b.at a (.code (.region id l.toArray false) :: k)) cs) :=
  sd_ctl rfl (fun _ => Conc.stepG_region) (by
    have := h.out [] rfl
    rw [List.size_toArray, List.range_eq_range']
    exact this)
theorem sl_nil (h : SD P B c vs (Conc.G (b.at a k) cs)) : SL P B c vs b k cs l [] a := ⟨fun _ _ => sd_ctl rfl (fun _ => Conc.stepG_region_end) h⟩

theorem sl_op [hne : NE P op] (hk : b.kind ≠ .early) (hg : wantedE l E g = some true) (hd : Nat.blt d n = true) (h : HD ds E n a) {v : Value} (kd : ∀ w, Mem w [] B [] w → Does P op ty E w (fun u w' => u = v ∧ w' = w))
    (ke : ∀ ρ, Sat E ρ → RD P (FC B) (execOp ρ (mk op ty))) (kn : ∀ a', HD ds ((d, v) :: E) n a' → SL P B c vs b k cs l rest a') : SL P B c vs b k cs l (⟨some d, op, ty, pos, af, g⟩ :: rest) a := by
  refine ⟨fun pre hl => ?_⟩
  have ho : l.toArray[pre.length]? = some ⟨some d, op, ty, pos, af, g⟩ := by simp [hl]
  have hw := wanted_of (o := ⟨some d, op, ty, pos, af, g⟩) h.holds hg
  have hn := (kn _ (h.put hd v)).out (pre ++ [⟨some d, op, ty, pos, af, g⟩]) (by rw [hl]; simp)
  simp only [List.length_append, List.length_cons, List.length_nil, Nat.zero_add] at hn
  simp only [List.length_cons, List.range'_succ]
  refine sd_step rfl (fun w hS => ?_) hn
  have hu := (kd w (memS hS)).out _ h.sat
  have hev : ∀ e ∈ Conc.listed P b.fn a ⟨some d, op, ty, pos, af, g⟩ w, Conc.EvB (MB B) e := fun e he =>
    evB_rd (rd_events (ke _ h.sat) (fun q ⟨cs, t, fz, hq⟩ => ⟨cs, t, fz, hS _ _ hq⟩) e (Conc.mem_listed he))
  generalize hr : (execOp a.eval (mk op ty)).run P w = r at hu
  cases r with
  | ok m w' =>
    cases m <;> simp only [upon] at hu
    case value u =>
      obtain ⟨rfl, rfl⟩ := hu
      exact ⟨_, Conc.stepG_value ho hw hk hr, hev⟩
    case skip =>
      obtain ⟨rfl, rfl⟩ := hu
      exact ⟨_, Conc.stepG_none ho hw hk hr, hev⟩
    case enter f args =>
      exact absurd hr (hne.out _ _ _ _ _ _)
  | halt x w' => simp only [upon] at hu

/-! ### The operations that a sender takes -/
theorem sl_move (hk : b.kind ≠ .early) (hg : wantedE l E g = some true) (hd : Nat.blt d n = true) (h : HD ds E n a) {v : Value} (hx : ev E x = some v) (kn : ∀ a', HD ds ((d, v) :: E) n a' → SL P B c vs b k cs l rest a') :
    SL P B c vs b k cs l (⟨some d, .move x, ty, pos, af, g⟩ :: rest) a := sl_op hk hg hd h (fun _ _ => does_move hx ⟨rfl, rfl⟩) (fun _ _ => trivial) kn
theorem sl_assign (hk : b.kind ≠ .early) (hg : wantedE l E g = some true) (hd : Nat.blt d n = true) (h : HD ds E n a) {v : Value} (hx : ev E x = some v) (kn : ∀ a', HD ds ((d, v) :: E) n a' → SL P B c vs b k cs l rest a') :
    SL P B c vs b k cs l (⟨some d, .assign x, ty, pos, af, g⟩ :: rest) a := sl_op hk hg hd h (fun _ _ => does_assign hx ⟨rfl, rfl⟩) (fun _ _ => trivial) kn
theorem sl_load {q off : Nat} {cells : List Value} {T : TypeId} {fz : Nat × Nat} {v : Value} [Scalar P t] (hk : b.kind ≠ .early) (hg : wantedE l E g = some true) (hd : Nat.blt d n = true) (h : HD ds E n a) (hx : ev E x = some (.pointer (some ⟨q, off, none⟩)))
    (hq : B q = some (.cells cells.toArray T fz)) (hv : cells[off]? = some v) (kn : ∀ a', HD ds ((d, v) :: E) n a' → SL P B c vs b k cs l rest a') : SL P B c vs b k cs l (⟨some d, .load t x, ty, pos, af, g⟩ :: rest) a := by
  refine sl_op hk hg hd h (v := v) (fun w hm => ?_) (fun ρ hρ => ?_) kn
  · refine does_load_of hx (run_loadVar1 ?_) ⟨rfl, rfl⟩
    simp [World.cell?, hm.base _ _ hq, hv]
  · show RD P (FC B) (do pure (.value (← Instr.loadAt t (ρ x))) : Sem Next)
    rw [hρ _ _ hx]
    refine rd_v ?_
    show RD P (FC B) (loadVar t ⟨q, off, none⟩)
    exact rd_loadVar ⟨_, _, _, hq⟩ fun i => ⟨_, _, _, (by rw [show ((⟨q, off, none⟩ : Addr).add i).block = q by unfold Addr.add; split <;> rfl]; exact hq)⟩
theorem sl_fieldAddr {f : Nat} (hk : b.kind ≠ .early) (hg : wantedE l E g = some true) (hd : Nat.blt d n = true) (h : HD ds E n a) {v : Value} (kd : ∀ w, Mem w [] B [] w → Does P (.fieldAddr t x f) ty E w (fun u w' => u = v ∧ w' = w))
    (kn : ∀ a', HD ds ((d, v) :: E) n a' → SL P B c vs b k cs l rest a') : SL P B c vs b k cs l (⟨some d, .fieldAddr t x f, ty, pos, af, g⟩ :: rest) a := sl_op hk hg hd h kd (fun _ _ => rd_v rd_fieldAt) kn
theorem sl_build {parts : Array (Nat × Operand)} (hk : b.kind ≠ .early) (hg : wantedE l E g = some true) (hd : Nat.blt d n = true) (h : HD ds E n a) {v : Value} (kd : ∀ w, Mem w [] B [] w → Does P (.build t parts) ty E w (fun u w' => u = v ∧ w' = w))
    (kn : ∀ a', HD ds ((d, v) :: E) n a' → SL P B c vs b k cs l rest a') : SL P B c vs b k cs l (⟨some d, .build t parts, ty, pos, af, g⟩ :: rest) a := sl_op hk hg hd h kd (fun _ _ => rd_v rd_build) kn
theorem sl_bin {o : BinOp} {i j : IntKind} {p q : Int} (hk : b.kind ≠ .early) (hg : wantedE l E g = some true) (hd : Nat.blt d n = true) (h : HD ds E n a) (hx : ev E x = some (.int i p)) (hy : ev E y = some (.int j q)) {v : Value}
    (kd : ∀ w, Mem w [] B [] w → Does P (.binOp o t x y t') ty E w (fun u w' => u = v ∧ w' = w)) (kn : ∀ a', HD ds ((d, v) :: E) n a' → SL P B c vs b k cs l rest a') : SL P B c vs b k cs l (⟨some d, .binOp o t x y t', ty, pos, af, g⟩ :: rest) a :=
  sl_op hk hg hd h kd (fun ρ hρ => by
    show RD P (FC B) (do pure (.value (← (do eqGuard o t x y (ρ x) (ρ y); binOp o t (ρ x) (ρ y)))) : Sem Next)
    rw [hρ _ _ hx, hρ _ _ hy]
    refine rd_v (rd_bind ?_ fun _ => rd_binI)
    unfold eqGuard
    split <;> exact trivial) kn
theorem sl_min {ats : Array TypeId} {p q : Int} (hk : b.kind ≠ .early) (hg : wantedE l E g = some true) (hd : Nat.blt d n = true) (h : HD ds E n a) (hx : ev E x = some (.int .i64 p)) (hy : ev E y = some (.int .i64 q))
    (kn : ∀ a', HD ds ((d, .int .i64 (min p q)) :: E) n a' → SL P B c vs b k cs l rest a') : SL P B c vs b k cs l (⟨some d, .call { callee := .builtin .min, args := [x, y].toArray, argTypes := ats }, ty, pos, af, g⟩ :: rest) a := by
  have hmin : (if q < p then q else p) = min p q := by omega
  have hm2 : Builtin.min_ ats ty [.int .i64 p, .int .i64 q].toArray = pure (.int .i64 (min p q)) := by simp [Builtin.min_, Builtin.min2, hmin]
  have key : ∀ ρ, Sat E ρ → execOp ρ (mk (.call { callee := .builtin .min, args := [x, y].toArray, argTypes := ats }) ty) = (do pure (.value (← (pure (.int .i64 (min p q)) : Sem Value))) : Sem Next) := by
    intro ρ hρ
    rw [← hm2]
    simp only [execOp, mk, resolve, List.map_toArray, List.map_cons, List.map_nil, hρ _ _ hx, hρ _ _ hy]
    rfl
  refine sl_op hk hg hd h (fun w _ => ⟨fun ρ hρ => ?_, fun ρ hρ => ?_⟩) (fun ρ hρ => ?_) kn
  · rw [key ρ hρ]; exact ⟨rfl, rfl⟩
  · rw [key ρ hρ]; exact mild_nil
  · rw [key ρ hρ]; exact trivial

theorem sl_send {v : Value} (hk : b.kind ≠ .early) (hg : wantedE l E g = some true) (h : HD ds E n a) (hx : ev E x = some (.chan (some c))) (hy : ev E y = some v) (kn : ∀ a', HD ds E n a' → SL P B c vs b k cs l rest a') :
    SL P B c (v :: vs) b k cs l (⟨none, .send x y, ty, pos, af, g⟩ :: rest) a := by
  refine ⟨fun pre hl => ⟨⟨0, Conc.Goes.stop fun w₁ _ => ?_⟩⟩⟩
  have ho : l.toArray[pre.length]? = some ⟨none, .send x y, ty, pos, af, g⟩ := by simp [hl]
  have hw := wanted_of (o := ⟨none, .send x y, ty, pos, af, g⟩) h.holds hg
  have hn := (kn a h).out (pre ++ [⟨none, .send x y, ty, pos, af, g⟩]) (by rw [hl]; simp)
  simp only [List.length_append, List.length_cons, List.length_nil, Nat.zero_add] at hn
  simp only [List.length_cons, List.range'_succ]
  exact Conc.atSend_of ho hw hk rfl (h.sat _ _ hx) (h.sat _ _ hy) hn.out
end
end Go.Proofs.Ytedgbmefajnjeaa.St
