/-
  Goroutine 0 at frames that are named: up to a go statement, through a call that starts a goroutine and takes what it sends, and to the run's end.
-/
import Derived.Test.YtedgbmefajnjeaaCoU
import Derived.Conc.SmallLaws
set_option linter.unusedSimpArgs false
set_option linter.unusedVariables false
namespace Go.Proofs.Ytedgbmefajnjeaa.St
open Go.RowKit Go.Proofs.Ytedgbmefajnjeaa.Co

/-- a frame of a plain call -/
class KN (b : Frame) : Prop where
  out : b.kind ≠ .early
instance {f : FuncId} : KN (Conc.base f) := ⟨by simp [Conc.base]⟩
theorem rcx {W0 : World} {B : Heap} {c : Nat} {b : Frame} [h : KN b] (h1 : W0.heap.size ≤ c) (h2 : B c = none) : RcX W0 B c b := ⟨h1, h2, h.out⟩

/-- where a run with n go statements to come stops first -/
def PStop (P : Program) (Post : Value → World → Prop) : Nat → Goroutine → World → Prop
  | 0 => AtEnd P Post
  | n + 1 => AtFork P (Plan P Post n)
theorem plan_iff {P : Program} {Post : Value → World → Prop} (n : Nat) (g : Goroutine) (w : World) : Plan P Post n g w ↔ Walk P (PStop P Post n) g w := by cases n <;> exact Iff.rfl

section
variable {P : Program} {Stop : Goroutine → World → Prop} {b : Frame} {a : Act} {k : List Item} {cs : List Frame} {w : World} {E : Env} {n : Nat}
theorem w_ctl {g g' : Goroutine} (hs : g.status = .running) (h : ∀ w, stepG P true g w = .go g' w #[]) (hk : Walk P Stop g' w) : Walk P Stop g w := Walk.of hs fun d => ⟨_, _, _, h _, mild_nil, hk.at d⟩
theorem w_seq {x y : Code} (h : Walk P Stop (Conc.G (b.at a (.code x :: .code y :: k)) cs) w) : Walk P Stop (Conc.G (b.at a (.code (.seq x y) :: k)) cs) w := w_ctl rfl (fun _ => Conc.stepG_seq) h
theorem w_skip (h : Walk P Stop (Conc.G (b.at a k) cs) w) : Walk P Stop (Conc.G (b.at a (.code .skip :: k)) cs) w := w_ctl rfl (fun _ => Conc.stepG_skip) h
theorem w_inBlock {id : Nat} (h : Walk P Stop (Conc.G (b.at a k) cs) w) : Walk P Stop (Conc.G (b.at a (.inBlock id :: k)) cs) w := w_ctl rfl (fun _ => Conc.stepG_inBlock) h
theorem w_block {id : Nat} {x : Code} (h : Walk P Stop (Conc.G (b.at a (.code x :: .inBlock id :: k)) cs) w) : Walk P Stop (Conc.G (b.at a (.code (.block id x) :: k)) cs) w := w_ctl rfl (fun _ => Conc.stepG_block) h
theorem w_exit {id : Nat} {k' : List Item} (he : exitTo id k = some k') (h : Walk P Stop (Conc.G (b.at a k') cs) w) : Walk P Stop (Conc.G (b.at a (.code (.exit id) :: k)) cs) w := w_ctl rfl (fun _ => Conc.stepG_exit he) h
theorem w_condT {o : Operand} {x y : Code} (h : Holds E n a) (ho : ev E o = some (.bool true)) (hk : Walk P Stop (Conc.G (b.at a (.code x :: k)) cs) w) : Walk P Stop (Conc.G (b.at a (.code (.cond o x y) :: k)) cs) w :=
  w_ctl rfl (fun _ => Conc.stepG_cond (t := true) (h.sat _ _ ho)) hk
theorem w_condF {o : Operand} {x y : Code} (h : Holds E n a) (ho : ev E o = some (.bool false)) (hk : Walk P Stop (Conc.G (b.at a (.code y :: k)) cs) w) : Walk P Stop (Conc.G (b.at a (.code (.cond o x y) :: k)) cs) w :=
  w_ctl rfl (fun _ => Conc.stepG_cond (t := false) (h.sat _ _ ho)) hk
theorem w_ret {fn : Func} {f : FuncId} {t : Nat} {v : Value} {cf : Frame} (hf : P.funcs[f]? = some fn) (hr : fn.results = [ResultVar.tmp t].toArray) (h : Holds E n a) (hv : Env.get E t = some v)
    (hk : Walk P Stop (Conc.G (cf.finish v) cs) w) : Walk P Stop (Conc.G ((Conc.base f).at a (.code .ret :: k)) (cf :: cs)) w := by
  refine w_ctl rfl (fun _ => Conc.stepG_ret') (w_ctl rfl (fun w => ?_) hk)
  have hg := h.get t v hv
  have hrun : (results fn a.tmps).run P w = .ok v w := by
    have := results_tmp (t := t) hr a.tmps P w
    rwa [show a.tmps.getD t undef = v by simp [hg]] at this
  rw [stepG_leave' (b := Conc.base f) rfl h.defers hf hrun]
  have : (results fn a.tmps).events P w #[] = #[] := by simp [results, hr]
  simp [this, Conc.seen_none]
theorem enterW {f : FuncId} {fn : Func} {c : Code} {us : List Value} (hf : P.funcs[f]? = some fn) (hb : fn.body = some c) (hn : fn.ntmps = n) (hl : Nat.ble us.length n = true)
    (h : ∀ a, Mem w [] (fun b => w.heap[b]?) [] w → Holds (enumE 0 us) n a → Walk P Stop (Conc.G ((Conc.base f).at a [.code c]) cs) w) : Walk P Stop (Conc.G (Frame.enter P f us.toArray .normal) cs) w := by
  rw [Conc.enter_at _ hf hb, hn]
  exact h _ (Mem.start w) (Holds.enter us n hl)
/-- the run's end -/
theorem w_end {Post : Value → World → Prop} {W0 : World} {X : List Nat} {B : Heap} {L : List Own} {fn : Func} {f : FuncId} {t : Nat} {v : Value} (hf : P.funcs[f]? = some fn) (hr : fn.results = [ResultVar.tmp t].toArray) (hi : P.inits.idxOf? f = none) (h : Holds E n a) (hv : Env.get E t = some v)
    (hm : Mem W0 X B L w) (hp : ∀ w', Mem W0 X B L w' → Post v w') : Walk P (PStop P Post 0) (Conc.G ((Conc.base f).at a (.code .ret :: k)) []) w := by
  refine w_ctl rfl (fun _ => Conc.stepG_ret') (.stop fun d => ⟨rfl, v, #[], ?_, mild_nil, hp _ (hm.at d)⟩)
  have hg := h.get t v hv
  have hrun : (results fn a.tmps).run P (w.at d) = .ok v (w.at d) := by
    have := results_tmp (t := t) hr a.tmps P (w.at d)
    rwa [show a.tmps.getD t undef = v by simp [hg]] at this
  have hev : (results fn a.tmps).events P (w.at d) #[] = #[] := by simp [results, hr]
  have hi' : List.idxOf? f P.inits.toList = none := by simpa using hi
  simp [Conc.G, stepG, unwind, doReturn, Frame.at, Conc.base, h.defers, hf, hrun, hev, GStep.after, hi, Conc.seen_none]
end

/-- operations still to come, in this order -/
structure WkL (P : Program) (Stop : Goroutine → World → Prop) (b : Frame) (k : List Item) (cs : List Frame) (l rest : List Oper) (a : Act) (w : World) : Prop where
  out : ∀ pre, l = pre ++ rest → Walk P Stop (Conc.G (b.at a (.inRegion l.toArray (List.range' pre.length rest.length) :: k)) cs) w

section
variable {P : Program} {Stop : Goroutine → World → Prop} {W0 : World} {X : List Nat} {B : Heap} {L : List Own} {b : Frame} {a : Act} {k : List Item} {cs : List Frame} {w : World}
  {l rest : List Oper} {E : Env} {n d : Nat} {op : Op} {ty t : TypeId} {pos : String} {af : Array Edge} {g : Option (Nat × Bool)} {x y : Operand} {o : Obj}
theorem w_region {id : Nat} (h : WkL P Stop b k cs l l a w) : Walk P Stop (Conc.G (b.at a (.code (.region id l.toArray false) :: k)) cs) w :=
  w_ctl rfl (fun _ => Conc.stepG_region) (by
    have := h.out [] rfl
    rw [List.size_toArray, List.range_eq_range']
    exact this)
theorem wl_nil (h : Walk P Stop (Conc.G (b.at a k) cs) w) : WkL P Stop b k cs l [] a w := ⟨fun _ _ => w_ctl rfl (fun _ => Conc.stepG_region_end) h⟩
theorem wl_next {o : Oper} (h : ∀ pre, l = pre ++ o :: rest → l.toArray[pre.length]? = some o → (∀ a w, WkL P Stop b k cs l rest a w → Walk P Stop (Conc.G (b.at a (.inRegion l.toArray (List.range' (pre.length + 1) rest.length) :: k)) cs) w) →
    Walk P Stop (Conc.G (b.at a (.inRegion l.toArray (pre.length :: List.range' (pre.length + 1) rest.length) :: k)) cs) w) : WkL P Stop b k cs l (o :: rest) a w := by
  refine ⟨fun pre hl => ?_⟩
  simp only [List.length_cons, List.range'_succ]
  refine h pre hl (by simp [hl]) fun a w hk => ?_
  have := hk.out (pre ++ [o]) (by rw [hl]; simp)
  simpa using this

theorem wl_op [hk : KN b] (hg : wantedE l E g = some true) (hd : Nat.blt d n = true) (h : Holds E n a) (hm : Mem W0 X B L w)
    (kd : ∀ w, Mem W0 X B L w → Does P op ty E w (fun v w' => ∀ a', Holds ((d, v) :: E) n a' → WkL P Stop b k cs l rest a' w')) : WkL P Stop b k cs l (⟨some d, op, ty, pos, af, g⟩ :: rest) a w :=
  wl_next fun _ _ ho hn => op_walk (K := fun a' w' => WkL P Stop b k cs l rest a' w') ho (wanted_of (o := ⟨some d, op, ty, pos, af, g⟩) h hg) hk.out
    (fun c => ⟨upon_mono (fun v w' hv => hv _ (h.put hd v)) ((kd _ (hm.at c)).out _ h.sat), (kd _ (hm.at c)).ev _ h.sat⟩) fun a' w' hw => hn a' w' hw
theorem wl_opn [hk : KN b] (hg : wantedE l E g = some true) (h : Holds E n a) (hm : Mem W0 X B L w)
    (kd : ∀ w, Mem W0 X B L w → Does P op ty E w (fun _ w' => ∀ a', Holds E n a' → WkL P Stop b k cs l rest a' w')) : WkL P Stop b k cs l (⟨none, op, ty, pos, af, g⟩ :: rest) a w :=
  wl_next fun _ _ ho hn => op_walk (K := fun a' w' => WkL P Stop b k cs l rest a' w') ho (wanted_of (o := ⟨none, op, ty, pos, af, g⟩) h hg) hk.out
    (fun c => ⟨upon_mono (fun v w' hv => hv _ (h.nop v)) ((kd _ (hm.at c)).out _ h.sat), (kd _ (hm.at c)).ev _ h.sat⟩) fun a' w' hw => hn a' w' hw
theorem wl_skip (hg : wantedE l E g = some false) (hd : Nat.blt d n = true) (h : Holds E n a) (kn : ∀ a', Holds ((d, undef) :: E) n a' → WkL P Stop b k cs l rest a' w) : WkL P Stop b k cs l (⟨some d, op, ty, pos, af, g⟩ :: rest) a w :=
  wl_next fun _ _ ho hn => w_ctl rfl (fun _ => Conc.stepG_unwanted ho (wanted_of (o := ⟨some d, op, ty, pos, af, g⟩) h hg)) (hn _ _ (kn _ (h.put hd undef)))

/-- a call at which the callee's frame is named -/
theorem wl_enter [hk : KN b] {f : FuncId} {fn : Func} {body : Code} {args : List Operand} {ats : Array TypeId} {us : List Value} {m : Nat} (hen : Enters P f) (hf : P.funcs[f]? = some fn) (hb : fn.body = some body) (hn : fn.ntmps = m) (hl : Nat.ble us.length m = true)
    (hg : wantedE l E g = some true) (h : Holds E n a) (hm : Mem W0 X B L w) (hx : evs E args = some us)
    (kn : ∀ pre, l = pre ++ ⟨some d, .call { callee := .value (.func f), args := args.toArray, argTypes := ats }, ty, pos, af, g⟩ :: rest → ∀ a' w, Mem W0 X B L w → Holds (enumE 0 us) m a' →
      Walk P Stop (Conc.G ((Conc.base f).at a' [.code body]) (b.at a (.inRegion l.toArray (pre.length :: List.range' (pre.length + 1) rest.length) :: k) :: cs)) w) :
    WkL P Stop b k cs l (⟨some d, .call { callee := .value (.func f), args := args.toArray, argTypes := ats }, ty, pos, af, g⟩ :: rest) a w := by
  refine wl_next fun pre hl' ho _ => Walk.of rfl fun d' => ?_
  have hr : (execOp a.eval ⟨some d, .call { callee := .value (.func f), args := args.toArray, argTypes := ats }, ty, pos, af, g⟩).run P (w.at d') = .ok (.enter f us.toArray) (w.at d') := by
    simp only [execOp, resolve, List.map_toArray, evs_map h.sat _ _ hx, h.sat (.func f) _ rfl, Deferred.ofValue]
    simp only [Sem.run_bind, Sem.run_pure, Result.andThen_ok, invoke]
    rw [hen.out]
    simp
  have hM : Mild ((execOp a.eval ⟨some d, .call { callee := .value (.func f), args := args.toArray, argTypes := ats }, ty, pos, af, g⟩).events P (w.at d') #[]) := by
    refine nm_events ?_ _
    simp only [execOp, resolve, List.map_toArray, evs_map h.sat _ _ hx, h.sat (.func f) _ rfl, Deferred.ofValue]
    exact hen.nm _
  refine ⟨_, _, _, Conc.stepG_enter (a := a) ho (wanted_of (o := ⟨some d, .call { callee := .value (.func f), args := args.toArray, argTypes := ats }, ty, pos, af, g⟩) h hg) hk.out hr, fun e he m hm => hM e (Conc.mem_listed he) m hm, ?_⟩
  rw [Conc.enter_at _ hf hb, hn]
  exact kn pre hl' _ _ (hm.at d') (Holds.enter us m hl)

/-- the go statement -/
theorem wl_go {Fin : Goroutine → World → Prop} {c s r q : Nat} {tm : Bool} {z : Value} {vs caps : List Value} {f : FuncId} {ats : Array TypeId} (hR : RcX W0 B c b) (hg : wantedE l E g = some true) (h : Holds E n a) (hm : Mem W0 X (upB B c (.chan 0 #[] false s r tm)) L w)
    (hx : ev E x = some (.func (.func f) #[] caps.toArray)) (hS : SD P B c vs (Conc.born P ⟨.fn (.func f) caps.toArray, #[]⟩))
    (kn : ∀ w, Mem W0 X (upB B c (.chan 0 #[] false s r tm)) L w → ∀ a', Holds E n a' → RcL P B c z Fin vs q b k cs l rest a' w) :
    WkL P (AtFork P Fin) b k cs l (⟨none, .go { callee := .value x, args := #[], argTypes := ats }, ty, pos, af, g⟩ :: rest) a w := by
  refine ⟨fun pre hl => .stop fun d' => ?_⟩
  have ho : l.toArray[pre.length]? = some ⟨none, .go { callee := .value x, args := #[], argTypes := ats }, ty, pos, af, g⟩ := by simp [hl]
  have hw := wanted_of (o := ⟨none, .go { callee := .value x, args := #[], argTypes := ats }, ty, pos, af, g⟩) h hg
  have hr : (execOp a.eval ⟨none, .go { callee := .value x, args := #[], argTypes := ats }, ty, pos, af, g⟩).run P (w.at d') = .ok (.spawn ⟨.fn (.func f) caps.toArray, #[]⟩) (w.at d') := by
    simp [execOp, resolve, h.sat _ _ hx, Deferred.ofValue]
  have he : (execOp a.eval ⟨none, .go { callee := .value x, args := #[], argTypes := ats }, ty, pos, af, g⟩).events P (w.at d') #[] = #[] := by
    simp [execOp, resolve, h.sat _ _ hx, Deferred.ofValue]
  simp only [List.length_cons, List.range'_succ]
  have hm' := hm.at d'
  refine ⟨rfl, _, _, _, _, c, SB B, MB B, z, vs, s, r, tm, Conc.stepG_spawn (a := a) ho hw hR.kind hr rfl, fun e h' => ?_, fun w w₁ ha hs => sb_aside hR.none_ ha hs, sb_mem hR.none_ hm', hm'.base c _ upB_self, (Conc.recvs_iff ..).2 ⟨q, ?_⟩, hS.out⟩
  · have := Conc.mem_listed h'
    rw [he] at this
    simp at this
  · have := ((kn _ hm' _ (h.nop undef)).out (pre ++ [⟨none, .go { callee := .value x, args := #[], argTypes := ats }, ty, pos, af, g⟩]) (by rw [hl]; simp)).out
    simpa using this

/-- back from a call, beside the sender -/
theorem rcl_back {c m : Nat} {z : Value} {Fin : Goroutine → World → Prop} {vs : List Value} {v : Value} {pre : List Oper} {op' : Oper} (hl : l = pre ++ op' :: rest) (hop : op'.dst = some d) (hd : Nat.blt d n = true) (h : Holds E n a) (kn : ∀ a', Holds ((d, v) :: E) n a' → RcL P B c z Fin vs m b k cs l rest a' w) :
    RcV P B c z Fin vs m (Conc.G (b.at (a.put ((l.toArray[pre.length]?).bind (·.dst)) v) (.inRegion l.toArray (List.range' (pre.length + 1) rest.length) :: k)) cs) w := by
  have ho : l.toArray[pre.length]? = some op' := by simp [hl]
  rw [ho]
  show RcV P B c z Fin vs m (Conc.G (b.at (a.put op'.dst v) _) cs) w
  rw [hop]
  have := (kn _ (h.put hd v)).out (pre ++ [op']) (by rw [hl]; simp)
  simpa using this

theorem does_makeChan {dir : ChanDir} {e : TypeId} {Φ : Value → World → Prop} {inf : TypeInfo} (hm : Mem W0 X B L w) (ht : P.underlying t = some (.chan dir e)) (hi : P.info? e = some inf) (hx : ev E x = some (.int .i64 0))
    (kn : ∀ c w', Mem W0 X B (.blk c (.chan 0 #[] false 0 0 false) :: L) w' → Φ (.chan (some c)) w') : Does P (.makeChan t x) ty E w Φ := by
  refine does_of fun ρ hρ => ?_
  have h1 := Conc.run_makeChan (P := P) (w := w) ht hi .i64 0 (by omega) (by simp)
  have : (execOp ρ (mk (.makeChan t x) ty)).run P w = .ok (.value (.chan (some w.heap.size))) (w.alloc (.chan 0 #[] false 0 0 false)) := by
    simp only [execOp, mk, hρ _ _ hx, Sem.run_bind]
    rw [show ((0 : Int)) = ((0 : Nat) : Int) from rfl, h1]
    rfl
  rw [this]
  exact kn _ _ (hm.alloc _)
end

/-- A call that makes a slice and starts one goroutine on its way. -/
structure Forks (P : Program) (f : FuncId) (us : List Value) (T : TypeId) (sz : Nat) (cells : List Value) : Prop where
  out : ∀ (Post : Value → World → Prop) (q : Nat) (w : World) (c : Frame) (cs : List Frame), (∀ v m w', Ext w w' → w'.ownsRow w.heap.size T sz v m cells → Walk P (PStop P Post q) (Conc.G (c.finish v) cs) w') →
    Walk P (PStop P Post (q + 1)) (Conc.G (Frame.enter P f us.toArray .normal) (c :: cs)) w

section
variable {P : Program} {W0 : World} {X : List Nat} {B : Heap} {L : List Own} {b : Frame} {a : Act} {k : List Item} {cs : List Frame} {w : World} {l rest : List Oper} {E : Env} {n d : Nat} {ty : TypeId} {pos : String} {af : Array Edge} {g : Option (Nat × Bool)}
theorem wl_fork [hk : KN b] {Post : Value → World → Prop} {q : Nat} {f : FuncId} {args : List Operand} {ats : Array TypeId} {us : List Value} {T : TypeId} {sz : Nat} {cells : List Value} (hg : wantedE l E g = some true) (hd : Nat.blt d n = true) (h : Holds E n a) (hm : Mem W0 X B L w)
    (hen : Enters P f) (hx : evs E args = some us) (hF : Forks P f us T sz cells) (kn : ∀ v w', Mem W0 X B (.row v T sz cells :: L) w' → ∀ a', Holds ((d, v) :: E) n a' → WkL P (PStop P Post q) b k cs l rest a' w') :
    WkL P (PStop P Post (q + 1)) b k cs l (⟨some d, .call { callee := .value (.func f), args := args.toArray, argTypes := ats }, ty, pos, af, g⟩ :: rest) a w := by
  refine wl_next fun pre hl' ho _ => Walk.of rfl fun d' => ?_
  have hr : (execOp a.eval ⟨some d, .call { callee := .value (.func f), args := args.toArray, argTypes := ats }, ty, pos, af, g⟩).run P (w.at d') = .ok (.enter f us.toArray) (w.at d') := by
    simp only [execOp, resolve, List.map_toArray, evs_map h.sat _ _ hx, h.sat (.func f) _ rfl, Deferred.ofValue]
    simp only [Sem.run_bind, Sem.run_pure, Result.andThen_ok, invoke]
    rw [hen.out]
    simp
  have hM : Mild ((execOp a.eval ⟨some d, .call { callee := .value (.func f), args := args.toArray, argTypes := ats }, ty, pos, af, g⟩).events P (w.at d') #[]) := by
    refine nm_events ?_ _
    simp only [execOp, resolve, List.map_toArray, evs_map h.sat _ _ hx, h.sat (.func f) _ rfl, Deferred.ofValue]
    exact hen.nm _
  refine ⟨_, _, _, Conc.stepG_enter (a := a) ho (wanted_of (o := ⟨some d, .call { callee := .value (.func f), args := args.toArray, argTypes := ats }, ty, pos, af, g⟩) h hg) hk.out hr, fun e he m hm => hM e (Conc.mem_listed he) m hm, ?_⟩
  refine hF.out Post q _ _ cs fun v m w' hw hrow => ?_
  rw [Frame.finish_at, ho]
  have := (kn v w' ((hm.at d').addRow hw hrow) _ (h.put hd v)).out (pre ++ [⟨some d, .call { callee := .value (.func f), args := args.toArray, argTypes := ats }, ty, pos, af, g⟩]) (by rw [hl']; simp)
  simpa using this
end
end Go.Proofs.Ytedgbmefajnjeaa.St
