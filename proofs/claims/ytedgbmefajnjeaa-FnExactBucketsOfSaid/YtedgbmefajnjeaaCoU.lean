/-
  Goroutine 0 beside its sender: what the sender reads stays as it is, the channel's block is the machine's; every step up to the next receive.
-/
import Derived.Test.YtedgbmefajnjeaaCoT
import Derived.Conc.AppendEvents3
set_option linter.unusedSimpArgs false
set_option linter.unusedVariables false
namespace Go.Proofs.Ytedgbmefajnjeaa.St
open Go.RowKit Go.Proofs.Ytedgbmefajnjeaa.Co

def upB (B : Heap) (c : Nat) (o : Obj) : Heap := fun b => if b = c then some o else B b
theorem upB_self {B : Heap} {c : Nat} {o : Obj} : upB B c o c = some o := by simp [upB]
theorem upB_ne {B : Heap} {c b : Nat} {o : Obj} (h : b ≠ c) : upB B c o b = B b := by simp [upB, h]

section
variable {W0 : World} {X : List Nat} {B : Heap} {L : List Own} {w w' w₁ : World} {c : Nat} {o o' : Obj}
theorem Mem.froze {b : Nat} (h : Mem W0 X B (.blk b o :: L) w) : Mem W0 X (upB B b o) L w := by
  have hd := h.drop
  refine ⟨hd.os, hd.tape, hd.output, hd.size, hd.block, fun k o' hk => ?_, hd.own, hd.fresh, fun x hx k hk => ?_, hd.nodup⟩
  · by_cases e : k = b
    · subst e; rw [upB_self] at hk; rw [← Option.some.inj hk]; exact h.own _ (List.mem_cons_self ..)
    · rw [upB_ne e] at hk; exact h.base _ _ hk
  · have hne : k ≠ b := by
      intro e; subst e
      have := h.nodup
      simp only [List.filterMap_cons, Own.dom] at this
      exact (List.nodup_cons.1 this).1 (List.mem_filterMap.2 ⟨x, hx, hk⟩)
    rw [upB_ne hne]; exact hd.apart x hx k hk
/-- back to the call's own base -/
theorem Mem.thaw (h : Mem W0 [] B L w) : Mem W0 [] (fun b => W0.heap[b]?) L w :=
  ⟨h.os, h.tape, h.output, h.size, h.block, fun b o hb => by rw [h.block b (Array.getElem?_eq_some_iff.1 hb).1 (by simp)]; exact hb, h.own, h.fresh, fun x hx b hb => by
    rcases h.fresh x hx b hb with h' | h'
    · exact Array.getElem?_eq_none h'
    · simp at h', h.nodup⟩

theorem mem_aside (hc : W0.heap.size ≤ c) (h : Mem W0 X (upB B c o) L w) (ha : Conc.Aside c w w₁) : ∃ o', Mem W0 X (upB B c o') L w₁ := by
  have hlt : c < w₁.heap.size := by rw [ha.size]; exact (Array.getElem?_eq_some_iff.1 (h.base c o upB_self)).1
  refine ⟨w₁.heap[c], ha.os.trans h.os, ha.tape.trans h.tape, ha.output.trans h.output, by rw [ha.size]; exact h.size, fun k hk hX => by rw [ha.block k (by omega)]; exact h.block k hk hX, fun b o' hb => ?_, fun x hx => Own.keep (h.own x hx) fun b hb => ha.block b ?_, h.fresh, fun x hx b hb => ?_, h.nodup⟩
  · by_cases e : b = c
    · subst e; rw [upB_self] at hb; rw [← Option.some.inj hb]; exact Array.getElem?_eq_getElem hlt
    · rw [upB_ne e] at hb; rw [ha.block b e]; exact h.base b o' (by rw [upB_ne e]; exact hb)
  · intro e; subst e; have := h.apart x hx b hb; rw [upB_self] at this; cases this
  · have := h.apart x hx b hb
    have hne : b ≠ c := by intro e; subst e; rw [upB_self] at this; cases this
    rw [upB_ne hne] at this ⊢; exact this
theorem sb_mem (hB : B c = none) (h : Mem W0 X (upB B c o) L w) : SB B w := fun b o' hb => by
  refine h.base b o' ?_
  rw [upB_ne (by intro e; subst e; rw [hB] at hb; cases hb)]; exact hb
theorem sb_aside (hB : B c = none) (ha : Conc.Aside c w w') (h : SB B w) : SB B w' := fun b o' hb => by
  rw [ha.block b (by intro e; subst e; rw [hB] at hb; cases hb)]; exact h b o' hb
end

/-- the receiver's script from here -/
structure RcV (P : Program) (B : Heap) (c : Nat) (z : Value) (Fin : Goroutine → World → Prop) (vs : List Value) (m : Nat) (g : Goroutine) (w : World) : Prop where
  out : Conc.Goes P true (Conc.Aside c) (Conc.DA c (SB B) (MB B)) (Conc.StopA P c (SB B) (MB B) z Fin vs) m g w

/-- what holds all the time -/
structure RcX (W0 : World) (B : Heap) (c : Nat) (b : Frame) : Prop where
  fresh : W0.heap.size ≤ c
  none_ : B c = none
  kind : b.kind ≠ .early

section
variable {P : Program} {B : Heap} {c : Nat} {z : Value} {Fin : Goroutine → World → Prop} {vs : List Value} {m : Nat} {b : Frame} {a : Act} {k : List Item} {cs : List Frame} {w : World}
theorem rv_ctl {g g' : Goroutine} (hs : g.status = .running) (h : ∀ w, stepG P true g w = .go g' w #[]) (hk : RcV P B c z Fin vs m g' w) : RcV P B c z Fin vs (m + 1) g w :=
  ⟨Conc.Goes.step hs fun w₁ h₁ => by rw [h w₁]; exact ⟨⟨id, rfl, by simp⟩, Conc.Goes.rely (R := Conc.Aside c) (fun _ _ _ x y => Conc.Aside.trans x y) hk.out h₁⟩⟩
theorem rv_seq {x y : Code} (h : RcV P B c z Fin vs m (Conc.G (b.at a (.code x :: .code y :: k)) cs) w) : RcV P B c z Fin vs (m + 1) (Conc.G (b.at a (.code (.seq x y) :: k)) cs) w := rv_ctl rfl (fun _ => Conc.stepG_seq) h
theorem rv_skip (h : RcV P B c z Fin vs m (Conc.G (b.at a k) cs) w) : RcV P B c z Fin vs (m + 1) (Conc.G (b.at a (.code .skip :: k)) cs) w := rv_ctl rfl (fun _ => Conc.stepG_skip) h
theorem rv_inBlock {id : Nat} (h : RcV P B c z Fin vs m (Conc.G (b.at a k) cs) w) : RcV P B c z Fin vs (m + 1) (Conc.G (b.at a (.inBlock id :: k)) cs) w := rv_ctl rfl (fun _ => Conc.stepG_inBlock) h
theorem rv_block {id : Nat} {x : Code} (h : RcV P B c z Fin vs m (Conc.G (b.at a (.code x :: .inBlock id :: k)) cs) w) : RcV P B c z Fin vs (m + 1) (Conc.G (b.at a (.code (.block id x) :: k)) cs) w := rv_ctl rfl (fun _ => Conc.stepG_block) h
theorem rv_loop {x : Code} (h : RcV P B c z Fin vs m (Conc.G (b.at a (.code x :: .inLoop x :: k)) cs) w) : RcV P B c z Fin vs (m + 1) (Conc.G (b.at a (.code (.loop x) :: k)) cs) w := rv_ctl rfl (fun _ => Conc.stepG_loop) h
theorem rv_inLoop {x : Code} (h : RcV P B c z Fin vs m (Conc.G (b.at a (.code x :: .inLoop x :: k)) cs) w) : RcV P B c z Fin vs (m + 1) (Conc.G (b.at a (.inLoop x :: k)) cs) w := rv_ctl rfl (fun _ => Conc.stepG_inLoop) h
theorem rv_exit {id : Nat} {k' : List Item} (he : exitTo id k = some k') (h : RcV P B c z Fin vs m (Conc.G (b.at a k') cs) w) : RcV P B c z Fin vs (m + 1) (Conc.G (b.at a (.code (.exit id) :: k)) cs) w := rv_ctl rfl (fun _ => Conc.stepG_exit he) h
variable {E : Env} {n : Nat}
theorem rv_condT {o : Operand} {x y : Code} (h : Holds E n a) (ho : ev E o = some (.bool true)) (hk : RcV P B c z Fin vs m (Conc.G (b.at a (.code x :: k)) cs) w) : RcV P B c z Fin vs (m + 1) (Conc.G (b.at a (.code (.cond o x y) :: k)) cs) w :=
  rv_ctl rfl (fun _ => Conc.stepG_cond (t := true) (h.sat _ _ ho)) hk
theorem rv_condF {o : Operand} {x y : Code} (h : Holds E n a) (ho : ev E o = some (.bool false)) (hk : RcV P B c z Fin vs m (Conc.G (b.at a (.code y :: k)) cs) w) : RcV P B c z Fin vs (m + 1) (Conc.G (b.at a (.code (.cond o x y) :: k)) cs) w :=
  rv_ctl rfl (fun _ => Conc.stepG_cond (t := false) (h.sat _ _ ho)) hk
theorem RcV.le {g : Goroutine} {m' : Nat} (hl : Nat.ble m m' = true) (h : RcV P B c z Fin vs m g w) : RcV P B c z Fin vs m' g w := by
  have hl' := Nat.le_of_ble_eq_true hl
  obtain ⟨j, rfl⟩ := Nat.le.dest hl'
  clear hl hl'
  induction j with
  | zero => exact h
  | succ j ih => exact ⟨ih.out.more⟩
/-- A loop that takes one value a round. -/
theorem rv_rounds {β : Type} {x : Code} {N : Nat} (enc : β → Value) (I : List β → Act → World → Prop) (bs : List β) (h0 : I bs a w)
    (round : ∀ bs a w, I bs a w → (∀ bs' a' w', I bs' a' w' → bs'.length < bs.length → RcV P B c z Fin (bs'.map enc) N (Conc.G (b.at a' (.code x :: .inLoop x :: k)) cs) w') → RcV P B c z Fin (bs.map enc) N (Conc.G (b.at a (.code x :: .inLoop x :: k)) cs) w) :
    RcV P B c z Fin (bs.map enc) (N + 1) (Conc.G (b.at a (.code (.loop x) :: k)) cs) w := by
  have key : ∀ n bs a w, bs.length = n → I bs a w → RcV P B c z Fin (bs.map enc) N (Conc.G (b.at a (.code x :: .inLoop x :: k)) cs) w := by
    intro n
    induction n using Nat.strongRecOn with
    | _ n ih => exact fun bs a w hn hI => round bs a w hI fun bs' a' w' hI' hlt => ih _ (hn ▸ hlt) bs' a' w' rfl hI'
  exact rv_loop (key _ bs a w rfl h0)
/-- a return to a caller that stands at its call -/
theorem rv_ret {fn : Func} {f : FuncId} {t i : Nat} {v : Value} {b₀ : Frame} {a₀ : Act} {ops : Array Oper} {rest : List Nat} {k₀ : List Item} (hf : P.funcs[f]? = some fn) (hr : fn.results = [ResultVar.tmp t].toArray) (h : Holds E n a) (hv : Env.get E t = some v)
    (hk : RcV P B c z Fin vs m (Conc.G (b₀.at (a₀.put ((ops[i]?).bind (·.dst)) v) (.inRegion ops rest :: k₀)) cs) w) :
    RcV P B c z Fin vs (m + 2) (Conc.G ((Conc.base f).at a (.code .ret :: k)) (b₀.at a₀ (.inRegion ops (i :: rest) :: k₀) :: cs)) w := by
  refine rv_ctl (m := m + 1) rfl (fun _ => Conc.stepG_ret') (rv_ctl rfl (fun w => ?_) hk)
  have hg := h.get t v hv
  have hrun : (results fn a.tmps).run P w = .ok v w := by
    have := results_tmp (t := t) hr a.tmps P w
    rwa [show a.tmps.getD t undef = v by simp [hg]] at this
  rw [stepG_leave' (b := Conc.base f) rfl h.defers hf hrun, Frame.finish_at]
  have : (results fn a.tmps).events P w #[] = #[] := by simp [results, hr]
  simp [this, Conc.seen_none]
end

/-- an operation that writes nothing -/
class NW (P : Program) (op : Op) : Prop where
  out : ∀ (ρ : Operand → Value) (ty : TypeId), RD P (fun _ => True) (execOp ρ (mk op ty))
section
variable {P : Program} {x y : Operand} {t t' : TypeId}
instance : NW P (.move x) := ⟨fun _ _ => trivial⟩
instance : NW P (.assign x) := ⟨fun _ _ => trivial⟩
instance : NW P (.load t x) := ⟨fun _ _ => rd_v (rd_bind rd_sureAddr fun _ => rd_loadVar trivial fun _ => trivial)⟩
instance : NW P (.alloc t) := ⟨fun _ _ => rd_v (rd_bind rd_zeroValue fun _ => rd_bind rd_newVar fun _ => trivial)⟩
instance {i : Nat} : NW P (.extract x i) := ⟨fun _ _ => rd_v rd_extract⟩
instance {n : Nat} {l : Array (Nat × Operand)} : NW P (.buildSlice t n l) := ⟨fun _ _ => rd_v rd_buildSlice⟩
end

/-- operations still to come, in this order -/
structure RcL (P : Program) (B : Heap) (c : Nat) (z : Value) (Fin : Goroutine → World → Prop) (vs : List Value) (m : Nat) (b : Frame) (k : List Item) (cs : List Frame) (l rest : List Oper) (a : Act) (w : World) : Prop where
  out : ∀ pre, l = pre ++ rest → RcV P B c z Fin vs m (Conc.G (b.at a (.inRegion l.toArray (List.range' pre.length rest.length) :: k)) cs) w

section
variable {P : Program} {W0 : World} {X : List Nat} {B : Heap} {L : List Own} {c : Nat} {z : Value} {Fin : Goroutine → World → Prop} {vs : List Value} {m : Nat} {b : Frame} {a : Act} {k : List Item} {cs : List Frame} {w : World}
  {l rest : List Oper} {E : Env} {n d : Nat} {op : Op} {ty t : TypeId} {pos : String} {af : Array Edge} {g : Option (Nat × Bool)} {x y : Operand} {o : Obj}

theorem rv_region {id : Nat} (h : RcL P B c z Fin vs m b k cs l l a w) : RcV P B c z Fin vs (m + 1) (Conc.G (b.at a (.code (.region id l.toArray false) :: k)) cs) w :=
  rv_ctl rfl (fun _ => Conc.stepG_region) (by
    have := h.out [] rfl
    rw [List.size_toArray, List.range_eq_range']
    exact this)
theorem rl_nil (h : RcV P B c z Fin vs m (Conc.G (b.at a k) cs) w) : RcL P B c z Fin vs (m + 1) b k cs l [] a w := ⟨fun _ _ => rv_ctl rfl (fun _ => Conc.stepG_region_end) h⟩

theorem rl_op0 [hne : NE P op] {dst : Option Tmp} {K : Act → Prop} (hR : RcX W0 B c b) (hg : wantedE l E g = some true) (h : Holds E n a) (hm : Mem W0 X (upB B c o) L w) {put : Value → Env}
    (hput : ∀ v, Holds (put v) n (a.put dst v))
    (ke : ∀ ρ w o, Sat E ρ → Mem W0 X (upB B c o) L w → ∀ e ∈ (execOp ρ (mk op ty)).events P w #[], e.write = true → MB B e.loc)
    (kd : ∀ w o, Mem W0 X (upB B c o) L w → Does P op ty E w (fun v w' => (∃ L', Mem W0 X (upB B c o) L' w') ∧ ∀ a', Holds (put v) n a' → RcL P B c z Fin vs m b k cs l rest a' w')) :
    RcL P B c z Fin vs (m + 1) b k cs l (⟨dst, op, ty, pos, af, g⟩ :: rest) a w := by
  refine ⟨fun pre hl => ⟨Conc.Goes.step rfl fun w₁ h₁ => ?_⟩⟩
  have ho : l.toArray[pre.length]? = some ⟨dst, op, ty, pos, af, g⟩ := by simp [hl]
  have hw := wanted_of (o := ⟨dst, op, ty, pos, af, g⟩) h hg
  obtain ⟨o', hm₁⟩ := mem_aside hR.fresh hm h₁
  have D := kd w₁ o' hm₁
  have hu := D.out _ h.sat
  have hev : ∀ e ∈ Conc.listed P b.fn a ⟨dst, op, ty, pos, af, g⟩ w₁, Conc.EvA (MB B) e := fun e he =>
    ⟨fun mk hmk => D.ev _ h.sat e (Conc.mem_listed he) mk hmk, fun hwr => ke _ _ _ h.sat hm₁ e (Conc.mem_listed he) hwr⟩
  have fin : ∀ {v w'}, ((∃ L', Mem W0 X (upB B c o') L' w') ∧ ∀ a', Holds (put v) n a' → RcL P B c z Fin vs m b k cs l rest a' w') →
      Conc.DA c (SB B) (MB B) w₁ w' (Conc.listed P b.fn a ⟨dst, op, ty, pos, af, g⟩ w₁) ∧
      Conc.Goes P true (Conc.Aside c) (Conc.DA c (SB B) (MB B)) (Conc.StopA P c (SB B) (MB B) z Fin vs) m (Conc.G (b.at (a.put dst v) (.inRegion l.toArray (List.range' (pre.length + 1) rest.length) :: k)) cs) w' := by
    rintro v w' ⟨⟨L', hm'⟩, hk'⟩
    refine ⟨⟨fun _ => sb_mem hR.none_ hm', by rw [hm'.base c o' upB_self, hm₁.base c o' upB_self], hev⟩, ?_⟩
    have hn := ((hk' _ (hput v)).out (pre ++ [⟨dst, op, ty, pos, af, g⟩]) (by rw [hl]; simp)).out
    simpa using hn
  simp only [List.length_cons, List.range'_succ]
  generalize hr : (execOp a.eval (mk op ty)).run P w₁ = r at hu
  cases r with
  | ok q w' =>
    cases q <;> simp only [upon] at hu
    case value u => rw [Conc.stepG_value ho hw hR.kind hr]; exact fin hu
    case skip => rw [Conc.stepG_none ho hw hR.kind hr]; exact fin hu
    case enter f args => exact absurd hr (hne.out _ _ _ _ _ _)
  | halt x w' => simp only [upon] at hu

theorem rl_op [NE P op] [hnw : NW P op] (hR : RcX W0 B c b) (hg : wantedE l E g = some true) (hd : Nat.blt d n = true) (h : Holds E n a) (hm : Mem W0 X (upB B c o) L w)
    (kd : ∀ w o, Mem W0 X (upB B c o) L w → Does P op ty E w (fun v w' => (∃ L', Mem W0 X (upB B c o) L' w') ∧ ∀ a', Holds ((d, v) :: E) n a' → RcL P B c z Fin vs m b k cs l rest a' w')) :
    RcL P B c z Fin vs (m + 1) b k cs l (⟨some d, op, ty, pos, af, g⟩ :: rest) a w :=
  rl_op0 (K := fun _ => True) hR hg h hm (put := fun v => (d, v) :: E) (h.put hd) (fun ρ w o _ _ e he hwr => by rw [nw_events (hnw.out ρ ty) e he] at hwr; cases hwr) kd

theorem mb_own (hm : Mem W0 X (upB B c o) L w) {q : Own} (hq : q ∈ L) {u : Nat} (hu : q.dom = some u) {e : Event} {ad : Addr} (he : e.loc = .cell ad) (hb : ad.block = u) : MB B e.loc := by
  refine ⟨ad, he, ?_⟩
  have := hm.apart q hq u hu
  rw [hb]
  unfold upB at this
  split at this
  · cases this
  · exact this

theorem rl_store (i : Nat) {q s b_ : Nat} {zz : Value} {cs0 vs0 : List Value} {T : TypeId} {v : Value} [Sz P t zz s b_] (hR : RcX W0 B c b) (hg : wantedE l E g = some true) (h : Holds E n a) (hm : Mem W0 X (upB B c o) L w)
    (hx : ev E x = some (.pointer (some ⟨q, 0, none⟩))) (hy : ev E y = some v) (hL : L[i]? = some (.blk q (.cells cs0.toArray T (0, 0)))) (hv : v.cells = vs0.toArray) (h1 : oneCells vs0 = true) (hs : Nat.beq vs0.length s = true) (hl0 : Nat.ble (0 + vs0.length) cs0.length = true)
    (kn : ∀ w' o', Mem W0 X (upB B c o') (L.set i (.blk q (.cells (splice cs0 0 vs0).toArray T (0, 0)))) w' → ∀ a', Holds E n a' → RcL P B c z Fin vs m b k cs l rest a' w') :
    RcL P B c z Fin vs (m + 1) b k cs l (⟨none, .store t x y, ty, pos, af, g⟩ :: rest) a w := by
  refine rl_op0 (K := fun _ => True) hR hg h hm (put := fun _ => E) h.nop (fun ρ w o hρ hm e he _ => ?_) (fun w o hm => does_storeO i hm hx hy hL hv h1 hs hl0 fun w' hm' => ⟨⟨_, hm'⟩, fun a' ha' => kn w' o hm' a' ha'⟩)
  have hs' := Nat.eq_of_beq_eq_true hs
  have hev : (execOp ρ (mk (.store t x y) ty)).events P w #[] = (storeCells ⟨q, 0, none⟩ vs0).events P w #[] := by
    have h0 : execOp ρ (mk (.store t x y) ty) = (do Instr.storeAt t (.pointer (some ⟨q, 0, none⟩)) v; pure .skip : Sem Next) := by
      simp only [execOp, mk, hρ _ _ hx, hρ _ _ hy]
    have h2 : (Instr.storeAt t (.pointer (some ⟨q, 0, none⟩)) v).events P w #[] = (storeCells ⟨q, 0, none⟩ vs0).events P w #[] := by
      simp only [Instr.storeAt, Instr.sureAddr, storeVar, Sem.events_bind, Sem.run_bind, Sem.run_pure, Sem.events_pure, Result.evThen_ok, Result.andThen_ok, run_size (P := P) (t := t), events_sizeOf, hv]
      simp [hs']
    rw [h0, Sem.events_bind, h2]
    generalize (Instr.storeAt t (.pointer (some ⟨q, 0, none⟩)) v).run P w = r
    cases r <;> rfl
  rw [hev] at he
  rcases events_storeCells_at (P := P) q 0 T vs0 0 cs0.toArray w #[] (mem_idx hm hL) (by simpa using Nat.le_of_ble_eq_true hl0) (oneCells_mem h1) e he with h' | ⟨ad, h2, h3⟩
  · simp at h'
  · exact mb_own hm (List.mem_of_getElem? hL) rfl h2 h3

theorem rl_app (i j : Nat) {e r n' m' c' bytes sz : Nat} {zs cs0 news : List Value} {zz : Value} {v : Value} {fz : Nat × Nat} {T : TypeId} [hs : SliceT P t e] [hz : ZeroC P e zs] [hb : Sz P e zz sz bytes] (hR : RcX W0 B c b) (hg : wantedE l E g = some true) (hd : Nat.blt d n = true) (h : Holds E n a) (hm : Mem W0 X (upB B c o) L w)
    (hx : ev E x = some v) (hy : ev E y = some (.slice (some ⟨r, 0, none⟩) m' c')) (hL : L[i]? = some (.row v e sz cs0)) (hj : L[j]? = some (.blk r (.cells news.toArray T fz))) (hsz : 0 < sz) (hcs : cs0.length = n' * sz) (hl : news.length = m' * sz) (h1 : oneCells news = true)
    (hby : (n' + m') * bytes ≤ 140737488355328) (h63 : n' + m' ≤ maxLen)
    (kn : ∀ v' w' o', Mem W0 X (upB B c o') (L.set i (.row v' e sz (cs0 ++ news))) w' → ∀ a', Holds ((d, v') :: E) n a' → RcL P B c z Fin vs m b k cs l rest a' w') :
    RcL P B c z Fin vs (m + 1) b k cs l (⟨some d, .call { callee := .builtin .append, args := [x, y].toArray, argTypes := [t, t].toArray }, ty, pos, af, g⟩ :: rest) a w := by
  have hat : ∀ {w o}, Mem W0 X (upB B c o) L w → At (fun b => w.heap[b]?) ⟨r, 0, none⟩ news := fun hm => at_own hm hj fun j v hv => by rw [Nat.zero_add]; exact hv
  refine rl_op0 (K := fun _ => True) hR hg h hm (put := fun v => (d, v) :: E) (h.put hd) (fun ρ w o hρ hm ev he hwr => ?_) (fun w o hm => does_app i hm hx hy hL hsz hcs hl (hat hm) (oneCells_mem h1) hby h63 fun v' w' hm' => ⟨⟨_, hm'⟩, fun a' ha' => kn v' w' o hm' a' ha'⟩)
  obtain ⟨inf, hi, hzz, hsize, hbytes⟩ := sz_parts (h := hb)
  obtain ⟨n2, hown⟩ := mem_idx hm hL
  obtain rfl : n2 = n' := by
    have h1 := hown.1
    rw [hcs] at h1
    exact (Nat.eq_of_mul_eq_mul_right hsz h1).symm
  have hev : (execOp ρ (mk (.call { callee := .builtin .append, args := [x, y].toArray, argTypes := [t, t].toArray }) ty)).events P w #[] = (Builtin.append_ #[t, t] ty #[v, .slice (some ⟨r, 0, none⟩) m' c']).events P w #[] := by
    have : execOp ρ (mk (.call { callee := .builtin .append, args := [x, y].toArray, argTypes := [t, t].toArray }) ty) = (do pure (.value (← Builtin.append_ #[t, t] ty #[v, .slice (some ⟨r, 0, none⟩) m' c'])) : Sem Next) := by
      simp only [execOp, mk, resolve, List.map_toArray, List.map_cons, List.map_nil, hρ _ _ hx, hρ _ _ hy]
      rfl
    rw [this, Sem.events_bind]
    generalize (Builtin.append_ #[t, t] ty #[v, .slice (some ⟨r, 0, none⟩) m' c']).run P w = q
    cases q <;> rfl
  rw [hev] at he
  rcases events_append_where (P := P) w 0 t ty e inf zz sz bytes hs.out hi hzz hsize hbytes v n2 cs0 hown ⟨r, 0, none⟩ m' c' news hl (fun j u hj => (hat hm).cell (fun _ _ h => h) hj) (oneCells_mem h1) h63 hby ev he with ⟨ad, h2, h3⟩ | ⟨mk, rfl, _⟩
  · rcases h3 with ⟨h3, _⟩ | h3
    · rw [h3] at hwr; cases hwr
    · exact mb_own hm (List.mem_of_getElem? hL) h3.symm h2 rfl
  · cases hwr

theorem at_recv {e : TypeId} {z0 : Value} {dir : ChanDir} {pre : List Oper} {Next : Goroutine → World → Prop} (ht : P.underlying t = some (.chan dir e)) (hz : ∀ w, (zeroValue e).run P w = .ok z0 w) (hR : RcX W0 B c b) (hg : wantedE l E g = some true) (h : Holds E n a)
    (hm : Mem W0 X (upB B c o) L w) (hx : ev E x = some (.chan (some c))) (hl : l = pre ++ ⟨some d, .recv t x true, ty, pos, af, g⟩ :: rest)
    (hn : ∀ w₂ o₂, Mem W0 X (upB B c o₂) L w₂ → Next (Conc.G (b.at a (.inRegion l.toArray (pre.length :: List.range' (pre.length + 1) rest.length) :: k)) cs) w₂) :
    Conc.AtRecv P c (MB B) z0 Next (Conc.G (b.at a (.inRegion l.toArray (pre.length :: List.range' (pre.length + 1) rest.length) :: k)) cs) w := by
  have ho : l.toArray[pre.length]? = some ⟨some d, .recv t x true, ty, pos, af, g⟩ := by simp [hl]
  have hw := wanted_of (o := ⟨some d, .recv t x true, ty, pos, af, g⟩) h hg
  have hv := h.sat _ _ hx
  have hr : (execOp a.eval ⟨some d, .recv t x true, ty, pos, af, g⟩).run P w = .ok (.comm #[Conc.rcase c z0] true (.recv true)) w := by
    simp [execOp, run_underlying ht, hz, hv, Conc.rcase]
  have he : ∀ e' ∈ (execOp a.eval ⟨some d, .recv t x true, ty, pos, af, g⟩).events P w #[], e'.write = false := nw_events (p := fun _ => True) (by
    refine rd_bind rd_underlying fun _ => ?_
    split
    · exact rd_bind rd_zeroValue fun _ => trivial
    · exact trivial)
  have hM : Mild ((execOp a.eval ⟨some d, .recv t x true, ty, pos, af, g⟩).events P w #[]) := nm_events (by
    refine nm_bind nm_underlying fun _ => ?_
    split
    · exact nm_bind nm_zeroValue fun _ => trivial
    · exact trivial) w
  refine ⟨rfl, _, Conc.stepG_comm (a := a) ho hw hR.kind hr, fun e' h' => ⟨fun m hm' => hM e' (Conc.mem_listed h') m hm', fun hwr => ?_⟩, fun w₂ ha => ?_⟩
  · rw [he e' (Conc.mem_listed h')] at hwr; cases hwr
  · obtain ⟨o₂, hm₂⟩ := mem_aside hR.fresh hm ha
    exact hn w₂ o₂ hm₂

/-- it stands at a receive of one more -/
theorem rl_recv {e : TypeId} {z0 : Value} {dir : ChanDir} {v : Value} (q : Nat) (ht : P.underlying t = some (.chan dir e)) (hz : ∀ w, (zeroValue e).run P w = .ok z0 w) (hR : RcX W0 B c b) (hg : wantedE l E g = some true) (hd : Nat.blt d n = true) (h : Holds E n a) (hm : Mem W0 X (upB B c o) L w)
    (hx : ev E x = some (.chan (some c)))
    (kn : ∀ w' o', Mem W0 X (upB B c o') L w' → ∀ a', Holds ((d, .tuple [v, .bool true].toArray) :: E) n a' → RcL P B c z0 Fin vs q b k cs l rest a' w') :
    RcL P B c z0 Fin (v :: vs) m b k cs l (⟨some d, .recv t x true, ty, pos, af, g⟩ :: rest) a w := by
  refine ⟨fun pre hl => ⟨Conc.Goes.stop fun w₁ h₁ => ?_⟩⟩
  obtain ⟨o₁, hm₁⟩ := mem_aside hR.fresh hm h₁
  simp only [List.length_cons, List.range'_succ]
  show Conc.AtRecv P c (MB B) z0 (fun g₂ w₂ => Conc.Recvs P c (SB B) (MB B) z0 Fin vs (Conc.served g₂ (.tuple #[v, .bool true])) w₂) _ w₁
  refine at_recv ht hz hR hg h hm₁ hx hl fun w₂ o₂ hm₂ => (Conc.recvs_iff ..).2 ⟨q, ?_⟩
  have ho : l.toArray[pre.length]? = some ⟨some d, .recv t x true, ty, pos, af, g⟩ := by simp [hl]
  rw [Conc.served_G, ho]
  have := ((kn w₂ o₂ hm₂ _ (h.put hd _)).out (pre ++ [⟨some d, .recv t x true, ty, pos, af, g⟩]) (by rw [hl]; simp)).out
  simpa using this

/-- it stands at the receive that finds the channel closed -/
theorem rl_recv0 {e : TypeId} {z0 : Value} {dir : ChanDir} (ht : P.underlying t = some (.chan dir e)) (hz : ∀ w, (zeroValue e).run P w = .ok z0 w) (hR : RcX W0 B c b) (hg : wantedE l E g = some true) (hd : Nat.blt d n = true) (h : Holds E n a) (hm : Mem W0 X (upB B c o) L w)
    (hx : ev E x = some (.chan (some c)))
    (kn : ∀ w' o', Mem W0 X (upB B c o') L w' → ∀ a', Holds ((d, .tuple [z0, .bool false].toArray) :: E) n a' → ∀ pre, l = pre ++ rest → Fin (Conc.G (b.at a' (.inRegion l.toArray (List.range' pre.length rest.length) :: k)) cs) w') :
    RcL P B c z0 Fin [] m b k cs l (⟨some d, .recv t x true, ty, pos, af, g⟩ :: rest) a w := by
  refine ⟨fun pre hl => ⟨Conc.Goes.stop fun w₁ h₁ => ?_⟩⟩
  obtain ⟨o₁, hm₁⟩ := mem_aside hR.fresh hm h₁
  simp only [List.length_cons, List.range'_succ]
  show Conc.AtRecv P c (MB B) z0 (fun g₂ w₂ => Fin (Conc.served g₂ (.tuple #[z0, .bool false])) w₂) _ w₁
  refine at_recv ht hz hR hg h hm₁ hx hl fun w₂ o₂ hm₂ => ?_
  have ho : l.toArray[pre.length]? = some ⟨some d, .recv t x true, ty, pos, af, g⟩ := by simp [hl]
  show Fin _ _
  rw [Conc.served_G, ho]
  have := kn w₂ o₂ hm₂ _ (h.put hd _) (pre ++ [⟨some d, .recv t x true, ty, pos, af, g⟩]) (by rw [hl]; simp)
  simpa using this
end
end Go.Proofs.Ytedgbmefajnjeaa.St
