/-
  Regions that draw their order: each operation is proved from the results of those that it waits for; the order is then of no account.
-/
import Derived.Test.YtedgbmefajnjeaaStMem
set_option linter.unusedSimpArgs false
set_option linter.unusedVariables false
namespace Go.Proofs.Ytedgbmefajnjeaa.St
open Go.RowKit Go.Proofs.Ytedgbmefajnjeaa.Co

inductive Rs where
  | val (v : Value)
  | pred (r : Value → World → Prop)
  /-- a new block o; the value, by its number -/
  | own (f : Nat → Value) (o : Obj)
  /-- the new block of operation j holds o from now on -/
  | upd (j : Nat) (o : Obj)

def Rs.sat : Rs → Value → World → Prop
  | .val u, v, _ => v = u
  | .pred r, v, w => r v w
  | .own f _, v, _ => ∃ b, v = f b
  | .upd _ _, v, _ => v = undef

def Rs.plain : Rs → Bool
  | .own _ _ => false
  | .upd _ _ => false
  | _ => true

def Rs.mono (S : World → World → Prop) : Rs → Prop
  | .pred r => ∀ v w w', r v w → S w w' → r v w'
  | _ => True

theorem Rs.up {S : World → World → Prop} {r : Rs} (hr : r.mono S) {v : Value} {w w' : World} (h : r.sat v w) (hx : S w w') : r.sat v w' := by
  cases r with
  | val u => exact h
  | pred r => exact hr v w w' h hx
  | own f o => exact h
  | upd j o => exact h

def DepF : List (Nat × Rs) → Env → World → (Env → Prop) → Prop
  | [], E, _, k => k E
  | (t, .val v) :: ds, E, w, k => DepF ds ((t, v) :: E) w k
  | (t, .pred r) :: ds, E, w, k => ∀ v, r v w → DepF ds ((t, v) :: E) w k
  | (t, .own f _) :: ds, E, w, k => ∀ b, DepF ds ((t, f b) :: E) w k
  | (t, .upd _ _) :: ds, E, w, k => DepF ds ((t, undef) :: E) w k

structure Dep (ds : List (Nat × Rs)) (E : Env) (w : World) (k : Env → Prop) : Prop where
  out : DepF ds E w k

theorem dep_nil {E : Env} {w : World} {k : Env → Prop} (h : k E) : Dep [] E w k := ⟨h⟩
theorem dep_val {E : Env} {w : World} {k : Env → Prop} {t : Nat} {v : Value} {ds : List (Nat × Rs)} (h : Dep ds ((t, v) :: E) w k) : Dep ((t, .val v) :: ds) E w k := ⟨h.out⟩
theorem dep_pred {E : Env} {w : World} {k : Env → Prop} {t : Nat} {r : Value → World → Prop} {ds : List (Nat × Rs)} (h : ∀ v, r v w → Dep ds ((t, v) :: E) w k) : Dep ((t, .pred r) :: ds) E w k := ⟨fun v hv => (h v hv).out⟩
theorem dep_own {E : Env} {w : World} {k : Env → Prop} {t : Nat} {f : Nat → Value} {o : Obj} {ds : List (Nat × Rs)} (h : ∀ b, Dep ds ((t, f b) :: E) w k) : Dep ((t, .own f o) :: ds) E w k := ⟨fun b => (h b).out⟩

/-- what Dep gives, at an activation that meets every one of the entries -/
theorem dep_out {w : World} {k : Env → Prop} (a : Act) : ∀ (ds : List (Nat × Rs)) (E : Env), Dep ds E w k → (∀ x ∈ ds, ∃ v, a.tmps[x.1]? = some v ∧ x.2.sat v w) →
    ∃ E', k E' ∧ ∀ t v, Env.get E' t = some v → ((∃ r, (t, r) ∈ ds) ∧ a.tmps[t]? = some v) ∨ ((∀ r, (t, r) ∉ ds) ∧ Env.get E t = some v)
  | [], E, h, _ => ⟨E, h.out, fun t v hv => .inr ⟨fun r => by simp, hv⟩⟩
  | (s, r) :: ds, E, h, ha => by
    obtain ⟨u, hu, hs⟩ := ha (s, r) (List.mem_cons_self ..)
    have hd : Dep ds ((s, u) :: E) w k := by
      cases r with
      | val u' => simp only [Rs.sat] at hs; subst hs; exact ⟨h.out⟩
      | pred r => exact ⟨h.out u hs⟩
      | own f o =>
        obtain ⟨b, rfl⟩ := hs
        exact ⟨h.out b⟩
      | upd j o => simp only [Rs.sat] at hs; subst hs; exact ⟨h.out⟩
    obtain ⟨E', hk, hE⟩ := dep_out a ds ((s, u) :: E) hd (fun x hx => ha x (List.mem_cons_of_mem _ hx))
    refine ⟨E', hk, fun t v hv => ?_⟩
    rcases hE t v hv with ⟨⟨r', hr'⟩, hv'⟩ | ⟨hn, hv'⟩
    · exact .inl ⟨⟨r', List.mem_cons_of_mem _ hr'⟩, hv'⟩
    · simp only [Env.get] at hv'
      by_cases hst : s = t
      · subst hst
        simp at hv'
        subst hv'
        exact .inl ⟨⟨r, List.mem_cons_self ..⟩, hu⟩
      · rw [beqF hst] at hv'
        refine .inr ⟨fun r' hr' => ?_, by simpa using hv'⟩
        rcases List.mem_cons.1 hr' with h1 | h1
        · exact hst (congrArg Prod.fst h1).symm
        · exact hn r' h1

def depsL (l : List Oper) (rs : List Rs) : List Edge → List (Nat × Rs)
  | [] => []
  | e :: es => match Region.binds .any e with
    | true => match (l[e.on]?).bind (·.dst) with
      | some d => match rs[e.on]? with
        | some r => (d, r) :: depsL l rs es
        | none => depsL l rs es
      | none => depsL l rs es
    | false => depsL l rs es

theorem mem_depsL {l : List Oper} {rs : List Rs} : ∀ {es : List Edge} {d : Nat} {r : Rs}, (d, r) ∈ depsL l rs es ↔ ∃ e ∈ es, Region.binds .any e = true ∧ (l[e.on]?).bind (·.dst) = some d ∧ rs[e.on]? = some r
  | [], d, r => by simp [depsL]
  | e :: es, d, r => by
    have ih := mem_depsL (l := l) (rs := rs) (es := es) (d := d) (r := r)
    unfold depsL
    constructor
    · intro h
      split at h
      · rename_i hb
        split at h
        · rename_i d' hd
          split at h
          · rename_i r' hr
            rcases List.mem_cons.1 h with h1 | h1
            · cases h1
              exact ⟨e, List.mem_cons_self .., hb, hd, hr⟩
            · obtain ⟨e', he, hh⟩ := ih.1 h1
              exact ⟨e', List.mem_cons_of_mem _ he, hh⟩
          · obtain ⟨e', he, hh⟩ := ih.1 h
            exact ⟨e', List.mem_cons_of_mem _ he, hh⟩
        · obtain ⟨e', he, hh⟩ := ih.1 h
          exact ⟨e', List.mem_cons_of_mem _ he, hh⟩
      · obtain ⟨e', he, hh⟩ := ih.1 h
        exact ⟨e', List.mem_cons_of_mem _ he, hh⟩
    · rintro ⟨e', he, hb, hd, hr⟩
      rcases List.mem_cons.1 he with rfl | he
      · simp [hb, hd, hr]
      · have := ih.2 ⟨e', he, hb, hd, hr⟩
        split
        · split
          · split
            · exact List.mem_cons_of_mem _ this
            · exact this
          · exact this
        · exact this

abbrev Al := List (Nat × Nat × Obj)

/-- what an operation does, as its result is said -/
def DoesR (P : Program) (l : List Oper) (rs : List Rs) (D : Al → World → Prop) (op : Op) (ty : TypeId) (E : Env) (w : World) : Rs → Prop
  | .own f o => ∀ ρ, Sat E ρ → ∀ w, (execOp ρ (mk op ty)).run P w = .ok (.value (f w.heap.size)) (w.alloc o) ∧ Mild ((execOp ρ (mk op ty)).events P w #[])
  | .upd j o => ∃ d b f o0, (l[j]?).bind (·.dst) = some d ∧ rs[j]? = some (.own f o0) ∧ Env.get E d = some (f b) ∧ (∀ x y, f x = f y → x = y) ∧ ∀ (al : Al) (i : Nat), D al w → al[i]? = some (j, b, o0) → Does P op ty E w (fun v w' => v = undef ∧ D (al.set i (j, b, o)) w')
  | r => Does P op ty E w (fun v w' => Ext w w' ∧ r.sat v w')

structure OpVC (P : Program) (l : List Oper) (rs : List Rs) (D : Al → World → Prop) (g : Option (Nat × Bool)) (op : Op) (ty : TypeId) (r : Rs) (E : Env) (w : World) : Prop where
  out : (wantedE l E g = some true ∧ DoesR P l rs D op ty E w r) ∨ (wantedE l E g = some false ∧ r.sat undef w ∧ r.plain = true)

section
variable {P : Program} {l : List Oper} {rs : List Rs} {D : Al → World → Prop} {g : Option (Nat × Bool)} {op : Op} {ty : TypeId} {r : Rs} {E : Env} {w : World}
theorem vc_run {u : Value} (hg : wantedE l E g = some true) (h : Does P op ty E w (fun v w' => Ext w w' ∧ v = u)) : OpVC P l rs D g op ty (.val u) E w := ⟨.inl ⟨hg, h⟩⟩
theorem vc_pred {q : Value → World → Prop} (hg : wantedE l E g = some true) (h : Does P op ty E w (fun v w' => Ext w w' ∧ q v w')) : OpVC P l rs D g op ty (.pred q) E w := ⟨.inl ⟨hg, h⟩⟩
theorem vc_own {f : Nat → Value} {o : Obj} [hn : NMOp P op] (hg : wantedE l E g = some true) (h : ∀ ρ, Sat E ρ → ∀ w, (execOp ρ (mk op ty)).run P w = .ok (.value (f w.heap.size)) (w.alloc o)) : OpVC P l rs D g op ty (.own f o) E w := ⟨.inl ⟨hg, fun ρ hρ w => ⟨h ρ hρ w, nm_events (hn.out ρ ty "") w⟩⟩⟩
theorem vc_upd {j d b : Nat} {f : Nat → Value} {o o0 : Obj} (hg : wantedE l E g = some true) (hd : (l[j]?).bind (·.dst) = some d) (hr : rs[j]? = some (.own f o0)) (hE : Env.get E d = some (f b)) (hinj : ∀ x y, f x = f y → x = y)
    (h : ∀ (al : Al) (i : Nat), D al w → al[i]? = some (j, b, o0) → Does P op ty E w (fun v w' => v = undef ∧ D (al.set i (j, b, o)) w')) : OpVC P l rs D g op ty (.upd j o) E w := ⟨.inl ⟨hg, d, b, f, o0, hd, hr, hE, hinj, h⟩⟩
theorem vc_skip (hg : wantedE l E g = some false) : OpVC P l rs D g op ty (.val undef) E w := ⟨.inr ⟨hg, rfl, rfl⟩⟩
end

inductive VCs (P : Program) (l : List Oper) (rs : List Rs) (E0 : Env) (C : World → Prop) (D : Al → World → Prop) : List Oper → List Rs → Prop
  | nil : VCs P l rs E0 C D [] []
  | cons {o : Oper} {r : Rs} {os : List Oper} {r' : List Rs} (h : ∀ w, C w → Dep (depsL l rs o.after.toList) E0 w (fun E => OpVC P l rs D o.guard o.op o.type r E w)) (h' : VCs P l rs E0 C D os r') : VCs P l rs E0 C D (o :: os) (r :: r')

theorem vcs_nil {P : Program} {l : List Oper} {rs : List Rs} {E0 : Env} {C : World → Prop} {D : Al → World → Prop} : VCs P l rs E0 C D [] [] := .nil
theorem vcs_cons {P : Program} {l : List Oper} {rs : List Rs} {E0 : Env} {C : World → Prop} {D : Al → World → Prop} {d : Option Tmp} {op : Op} {ty : TypeId} {pos : String} {af : List Edge} {g : Option (Nat × Bool)} {os : List Oper} {r : Rs} {r' : List Rs}
    (h : ∀ w, C w → Dep (depsL l rs af) E0 w (fun E => OpVC P l rs D g op ty r E w)) (h' : VCs P l rs E0 C D os r') : VCs P l rs E0 C D (⟨d, op, ty, pos, af.toArray, g⟩ :: os) (r :: r') := .cons h h'

theorem vcs_get {P : Program} {l : List Oper} {rs : List Rs} {E0 : Env} {C : World → Prop} {D : Al → World → Prop} : ∀ {os : List Oper} {r' : List Rs}, VCs P l rs E0 C D os r' → ∀ {i : Nat} {o : Oper}, os[i]? = some o →
    ∃ r, r'[i]? = some r ∧ ∀ w, C w → Dep (depsL l rs o.after.toList) E0 w (fun E => OpVC P l rs D o.guard o.op o.type r E w)
  | [], [], _, i, o, h => by simp at h
  | _ :: _, r :: _, .cons h1 _, 0, o, h => by
    simp only [List.getElem?_cons_zero, Option.some.injEq] at h
    subst h
    exact ⟨r, rfl, h1⟩
  | _ :: _, _ :: _, .cons _ h2, i + 1, o, h => by
    obtain ⟨r, hr, hh⟩ := vcs_get h2 (i := i) (o := o) (by simpa using h)
    exact ⟨r, by simpa using hr, hh⟩

def pairs : List Oper → List Rs → List (Nat × Rs)
  | ⟨some d, _, _, _, _, _⟩ :: os, r :: rs => (d, r) :: pairs os rs
  | _ :: os, _ :: rs => pairs os rs
  | _, _ => []

theorem mem_pairs : ∀ {os : List Oper} {rs : List Rs} {d : Nat} {r : Rs}, (d, r) ∈ pairs os rs → ∃ (i : Nat) (o : Oper), os[i]? = some o ∧ o.dst = some d ∧ rs[i]? = some r
  | [], _, d, r, h => by simp [pairs] at h
  | ⟨some d', _, _, _, _, _⟩ :: os, [], d, r, h => by simp [pairs] at h
  | ⟨none, _, _, _, _, _⟩ :: os, [], d, r, h => by simp [pairs] at h
  | ⟨some d', _, _, _, _, _⟩ :: os, r' :: rs, d, r, h => by
    simp only [pairs, List.mem_cons] at h
    rcases h with h | h
    · cases h; exact ⟨0, _, rfl, rfl, rfl⟩
    · obtain ⟨i, o, h1, h2, h3⟩ := mem_pairs h
      exact ⟨i + 1, o, by simpa using h1, h2, by simpa using h3⟩
  | ⟨none, _, _, _, _, _⟩ :: os, r' :: rs, d, r, h => by
    obtain ⟨i, o, h1, h2, h3⟩ := mem_pairs (os := os) (rs := rs) (by simpa [pairs] using h)
    exact ⟨i + 1, o, by simpa using h1, h2, by simpa using h3⟩

theorem pairs_mem : ∀ {os : List Oper} {rs : List Rs} {i : Nat} {o : Oper} {d : Nat} {r : Rs}, os[i]? = some o → o.dst = some d → rs[i]? = some r → (d, r) ∈ pairs os rs
  | [], _, i, o, d, r, h, _, _ => by simp at h
  | _ :: _, [], i, o, d, r, _, _, h => by simp at h
  | ⟨d', _, _, _, _, _⟩ :: os, r' :: rs, 0, o, d, r, h1, h2, h3 => by
    simp only [List.getElem?_cons_zero, Option.some.injEq] at h1 h3
    subst h1 h3
    simp only at h2
    subst h2
    simp [pairs]
  | ⟨d', _, _, _, _, _⟩ :: os, r' :: rs, i + 1, o, d, r, h1, h2, h3 => by
    have := pairs_mem (os := os) (rs := rs) (i := i) (by simpa using h1) h2 (by simpa using h3)
    cases d' <;> simp [pairs, this]

/-! ### What is asked of the region's text, by computation -/
def waits (l : List Oper) (j i : Nat) : Bool :=
  match l[j]? with
  | some o => o.after.toList.any fun e => Region.binds .any e && e.on == i
  | none => false

def readOk (l : List Oper) (m i : Nat) (o : Oper) (t : Nat) : Bool :=
  (o.after.toList.any fun e => Region.binds .any e && (((l[e.on]?).bind (·.dst)) == some t)) ||
  ((List.range m).all fun j => (match l[j]? with | some oj => !(oj.dst == some t) | none => true) || j == i || waits l j i)

def isSelect : Op → Bool
  | .select _ _ => true
  | _ => false

def opOk (l : List Oper) (m i : Nat) : Bool :=
  match l[i]? with
  | none => true
  | some o => !isSelect o.op && (o.after.toList.all fun e => !Region.binds .any e || Nat.blt e.on i) &&
    ((o.op.operands.toList.all fun x => match x with | .tmp t => readOk l m i o t | _ => true) &&
     (match o.guard with | none => true | some (j, _) => o.after.toList.any fun e => Region.binds .any e && e.on == j))

def dstsOk (l : List Oper) (m : Nat) : Bool :=
  (List.range m).all fun i => (List.range m).all fun j => i == j || (match (l[i]?).bind (·.dst), (l[j]?).bind (·.dst) with | some d, some d' => !(d == d') | _, _ => true)

def sinkB (l : List Oper) (m : Nat) : Bool := (List.range m).all fun i => (List.range (m + 1)).any fun j => Nat.blt i j && waits l j i
def chainB (l : List Oper) (m : Nat) : Bool := (List.range l.length).all fun k => Nat.ble k m || waits l k (k - 1)

def seqB (ops : Array Oper) : Nat → Nat → Array Bool → Bool
  | 0, _, listed => (Region.ready .any ops listed).isEmpty
  | g + 1, k, listed => decide (Region.ready .any ops listed = [k]) && seqB ops g (k + 1) (listed.setIfInBounds k true)

def boundB (l : List Oper) (m n : Nat) : Bool := (List.range m).all fun i => match (l[i]?).bind (·.dst) with | some d => Nat.blt d n | none => true

def drawB (l : List Oper) (m n : Nat) : Bool :=
  Nat.ble m l.length && boundB l m n && ((List.range m).all fun i => opOk l m i) && dstsOk l m && (m == l.length || (sinkB l m && chainB l m)) &&
  seqB l.toArray (l.length - m) m ((List.replicate m true ++ List.replicate (l.length - m) false).toArray)

/-- operation number i in state a, w -/
def wpOp (P : Program) (ops : Array Oper) (i : Nat) (K : Act → World → Prop) (a : Act) (w : World) : Prop :=
  match ops[i]? with
  | none => False
  | some o => if Region.wanted o (yielded ops a.tmps) = true then opw P o a w K else K (a.put o.dst undef) w

theorem wpOp_mono {P : Program} {ops : Array Oper} {i : Nat} {a : Act} {w : World} {K K' : Act → World → Prop} (h : ∀ a w, K a w → K' a w) (hh : wpOp P ops i K a w) : wpOp P ops i K' a w := by
  unfold wpOp at *
  split
  · simp_all
  · rename_i o ho
    simp only [ho] at hh
    split
    · rename_i hw; rw [if_pos hw] at hh; exact opw_mono h hh
    · rename_i hw; rw [if_neg hw] at hh; exact h _ _ hh

/-- whatever order is picked from here on -/
def wpAny (P : Program) (md : Region.Mode) (ops : Array Oper) (Q : Exit → Act → World → Prop) : Nat → Array Bool → Act → World → Prop
  | 0, listed, a, w => Region.ready md ops listed = [] ∧ Q .normal a w
  | fuel + 1, listed, a, w =>
    (Region.ready md ops listed = [] → Q .normal a w) ∧
    ∀ i ∈ Region.ready md ops listed, wpOp P ops i (wpAny P md ops Q fuel (listed.setIfInBounds i true)) a w

theorem any_walk {P : Program} {Stop : Goroutine → World → Prop} {b : Frame} {k : List Item} {cs : List Frame} {Q : Exit → Act → World → Prop} {ops : Array Oper} {md : Region.Mode} (hk : b.kind ≠ .early) (hc : ∀ e a' w', Q e a' w' → Aft P Stop b k cs e a' w') :
    ∀ (fuel t : Nat) (listed : Array Bool) (a : Act) (w : World), wpAny P md ops Q fuel listed a w → Walk P Stop (Conc.G (b.at a (.inRegion ops (Region.linearise.go md ops fuel t listed []) :: k)) cs) w := by
  intro fuel
  induction fuel with
  | zero =>
    intro t listed a w h
    simp only [Region.linearise.go]
    exact Walk.of rfl fun d => ⟨_, _, _, Conc.stepG_region_end, mild_nil, (hc .normal a w h.2 : Walk _ _ _ _).at d⟩
  | succ fuel ih =>
    intro t listed a w h
    obtain ⟨h₀, h₁⟩ := h
    simp only [Region.linearise.go]
    change Walk P Stop (Conc.G (b.at a (.inRegion ops (match (Region.ready md ops listed)[t % (Region.ready md ops listed).length]? with
      | some i => Region.linearise.go md ops fuel (t / (Region.ready md ops listed).length) (listed.setIfInBounds i true) [i]
      | none => [].reverse) :: k)) cs) w
    cases hi : (Region.ready md ops listed)[t % (Region.ready md ops listed).length]? with
    | none =>
      have hnil : Region.ready md ops listed = [] := by
        cases hr : Region.ready md ops listed with
        | nil => rfl
        | cons x xs =>
          rw [hr] at hi
          have hlt : t % (x :: xs).length < (x :: xs).length := Nat.mod_lt _ (by simp)
          simp at hi
          simp at hlt
          omega
      exact Walk.of rfl fun d => ⟨_, _, _, Conc.stepG_region_end, mild_nil, (hc .normal a w (h₀ hnil) : Walk _ _ _ _).at d⟩
    | some i =>
      simp only []
      rw [linearise_go_acc, List.reverse_singleton, List.singleton_append]
      have hop := h₁ i (List.mem_of_getElem? hi)
      unfold wpOp at hop
      split at hop
      · exact hop.elim
      · rename_i o ho
        split at hop
        · rename_i hw
          exact op_walk ho hw hk hop fun a' w' h' => ih _ _ a' w' h'
        · rename_i hw
          exact Walk.of rfl fun d => ⟨_, _, _, Conc.stepG_unwanted ho (by simpa using hw), mild_nil, (ih _ _ _ _ hop).at d⟩

theorem stepG_draw {P : Program} {main : Bool} {b : Frame} {a : Act} {k : List Item} {cs : List Frame} {w : World} {id : Nat} {ops : Array Oper} :
    stepG P main (Conc.G (b.at a (.code (.region id ops true) :: k)) cs) w =
      .go (Conc.G (b.at a (.inRegion ops (Region.schedule (P.follows .mixedOrders) ops (w.tape w.drawn (.order b.fn id))) :: k)) cs) { w with drawn := w.drawn + 1 } := by
  simp [Conc.G, stepG, stepG.exec, Frame.at, choose, Sem.run, Question.forced, Question.cut]

theorem cw_region_any {P : Program} {ops : Array Oper} {Q : Exit → Act → World → Prop} {id : Nat} {a : Act} {w : World} (hm : P.follows .mixedOrders = true)
    (h : ∀ d, wpAny P .any ops Q ops.size (Array.replicate ops.size false) a (w.at d)) : CW P (Code.region id ops true) Q a w :=
  ⟨fun Stop b k cs hk hc => Walk.of rfl fun d => ⟨_, _, _, stepG_draw, mild_nil, by
    simp only [Region.schedule, hm, Bool.true_or, if_true]
    exact any_walk hk hc ops.size _ _ a _ (h (d + 1))⟩⟩

theorem any_seq {P : Program} {ops : Array Oper} {Q : Exit → Act → World → Prop} : ∀ (rest : List Oper) (k : Nat) (listed : Array Bool) (a : Act) (w : World), (∀ j, rest[j]? = ops[k + j]?) →
    seqB ops rest.length k listed = true → wpList P ops Q rest a w → wpAny P .any ops Q rest.length listed a w
  | [], _, _, _, _, _, hB, h => ⟨by simpa [seqB] using hB, h⟩
  | o :: rest, k, listed, a, w, hl, hB, h => by
    have h0 : ops[k]? = some o := by simpa using (hl 0).symm
    simp only [List.length_cons, seqB, Bool.and_eq_true, decide_eq_true_eq] at hB
    obtain ⟨hr, hB'⟩ := hB
    refine ⟨fun hn => (by rw [hr] at hn; cases hn), fun i hi => ?_⟩
    rw [hr] at hi
    obtain rfl : i = k := by simpa using hi
    have ih : ∀ a w, wpList P ops Q rest a w → wpAny P .any ops Q rest.length (listed.setIfInBounds i true) a w := fun a w => any_seq rest (i + 1) (listed.setIfInBounds i true) a w (fun j => by have := hl (j + 1); simpa [Nat.add_assoc, Nat.add_comm 1 j] using this) hB'
    simp only [wpList] at h
    unfold wpOp
    simp only [h0]
    split
    · rename_i hw
      rw [if_pos hw] at h
      exact opw_mono ih h
    · rename_i hw
      rw [if_neg hw] at h
      exact ih _ _ h

def AlAt (l : List Oper) (m : Nat) (rs : List Rs) (listed : Array Bool) (tmps : Array Value) (i b : Nat) (o : Obj) : Prop :=
  i < m ∧ listed.getD i false = true ∧ ∃ oi d f ob, l[i]? = some oi ∧ oi.dst = some d ∧ rs[i]? = some (.own f ob) ∧ tmps[d]? = some (f b) ∧
    ((o = ob ∧ ∀ u o', u < m → listed.getD u false = true → rs[u]? ≠ some (Rs.upd i o')) ∨ ∃ u, u < m ∧ listed.getD u false = true ∧ rs[u]? = some (.upd i o))

structure AlInv (l : List Oper) (m : Nat) (rs : List Rs) (al : Al) (listed : Array Bool) (tmps : Array Value) : Prop where
  ok : ∀ i b o, (i, b, o) ∈ al → AlAt l m rs listed tmps i b o
  all : ∀ i f ob, i < m → listed.getD i false = true → rs[i]? = some (.own f ob) → ∃ b o, (i, b, o) ∈ al
  nd : (al.map (·.1)).Nodup

structure Inv (l : List Oper) (m : Nat) (rs : List Rs) (E0 : Env) (n : Nat) (D : Al → World → Prop) (al : Al) (listed : Array Bool) (a : Act) (w : World) : Prop where
  lsize : listed.size = l.length
  size : a.tmps.size = n
  defers : a.defers = []
  dal : D al w
  als : AlInv l m rs al listed a.tmps
  base : ∀ t v, Env.get E0 t = some v → (∀ i o, i < m → l[i]? = some o → listed.getD i false = true → o.dst ≠ some t) → a.tmps[t]? = some v
  res : ∀ i o d r, i < m → l[i]? = some o → listed.getD i false = true → o.dst = some d → rs[i]? = some r → ∃ v, a.tmps[d]? = some v ∧ r.sat v w
  closed : ∀ j oj, l[j]? = some oj → listed.getD j false = true → ∀ e ∈ oj.after, Region.binds .any e = true → listed.getD e.on false = true
  tail : ∀ t, m ≤ t → t < l.length → listed.getD t true = false

/-- each update waits for its block, and each block has one update at most -/
def updB (l : List Oper) (rs : List Rs) : Nat → List Rs → List Nat → Bool
  | _, [], _ => true
  | u, .upd j _ :: r, seen => waits l u j && !(seen.contains j) && updB l rs (u + 1) r (j :: seen)
  | u, _ :: r, seen => updB l rs (u + 1) r seen

theorem updB_waits {l : List Oper} {rs0 : List Rs} : ∀ {rs : List Rs} {u0 : Nat} {seen : List Nat}, updB l rs0 u0 rs seen = true → ∀ {u j : Nat} {o : Obj}, rs[u]? = some (.upd j o) → waits l (u0 + u) j = true ∧ j ∉ seen ∧ ∀ {u' : Nat} {o' : Obj}, rs[u']? = some (.upd j o') → u' = u
  | [], _, _, _, u, j, o, h => by simp at h
  | r :: rs, u0, seen, hb, u, j, o, h => by
    have key : ∀ seen', updB l rs0 (u0 + 1) rs seen' = true → ∀ u, (r :: rs)[u + 1]? = some (.upd j o) → waits l (u0 + (u + 1)) j = true ∧ j ∉ seen' ∧ ∀ {u' : Nat} {o' : Obj}, rs[u']? = some (.upd j o') → u' = u := fun seen' hb' u h => by
      have := updB_waits hb' (u := u) (j := j) (o := o) (by simpa using h)
      rw [show u0 + (u + 1) = u0 + 1 + u by omega]
      exact this
    cases r with
    | upd j' o1 =>
      simp only [updB, Bool.and_eq_true, Bool.not_eq_true', List.contains_eq_mem, decide_eq_false_iff_not] at hb
      obtain ⟨⟨h1, h2⟩, h3⟩ := hb
      cases u with
      | zero =>
        simp only [List.getElem?_cons_zero, Option.some.injEq, Rs.upd.injEq] at h
        obtain ⟨rfl, rfl⟩ := h
        refine ⟨by simpa using h1, h2, fun {u' o'} h' => ?_⟩
        cases u' with
        | zero => rfl
        | succ u' =>
          have := (updB_waits h3 (u := u') (j := j') (o := o') (by simpa using h')).2.1
          exact absurd (List.mem_cons_self ..) this
      | succ u =>
        obtain ⟨g1, g2, g3⟩ := key _ h3 u h
        refine ⟨g1, fun hm => g2 (List.mem_cons_of_mem _ hm), fun {u' o'} h' => ?_⟩
        cases u' with
        | zero =>
          simp only [List.getElem?_cons_zero, Option.some.injEq, Rs.upd.injEq] at h'
          obtain ⟨rfl, rfl⟩ := h'
          exact absurd (List.mem_cons_self ..) g2
        | succ u' => rw [g3 (u' := u') (o' := o') (by simpa using h')]
    | _ =>
      simp only [updB] at hb
      cases u with
      | zero => simp at h
      | succ u =>
        obtain ⟨g1, g2, g3⟩ := key _ hb u h
        refine ⟨g1, g2, fun {u' o'} h' => ?_⟩
        cases u' with
        | zero => simp at h'
        | succ u' => rw [g3 (u' := u') (o' := o') (by simpa using h')]

theorem getD_set_self {listed : Array Bool} {i : Nat} {b : Bool} (h : i < listed.size) : (listed.setIfInBounds i true).getD i b = true := by
  simp [h]

def rest_count (listed : Array Bool) (m : Nat) : Nat := ((List.range m).filter fun i => !listed.getD i false).length

theorem rest_set {listed : Array Bool} {m i : Nat} (hi : i < m) (hs : i < listed.size) (h : listed.getD i false = false) : rest_count (listed.setIfInBounds i true) m + 1 = rest_count listed m := by
  unfold rest_count
  induction m with
  | zero => omega
  | succ m ih =>
    simp only [List.range_succ, List.filter_append, List.length_append, List.filter_cons, List.filter_nil]
    by_cases him : i = m
    · subst him
      have h1 : ((List.range i).filter fun j => !(listed.setIfInBounds i true).getD j false) = ((List.range i).filter fun j => !listed.getD j false) := by
        apply List.filter_congr
        intro j hj
        have : j < i := List.mem_range.1 hj
        rw [getD_set_ne false (by omega)]
      rw [h1, getD_set_self hs, h]
      simp
    · have := ih (by omega)
      rw [getD_set_ne false him]
      omega

theorem rest_zero {listed : Array Bool} {m : Nat} (h : rest_count listed m = 0) : ∀ i, i < m → listed.getD i false = true := by
  intro i hi
  cases hl : listed.getD i false with
  | true => rfl
  | false =>
    unfold rest_count at h
    have : i ∈ (List.range m).filter fun i => !listed.getD i false := List.mem_filter.2 ⟨List.mem_range.2 hi, by simp [hl]⟩
    rw [List.length_eq_zero_iff.1 h] at this
    cases this

theorem rest_pos {listed : Array Bool} {m f : Nat} (h : rest_count listed m = f + 1) : ∃ i, i < m ∧ listed.getD i false = false ∧ ∀ j, j < i → listed.getD j false = true := by
  have hex : ∃ i, i < m ∧ listed.getD i false = false := by
    unfold rest_count at h
    cases hl : (List.range m).filter fun i => !listed.getD i false with
    | nil => rw [hl] at h; cases h
    | cons i r =>
      have : i ∈ (List.range m).filter fun i => !listed.getD i false := by rw [hl]; exact List.mem_cons_self ..
      obtain ⟨h1, h2⟩ := List.mem_filter.1 this
      exact ⟨i, List.mem_range.1 h1, by simpa using h2⟩
  obtain ⟨i, h1, h2⟩ := hex
  induction i using Nat.strongRecOn with
  | _ i ih =>
    by_cases hj : ∃ j, j < i ∧ listed.getD j false = false
    · obtain ⟨j, hj1, hj2⟩ := hj
      exact ih j hj1 (by omega) hj2
    · refine ⟨i, h1, h2, fun j hj1 => ?_⟩
      cases hl : listed.getD j false with
      | true => rfl
      | false => exact (hj ⟨j, hj1, hl⟩).elim

theorem getD_false_of {listed : Array Bool} {i : Nat} (hs : i < listed.size) (h : listed.getD i false = false) : listed.getD i true = false := by
  simp [hs] at h ⊢; exact h

theorem getD_true_of {listed : Array Bool} {i : Nat} (h : listed.getD i true = false) : listed.getD i false = false := by
  rcases Nat.lt_or_ge i listed.size with h' | h'
  · simp [h'] at h ⊢; exact h
  · simp [Array.getElem?_eq_none h'] at h


theorem wanted_of' {l : List Oper} {E : Env} {tmps : Array Value} {g : Option (Nat × Bool)} {o : Oper} {b : Bool} (ho : o.guard = g) (hs : ∀ j want t, g = some (j, want) → (l[j]?).bind (·.dst) = some t → ∀ v, Env.get E t = some v → tmps[t]? = some v)
    (hg : wantedE l E g = some b) : Region.wanted o (yielded l.toArray tmps) = b := by
  unfold wantedE at hg
  unfold Region.wanted
  rw [ho]
  cases hgd : g with
  | none => simpa [hgd] using hg
  | some p =>
    obtain ⟨j, want⟩ := p
    simp only [hgd] at hg ⊢
    unfold yielded
    simp only [List.getElem?_toArray]
    cases hd : (l[j]?).bind (·.dst) with
    | none => simp [hd] at hg
    | some t =>
      simp only [hd] at hg
      cases hv : Env.get E t with
      | none => simp [hv] at hg
      | some v =>
        simp only [hv] at hg
        have := hs j want t hgd hd _ hv
        cases v <;> simp at hg
        · rename_i c
          simp only [Option.bind_some, this]
          subst hg
          cases c <;> cases want <;> rfl
        · simp only [Option.bind_some, this]
          subst hg
          cases want <;> rfl

section
variable {P : Program} {l : List Oper} {m n : Nat} {rs : List Rs} {E0 : Env} {C : World → Prop}

theorem bound_of (h : boundB l m n = true) {i : Nat} {o : Oper} {d : Nat} (hi : i < m) (ho : l[i]? = some o) (hd : o.dst = some d) : d < n := by
  have := List.all_eq_true.1 h i (List.mem_range.2 hi)
  simpa [ho, hd, Nat.blt_eq] using this

theorem dsts_of (h : dstsOk l m = true) {i j : Nat} {o o' : Oper} {d : Nat} (hi : i < m) (hj : j < m) (ho : l[i]? = some o) (ho' : l[j]? = some o') (hd : o.dst = some d) (hd' : o'.dst = some d) : i = j := by
  have := List.all_eq_true.1 (List.all_eq_true.1 h i (List.mem_range.2 hi)) j (List.mem_range.2 hj)
  simpa [ho, ho', hd, hd'] using this

theorem waits_of {j i : Nat} (h : waits l j i = true) : ∃ oj, l[j]? = some oj ∧ ∃ e ∈ oj.after, Region.binds .any e = true ∧ e.on = i := by
  unfold waits at h
  split at h
  · rename_i oj hj
    obtain ⟨e, he, hb⟩ := List.any_eq_true.1 h
    simp only [Bool.and_eq_true, beq_iff_eq] at hb
    exact ⟨oj, hj, e, Array.mem_toList_iff.1 he, hb.1, hb.2⟩
  · cases h

section
variable {listed : Array Bool} {a : Act} {i : Nat} {oi : Oper} {r : Rs} {v : Value} {al : Al}
theorem put_other (hDs : dstsOk l m = true) (him : i < m) (hoi : l[i]? = some oi) {j : Nat} {oj : Oper} {d : Nat} (hj : j < m) (hoj : l[j]? = some oj) (hd : oj.dst = some d) (hij : i ≠ j) : (a.put oi.dst v).tmps[d]? = a.tmps[d]? := by
  cases he : oi.dst with
  | none => rfl
  | some d' =>
    have : d' ≠ d := fun e => hij (dsts_of hDs him hj hoi hoj (he.trans (by rw [e])) hd)
    simp [Act.put, Array.getElem?_setIfInBounds_ne this]

theorem put_self (hB : boundB l m n = true) (hsize : a.tmps.size = n) (him : i < m) (hoi : l[i]? = some oi) {d : Nat} (hd : oi.dst = some d) : (a.put oi.dst v).tmps[d]? = some v := by
  have := bound_of hB him hoi hd
  simp [Act.put, hd, hsize, this]

theorem AlAt.keep (hDs : dstsOk l m = true) (him : i < m) (hoi : l[i]? = some oi) (hun : listed.getD i false = false) (hr : rs[i]? = some r) {j b : Nat} {o : Obj} (hne : ∀ o', r ≠ .upd j o') (h : AlAt l m rs listed a.tmps j b o) :
    AlAt l m rs (listed.setIfInBounds i true) (a.put oi.dst v).tmps j b o := by
  obtain ⟨h1, h2, oj, d, f, ob, h3, h4, h5, h6, h7⟩ := h
  have hij : i ≠ j := fun e => by subst e; rw [hun] at h2; cases h2
  refine ⟨h1, getD_set_true h2, oj, d, f, ob, h3, h4, h5, by rw [put_other hDs him hoi h1 h3 h4 hij]; exact h6, ?_⟩
  rcases h7 with ⟨rfl, h7⟩ | ⟨u, hu, hl, hru⟩
  · refine .inl ⟨rfl, fun u o' hu hl hru => ?_⟩
    by_cases hiu : i = u
    · subst hiu
      rw [hr] at hru
      exact hne o' (Option.some.inj hru)
    · rw [getD_set_ne false hiu] at hl
      exact h7 u o' hu hl hru
  · exact .inr ⟨u, hu, getD_set_true hl, hru⟩

theorem alinv_plain (hDs : dstsOk l m = true) (him : i < m) (hoi : l[i]? = some oi) (hun : listed.getD i false = false) (hr : rs[i]? = some r) (hp : r.plain = true) (h : AlInv l m rs al listed a.tmps) :
    AlInv l m rs al (listed.setIfInBounds i true) (a.put oi.dst v).tmps := by
  refine ⟨fun j b o hm => (h.ok j b o hm).keep hDs him hoi hun hr (fun o' e => by subst e; cases hp), fun j f ob hj hl hrj => ?_, h.nd⟩
  by_cases hij : i = j
  · subst hij
    rw [hr] at hrj
    obtain rfl := Option.some.inj hrj
    cases hp
  · rw [getD_set_ne false hij] at hl
    exact h.all j f ob hj hl hrj

theorem alinv_own (hB : boundB l m n = true) (hDs : dstsOk l m = true) (hsize : a.tmps.size = n) (hlsz : i < listed.size) (hup : updB l rs 0 rs [] = true) (hclosed : ∀ j oj, l[j]? = some oj → listed.getD j false = true → ∀ e ∈ oj.after, Region.binds .any e = true → listed.getD e.on false = true)
    (him : i < m) (hoi : l[i]? = some oi) (hun : listed.getD i false = false) {f : Nat → Value} {ob : Obj} {b d : Nat} (hr : rs[i]? = some (.own f ob)) (hd : oi.dst = some d) (hv : v = f b) (h : AlInv l m rs al listed a.tmps) :
    AlInv l m rs ((i, b, ob) :: al) (listed.setIfInBounds i true) (a.put oi.dst v).tmps := by
  refine ⟨fun j b' o hm => ?_, fun j f' ob' hj hl hrj => ?_, ?_⟩
  · rcases List.mem_cons.1 hm with hm | hm
    · cases hm
      refine ⟨him, getD_set_self hlsz, oi, d, f, ob, hoi, hd, hr, by rw [put_self hB hsize him hoi hd, hv], .inl ⟨rfl, fun u o' hu hl hru => ?_⟩⟩
      by_cases hiu : i = u
      · subst hiu
        rw [hr] at hru
        cases hru
      · rw [getD_set_ne false hiu] at hl
        obtain ⟨ou, hou, e, he, hb, hon⟩ := waits_of (updB_waits hup hru).1
        rw [Nat.zero_add] at hou
        have := hclosed u ou hou hl e he hb
        rw [hon, hun] at this
        cases this
    · exact (h.ok j b' o hm).keep hDs him hoi hun hr (fun o' e => by cases e)
  · by_cases hij : i = j
    · subst hij
      exact ⟨b, ob, List.mem_cons_self ..⟩
    · rw [getD_set_ne false hij] at hl
      obtain ⟨b', o', hm⟩ := h.all j f' ob' hj hl hrj
      exact ⟨b', o', List.mem_cons_of_mem _ hm⟩
  · simp only [List.map_cons]
    refine List.nodup_cons.2 ⟨fun hin => ?_, h.nd⟩
    obtain ⟨⟨j, b', o'⟩, hm, hj⟩ := List.mem_map.1 hin
    simp only at hj
    subst hj
    have := (h.ok _ b' o' hm).2.1
    rw [hun] at this
    cases this

theorem map_set_fst {al : Al} {k j b b' : Nat} {o o' : Obj} (hk : al[k]? = some (j, b, o)) : (al.set k (j, b', o')).map (·.1) = al.map (·.1) := by
  apply List.ext_getElem?
  intro q
  simp only [List.getElem?_map]
  by_cases hkq : k = q
  · subst hkq
    have hlt := (List.getElem?_eq_some_iff.1 hk).1
    rw [List.getElem?_set_self hlt, hk]
    rfl
  · rw [List.getElem?_set_ne hkq]

theorem alinv_upd (hDs : dstsOk l m = true) (hlsz : i < listed.size) (him : i < m) (hoi : l[i]? = some oi) (hun : listed.getD i false = false) {k j b : Nat} {o o0 : Obj} (hr : rs[i]? = some (.upd j o)) (hk : al[k]? = some (j, b, o0)) (h : AlInv l m rs al listed a.tmps) :
    AlInv l m rs (al.set k (j, b, o)) (listed.setIfInBounds i true) (a.put oi.dst v).tmps := by
  have hlt := (List.getElem?_eq_some_iff.1 hk).1
  have hset : ∀ x ∈ al.set k (j, b, o), x = (j, b, o) ∨ (x ∈ al ∧ x.1 ≠ j) := fun x hx => by
    obtain ⟨q, hq⟩ := List.mem_iff_getElem?.1 hx
    by_cases hkq : k = q
    · subst hkq
      rw [List.getElem?_set_self hlt] at hq
      exact .inl (Option.some.inj hq).symm
    · rw [List.getElem?_set_ne hkq] at hq
      refine .inr ⟨List.mem_of_getElem? hq, fun e => hkq ?_⟩
      have h1 : (al.map (·.1))[q]? = some j := by rw [List.getElem?_map, hq]; simp [e]
      have h2 : (al.map (·.1))[k]? = some j := by rw [List.getElem?_map, hk]; rfl
      exact (List.getElem?_inj (List.getElem?_eq_some_iff.1 h2).1 h.nd).1 (h2.trans h1.symm)
  refine ⟨fun j' b' o' hm => ?_, fun j' f ob hj hl hrj => ?_, by rw [map_set_fst hk]; exact h.nd⟩
  · rcases hset _ hm with e | ⟨hm, hne⟩
    · cases e
      obtain ⟨h1, h2, oj, d, f, ob, h3, h4, h5, h6, h7⟩ := h.ok j b o0 (List.mem_of_getElem? hk)
      have hij : i ≠ j := fun e => by subst e; rw [hun] at h2; cases h2
      exact ⟨h1, getD_set_true h2, oj, d, f, ob, h3, h4, h5, by rw [put_other hDs him hoi h1 h3 h4 hij]; exact h6, .inr ⟨i, him, getD_set_self hlsz, hr⟩⟩
    · exact (h.ok j' b' o' hm).keep hDs him hoi hun hr (fun o'' e => by cases e; exact hne rfl)
  · by_cases hij : i = j'
    · subst hij
      rw [hr] at hrj
      cases hrj
    · rw [getD_set_ne false hij] at hl
      obtain ⟨b', o', hm⟩ := h.all j' f ob hj hl hrj
      obtain ⟨q, hq⟩ := List.mem_iff_getElem?.1 hm
      by_cases hkq : k = q
      · subst hkq
        rw [hk] at hq
        cases hq
        exact ⟨b, o, List.mem_of_getElem? (List.getElem?_set_self hlt)⟩
      · exact ⟨b', o', List.mem_of_getElem? (i := q) (by rw [List.getElem?_set_ne hkq]; exact hq)⟩
end

theorem Inv.step {S : World → World → Prop} {D : Al → World → Prop} {al al' : Al} {listed : Array Bool} {a : Act} {w w' : World} (hB : boundB l m n = true) (hD : dstsOk l m = true) (hmono : ∀ r ∈ rs, r.mono S)
    (inv : Inv l m rs E0 n D al listed a w) {i : Nat} {oi : Oper} {r : Rs} {v : Value} (him : i < m) (hml : m ≤ l.length) (hoi : l[i]? = some oi) (hun : listed.getD i false = false)
    (hall : ∀ e ∈ oi.after, Region.binds .any e = true → listed.getD e.on false = true) (hr : rs[i]? = some r) (hs : r.sat v w') (hx : S w w')
    (hal : AlInv l m rs al' (listed.setIfInBounds i true) (a.put oi.dst v).tmps) (hd' : D al' w') : Inv l m rs E0 n D al' (listed.setIfInBounds i true) (a.put oi.dst v) w' := by
  have hil : i < listed.size := by rw [inv.lsize]; omega
  refine ⟨by simp [inv.lsize], ?_, ?_, hd', hal, ?_, ?_, ?_, ?_⟩
  · cases oi.dst <;> simp [Act.put, inv.size]
  · cases oi.dst <;> simp [Act.put, inv.defers]
  · intro t u hu hno
    have hput : (a.put oi.dst v).tmps[t]? = a.tmps[t]? := by
      have ht := hno i oi him hoi (getD_set_self hil)
      cases hd : oi.dst with
      | none => rfl
      | some d =>
        have : d ≠ t := fun e => ht (by rw [hd, e])
        simp [Act.put, Array.getElem?_setIfInBounds_ne this]
    rw [hput]
    refine inv.base t u hu fun j o hj ho hl => hno j o hj ho ?_
    exact getD_set_true hl
  · intro j o d r' hj ho hl hd hr'
    by_cases hij : i = j
    · subst hij
      obtain rfl : oi = o := Option.some.inj (hoi.symm.trans ho)
      obtain rfl : r = r' := Option.some.inj (hr.symm.trans hr')
      exact ⟨v, put_self hB inv.size him hoi hd, hs⟩
    · rw [getD_set_ne false hij] at hl
      obtain ⟨u, hu, hsu⟩ := inv.res j o d r' hj ho hl hd hr'
      exact ⟨u, by rw [put_other hD him hoi hj ho hd hij]; exact hu, Rs.up (hmono _ (List.mem_of_getElem? hr')) hsu hx⟩
  · intro j oj hj hl e he hb
    by_cases hij : i = j
    · subst hij
      obtain rfl : oi = oj := Option.some.inj (hoi.symm.trans hj)
      exact getD_set_true (hall e he hb)
    · rw [getD_set_ne false hij] at hl
      exact getD_set_true (inv.closed j oj hj hl e he hb)
  · intro t ht ht'
    rw [getD_set_ne true (by omega)]
    exact inv.tail t ht ht'

theorem sink_no {D : Al → World → Prop} {al : Al} {listed : Array Bool} {a : Act} {w : World} (hsk : sinkB l m = true) (inv : Inv l m rs E0 n D al listed a w) (hml : m < l.length) (hr : m ∈ Region.ready .any l.toArray listed) :
    ∀ (d i : Nat), m - i = d → i < m → listed.getD i false = true := by
  intro d
  induction d using Nat.strongRecOn with
  | _ d ih =>
    intro i hd hi
    obtain ⟨_, om, hom, hall⟩ := mem_ready.1 hr
    obtain ⟨j, hj, hj2⟩ := List.any_eq_true.1 (List.all_eq_true.1 hsk i (List.mem_range.2 hi))
    have hjm : j ≤ m := by have := List.mem_range.1 hj; omega
    simp only [Bool.and_eq_true, Nat.blt_eq] at hj2
    obtain ⟨oj, hoj, e, he, hb, hon⟩ := waits_of hj2.2
    by_cases hjm' : j = m
    · subst hjm'
      obtain rfl : oj = om := Option.some.inj (hoj.symm.trans (by simpa using hom))
      exact hon ▸ hall e he hb
    · have := ih (m - j) (by omega) j rfl (by omega)
      exact hon ▸ inv.closed j oj hoj this e he hb

theorem opOk_parts {i : Nat} {o : Oper} (h : opOk l m i = true) (ho : l[i]? = some o) : (∀ cs b, o.op ≠ .select cs b) ∧ (∀ e ∈ o.after, Region.binds .any e = true → e.on < i) ∧
    (∀ t, Operand.tmp t ∈ o.op.operands → readOk l m i o t = true) ∧ (∀ j want, o.guard = some (j, want) → ∃ e ∈ o.after, Region.binds .any e = true ∧ e.on = j) := by
  unfold opOk at h
  simp only [ho, Bool.and_eq_true] at h
  obtain ⟨⟨h1, h2⟩, h3, h4⟩ := h
  refine ⟨fun cs b e => by rw [e] at h1; simp [isSelect] at h1, fun e he hb => ?_, fun t ht => ?_, fun j want hg => ?_⟩
  · have := List.all_eq_true.1 h2 e (Array.mem_toList_iff.2 he)
    simpa [hb, Nat.blt_eq] using this
  · exact List.all_eq_true.1 h3 (.tmp t) (Array.mem_toList_iff.2 ht)
  · rw [hg] at h4
    obtain ⟨e, he, hb⟩ := List.any_eq_true.1 h4
    simp only [Bool.and_eq_true, beq_iff_eq] at hb
    exact ⟨e, Array.mem_toList_iff.1 he, hb.1, hb.2⟩

/-- what the block of operation i holds at last -/
def lastO (rs : List Rs) (i : Nat) (ob : Obj) : Obj :=
  match rs with
  | [] => ob
  | .upd j o :: r => if j = i then o else lastO r i ob
  | _ :: r => lastO r i ob

theorem lastO_upd {i : Nat} {ob o : Obj} : ∀ {rs : List Rs} {u : Nat}, rs[u]? = some (.upd i o) → (∀ u' o', rs[u']? = some (.upd i o') → u' = u) → lastO rs i ob = o
  | [], _, h, _ => by simp at h
  | r :: rs, 0, h, _ => by
    simp only [List.getElem?_cons_zero, Option.some.injEq] at h
    subst h
    simp [lastO]
  | r :: rs, u + 1, h, hu => by
    have ih := lastO_upd (i := i) (ob := ob) (o := o) (rs := rs) (u := u) (by simpa using h) (fun u' o' h' => by
      have := hu (u' + 1) o' (by simpa using h')
      omega)
    cases r with
    | upd j o1 =>
      have : j ≠ i := fun e => by
        subst e
        have := hu 0 o1 rfl
        omega
      simp [lastO, this, ih]
    | _ => simpa [lastO] using ih

theorem lastO_none {i : Nat} {ob : Obj} : ∀ {rs : List Rs}, (∀ (u : Nat) (o' : Obj), rs[u]? ≠ some (Rs.upd i o')) → lastO rs i ob = ob
  | [], _ => rfl
  | r :: rs, h => by
    have ih := lastO_none (i := i) (ob := ob) (rs := rs) (fun (u : Nat) (o' : Obj) h' => h (u + 1) o' (by simpa using h'))
    cases r with
    | upd j o1 =>
      have : j ≠ i := fun e => by subst e; exact h 0 o1 rfl
      simp [lastO, this, ih]
    | _ => simpa [lastO] using ih

/-- what follows the region, for every number of a new block -/
def FinF (rs0 : List Rs) : List Oper → List Rs → Nat → Al → List (Nat × Rs) → (Al → List (Nat × Rs) → Prop) → Prop
  | ⟨some d, _, _, _, _, _⟩ :: os, .own f o :: rs, i, al, acc, k => ∀ b, FinF rs0 os rs (i + 1) ((i, b, lastO rs0 i o) :: al) ((d, .val (f b)) :: acc) k
  | ⟨none, _, _, _, _, _⟩ :: _, .own _ _ :: _, _, _, _, _ => False
  | ⟨some d, _, _, _, _, _⟩ :: os, r :: rs, i, al, acc, k => FinF rs0 os rs (i + 1) al ((d, r) :: acc) k
  | ⟨none, _, _, _, _, _⟩ :: os, _ :: rs, i, al, acc, k => FinF rs0 os rs (i + 1) al acc k
  | _, _, _, al, acc, k => k al acc

def canon (rs0 : List Rs) (β : Nat → Nat) : List Rs → Nat → Al
  | .own _ o :: rs, i => (i, β i, lastO rs0 i o) :: canon rs0 β rs (i + 1)
  | _ :: rs, i => canon rs0 β rs (i + 1)
  | [], _ => []

theorem canon_cons_not {rs0 : List Rs} {β : Nat → Nat} {r : Rs} {rs : List Rs} {i : Nat} (h : ∀ f o, r ≠ .own f o) : canon rs0 β (r :: rs) i = canon rs0 β rs (i + 1) := by
  cases r with
  | own f o => exact absurd rfl (h f o)
  | val _ => rfl
  | pred _ => rfl
  | upd _ _ => rfl

theorem mem_canon {rs0 : List Rs} (β : Nat → Nat) : ∀ (rs : List Rs) (i : Nat) (x : Nat × Nat × Obj), x ∈ canon rs0 β rs i ↔ ∃ j f o, rs[j]? = some (.own f o) ∧ x = (i + j, β (i + j), lastO rs0 (i + j) o)
  | [], i, x => by simp [canon]
  | r :: rs, i, x => by
    have ih := mem_canon (rs0 := rs0) β rs (i + 1) x
    have hsh : (∃ j f o, rs[j]? = some (.own f o) ∧ x = (i + 1 + j, β (i + 1 + j), lastO rs0 (i + 1 + j) o)) ↔ ∃ j f o, (r :: rs)[j + 1]? = some (.own f o) ∧ x = (i + (j + 1), β (i + (j + 1)), lastO rs0 (i + (j + 1)) o) := by
      constructor
      · rintro ⟨j, f, o, h1, h2⟩
        exact ⟨j, f, o, by simpa using h1, by rw [show i + (j + 1) = i + 1 + j by omega]; exact h2⟩
      · rintro ⟨j, f, o, h1, h2⟩
        exact ⟨j, f, o, by simpa using h1, by rw [show i + 1 + j = i + (j + 1) by omega]; exact h2⟩
    by_cases hr : ∃ f o, r = .own f o
    · obtain ⟨f0, o0, rfl⟩ := hr
      simp only [canon, List.mem_cons, ih, hsh]
      constructor
      · rintro (rfl | ⟨j, f, o, h1, h2⟩)
        · exact ⟨0, f0, o0, rfl, rfl⟩
        · exact ⟨j + 1, f, o, h1, h2⟩
      · rintro ⟨j, f, o, h1, h2⟩
        cases j with
        | zero =>
          simp only [List.getElem?_cons_zero, Option.some.injEq, Rs.own.injEq] at h1
          obtain ⟨rfl, rfl⟩ := h1
          exact .inl h2
        | succ j => exact .inr ⟨j, f, o, h1, h2⟩
    · rw [canon_cons_not (fun f o e => hr ⟨f, o, e⟩), ih, hsh]
      constructor
      · rintro ⟨j, f, o, h1, h2⟩
        exact ⟨j + 1, f, o, h1, h2⟩
      · rintro ⟨j, f, o, h1, h2⟩
        cases j with
        | zero =>
          simp only [List.getElem?_cons_zero, Option.some.injEq] at h1
          exact absurd ⟨f, o, h1⟩ hr
        | succ j => exact ⟨j, f, o, h1, h2⟩

theorem canon_nodup {rs0 : List Rs} (β : Nat → Nat) : ∀ (rs : List Rs) (i : Nat), (canon rs0 β rs i).Nodup
  | [], _ => by simp [canon]
  | r :: rs, i => by
    have ih := canon_nodup (rs0 := rs0) β rs (i + 1)
    by_cases hr : ∃ f o, r = .own f o
    · obtain ⟨f0, o0, rfl⟩ := hr
      simp only [canon]
      refine List.nodup_cons.2 ⟨fun h => ?_, ih⟩
      obtain ⟨j, f, o, _, h2⟩ := (mem_canon β rs (i + 1) _).1 h
      have := congrArg Prod.fst h2
      simp only at this
      omega
    · rw [canon_cons_not (fun f o e => hr ⟨f, o, e⟩)]
      exact ih

def ownVal (β : Nat → Nat) (i : Nat) : Rs → Rs
  | .own f _ => .val (f (β i))
  | r => r

def pairsB (β : Nat → Nat) : List Oper → List Rs → Nat → List (Nat × Rs)
  | ⟨some d, _, _, _, _, _⟩ :: os, r :: rs, i => (d, ownVal β i r) :: pairsB β os rs (i + 1)
  | ⟨none, _, _, _, _, _⟩ :: os, _ :: rs, i => pairsB β os rs (i + 1)
  | _, _, _ => []

theorem mem_pairsB (β : Nat → Nat) : ∀ {os : List Oper} {rs : List Rs} {i : Nat} {d : Nat} {r : Rs}, (d, r) ∈ pairsB β os rs i → ∃ (j : Nat) (o : Oper) (r0 : Rs), os[j]? = some o ∧ o.dst = some d ∧ rs[j]? = some r0 ∧ r = ownVal β (i + j) r0
  | [], _, i, d, r, h => by simp [pairsB] at h
  | ⟨some d', _, _, _, _, _⟩ :: os, [], i, d, r, h => by simp [pairsB] at h
  | ⟨none, _, _, _, _, _⟩ :: os, [], i, d, r, h => by simp [pairsB] at h
  | ⟨none, _, _, _, _, _⟩ :: os, r' :: rs, i, d, r, h => by
    simp only [pairsB] at h
    obtain ⟨j, o, r0, h1, h2, h3, h4⟩ := mem_pairsB β h
    exact ⟨j + 1, o, r0, by simpa using h1, h2, by simpa using h3, by rw [show i + (j + 1) = i + 1 + j by omega]; exact h4⟩
  | ⟨some d', op, ty, pos, af, g⟩ :: os, r' :: rs, i, d, r, h => by
    simp only [pairsB, List.mem_cons] at h
    rcases h with h | h
    · cases h; exact ⟨0, _, _, rfl, rfl, rfl, rfl⟩
    · obtain ⟨j, o, r0, h1, h2, h3, h4⟩ := mem_pairsB β h
      exact ⟨j + 1, o, r0, by simpa using h1, h2, by simpa using h3, by rw [show i + (j + 1) = i + 1 + j by omega]; exact h4⟩

theorem pairsB_mem (β : Nat → Nat) : ∀ {os : List Oper} {rs : List Rs} {i j : Nat} {o : Oper} {d : Nat} {r : Rs}, os[j]? = some o → o.dst = some d → rs[j]? = some r → ∃ r', (d, r') ∈ pairsB β os rs i
  | [], _, i, j, o, d, r, h, _, _ => by simp at h
  | _ :: _, [], i, j, o, d, r, _, _, h => by simp at h
  | ⟨d', _, _, _, _, _⟩ :: os, r' :: rs, i, 0, o, d, r, h1, h2, h3 => by
    simp only [List.getElem?_cons_zero, Option.some.injEq] at h1 h3
    subst h1 h3
    simp only at h2
    subst h2
    exact ⟨_, List.mem_cons_self ..⟩
  | ⟨d', _, _, _, _, _⟩ :: os, r' :: rs, i, j + 1, o, d, r, h1, h2, h3 => by
    obtain ⟨x, hx⟩ := pairsB_mem β (os := os) (rs := rs) (i := i + 1) (j := j) (by simpa using h1) h2 (by simpa using h3)
    cases d' with
    | none => exact ⟨x, by simpa [pairsB] using hx⟩
    | some d'' => exact ⟨x, List.mem_cons_of_mem _ hx⟩

theorem fin_out {rs0 : List Rs} (β : Nat → Nat) {k : Al → List (Nat × Rs) → Prop} : ∀ (os : List Oper) (rs : List Rs) (i : Nat) (al : Al) (acc : List (Nat × Rs)), os.length = rs.length → FinF rs0 os rs i al acc k →
    k ((canon rs0 β rs i).reverse ++ al) ((pairsB β os rs i).reverse ++ acc)
  | [], [], i, al, acc, _, h => by simpa [canon, pairsB, FinF] using h
  | ⟨some d, _, _, _, _, _⟩ :: os, r :: rs, i, al, acc, hl, h => by
    cases r with
    | own f o =>
      have := fin_out β os rs (i + 1) _ _ (by simpa using hl) (h (β i))
      simpa [canon, pairsB, ownVal] using this
    | val u =>
      have := fin_out β os rs (i + 1) _ _ (by simpa using hl) h
      simpa [canon, pairsB, ownVal] using this
    | pred q =>
      have := fin_out β os rs (i + 1) _ _ (by simpa using hl) h
      simpa [canon, pairsB, ownVal] using this
    | upd j o =>
      have := fin_out β os rs (i + 1) _ _ (by simpa using hl) h
      simpa [canon, pairsB, ownVal] using this
  | ⟨none, _, _, _, _, _⟩ :: os, r :: rs, i, al, acc, hl, h => by
    cases r with
    | own f o => exact h.elim
    | val u =>
      have := fin_out β os rs (i + 1) _ _ (by simpa using hl) h
      simpa [canon, pairsB] using this
    | pred q =>
      have := fin_out β os rs (i + 1) _ _ (by simpa using hl) h
      simpa [canon, pairsB] using this
    | upd j o =>
      have := fin_out β os rs (i + 1) _ _ (by simpa using hl) h
      simpa [canon, pairsB] using this
  | [], _ :: _, _, _, _, hl, _ => by simp at hl
  | _ :: _, [], _, _, _, hl, _ => by simp at hl

theorem vcs_length {D : Al → World → Prop} : ∀ {os : List Oper} {r' : List Rs}, VCs P l rs E0 C D os r' → os.length = r'.length
  | [], [], _ => rfl
  | _ :: _, _ :: _, .cons _ h => by simp [vcs_length h]

def ownDst : List Oper → List Rs → Bool
  | ⟨none, _, _, _, _, _⟩ :: _, .own _ _ :: _ => false
  | _ :: os, _ :: rs => ownDst os rs
  | _, _ => true

theorem ownDst_get : ∀ {os : List Oper} {rs : List Rs}, ownDst os rs = true → ∀ {i : Nat} {o : Oper} {f : Nat → Value} {ob : Obj}, os[i]? = some o → rs[i]? = some (.own f ob) → ∃ d, o.dst = some d
  | [], _, _, i, o, f, ob, h, _ => by simp at h
  | _ :: _, [], _, i, o, f, ob, _, h => by simp at h
  | ⟨none, _, _, _, _, _⟩ :: os, r :: rs, hd, 0, o, f, ob, h1, h2 => by
    simp only [List.getElem?_cons_zero, Option.some.injEq] at h1 h2
    subst h2
    simp [ownDst] at hd
  | ⟨some d, _, _, _, _, _⟩ :: os, r :: rs, hd, 0, o, f, ob, h1, h2 => by
    simp only [List.getElem?_cons_zero, Option.some.injEq] at h1
    subst h1
    exact ⟨d, rfl⟩
  | ⟨d, _, _, _, _, _⟩ :: os, r :: rs, hd, i + 1, o, f, ob, h1, h2 => by
    refine ownDst_get (os := os) (rs := rs) ?_ (i := i) (by simpa using h1) (by simpa using h2)
    cases d <;> cases r <;> simp_all [ownDst]

theorem al_unique {al : Al} (h : (al.map (·.1)).Nodup) {i b b' : Nat} {o o' : Obj} (h1 : (i, b, o) ∈ al) (h2 : (i, b', o') ∈ al) : b = b' ∧ o = o' := by
  obtain ⟨p, hp⟩ := List.mem_iff_getElem?.1 h1
  obtain ⟨q, hq⟩ := List.mem_iff_getElem?.1 h2
  have e1 : (al.map (·.1))[p]? = some i := by rw [List.getElem?_map, hp]; rfl
  have e2 : (al.map (·.1))[q]? = some i := by rw [List.getElem?_map, hq]; rfl
  obtain rfl := (List.getElem?_inj (List.getElem?_eq_some_iff.1 e1).1 h).1 (e1.trans e2.symm)
  rw [hp] at hq
  cases hq
  exact ⟨rfl, rfl⟩

theorem draw_key {S : World → World → Prop} {D : Al → World → Prop} {Q : Exit → Act → World → Prop} (hB : drawB l m n = true) (hup : updB l rs 0 rs [] = true) (hown : ownDst (l.take m) rs = true) (hmono : ∀ r ∈ rs, r.mono S)
    (hSx : ∀ w w', Ext w w' → S w w') (hSu : (∃ (u j : Nat) (o : Obj), rs[u]? = some (Rs.upd j o)) → ∀ w w', S w w') (hDC : ∀ al w, D al w → C w) (hDx : ∀ al w w', D al w → Ext w w' → D al w')
    (hDo : ∀ al w i o, D al w → D ((i, w.heap.size, o) :: al) (w.alloc o)) (hDp : ∀ al al' w, D al w → al.Perm al' → D al' w) (vcs : VCs P l rs E0 C D (l.take m) rs)
    (k : FinF rs (l.take m) rs 0 [] [] (fun al acc => ∀ w, D al w → Dep acc E0 w (fun E => ∀ a, Holds E n a → LW P l Q (l.drop m) a w))) :
    ∀ (f : Nat) (listed : Array Bool) (a : Act) (w : World) (al : Al), rest_count listed m = f → Inv l m rs E0 n D al listed a w → wpAny P .any l.toArray Q (f + (l.length - m)) listed a w := by
  unfold drawB at hB
  simp only [Bool.and_eq_true] at hB
  obtain ⟨⟨⟨⟨⟨hml, hbd⟩, hop⟩, hD⟩, hsc⟩, hseq⟩ := hB
  have hml : m ≤ l.length := Nat.le_of_ble_eq_true hml
  have htk : ∀ (i : Nat) (o : Oper), i < m → l[i]? = some o → (l.take m)[i]? = some o := fun i o hi ho => by rw [List.getElem?_take, if_pos hi]; exact ho
  have hrl : rs.length = m := by rw [← vcs_length vcs]; simp; omega
  have hrm : ∀ {i : Nat} {r : Rs}, rs[i]? = some r → i < m := fun h => by rw [← hrl]; exact (List.getElem?_eq_some_iff.1 h).1
  intro f
  induction f with
  | zero =>
    intro listed a w al hf inv
    have hz := rest_zero hf
    have hlisted : listed = ((List.replicate m true ++ List.replicate (l.length - m) false).toArray) := by
      apply Array.ext
      · simp [inv.lsize]; omega
      · intro i h1 h2
        have hil : i < l.length := by rw [← inv.lsize]; exact h1
        by_cases him : i < m
        · have := hz i him
          simp [h1] at this
          simp [this, List.getElem_append, him]
        · have := inv.tail i (by omega) hil
          simp [h1] at this
          simp [this, List.getElem_append, him]
    classical
    let β : Nat → Nat := fun i => if h : ∃ b o, (i, b, o) ∈ al then h.choose else 0
    have hβ : ∀ i b o, (i, b, o) ∈ al → β i = b := fun i b o hm => by
      have h : ∃ b o, (i, b, o) ∈ al := ⟨b, o, hm⟩
      have hc := h.choose_spec
      obtain ⟨o', ho'⟩ := hc
      show (if h : ∃ b o, (i, b, o) ∈ al then h.choose else 0) = b
      rw [dif_pos h]
      exact (al_unique inv.als.nd ho' hm).1
    have hlast : ∀ i b o, (i, b, o) ∈ al → ∀ f ob, rs[i]? = some (.own f ob) → o = lastO rs i ob := fun i b o hm f ob hr => by
      obtain ⟨h1, h2, oi, d, f', ob', h3, h4, h5, h6, h7⟩ := inv.als.ok i b o hm
      rw [hr] at h5
      cases h5
      rcases h7 with ⟨rfl, h7⟩ | ⟨u, hu, hl, hru⟩
      · exact (lastO_none fun u o' hru => h7 u o' (hrm hru) (hz u (hrm hru)) hru).symm
      · exact (lastO_upd hru fun u' o' h' => (updB_waits hup hru).2.2 h').symm
    have hperm : al.Perm ((canon rs β rs 0).reverse ++ []) := by
      rw [List.append_nil]
      refine List.Perm.trans ?_ (List.reverse_perm _).symm
      refine (List.perm_ext_iff_of_nodup ?_ (canon_nodup β rs 0)).2 fun x => ?_
      · exact List.Pairwise.of_map (·.1) (fun a b hne e => hne (by rw [e])) inv.als.nd
      · rw [mem_canon]
        constructor
        · intro hx
          obtain ⟨i, b, o⟩ := x
          obtain ⟨h1, h2, oi, d, f', ob', h3, h4, h5, h6, h7⟩ := inv.als.ok i b o hx
          refine ⟨i, f', ob', h5, ?_⟩
          rw [Nat.zero_add, hβ i b o hx, hlast i b o hx f' ob' h5]
        · rintro ⟨j, f', o, hr, rfl⟩
          rw [Nat.zero_add]
          obtain ⟨b, o', hm⟩ := inv.als.all j f' o (hrm hr) (hz j (hrm hr)) hr
          rw [hβ j b o' hm, ← hlast j b o' hm f' o hr]
          exact hm
    have hk0 := fin_out β (l.take m) rs 0 [] [] (vcs_length vcs) k w (hDp _ _ _ inv.dal hperm)
    obtain ⟨E', hk, hE⟩ := dep_out a _ E0 hk0 (fun x hx => by
      obtain ⟨d, r⟩ := x
      rw [List.append_nil, List.mem_reverse] at hx
      obtain ⟨j, o, r0, h1, h2, h3, h4⟩ := mem_pairsB β hx
      have hjm := hrm h3
      rw [List.getElem?_take, if_pos hjm] at h1
      obtain ⟨v, hv, hs⟩ := inv.res j o d r0 hjm h1 (hz j hjm) h2 h3
      refine ⟨v, hv, ?_⟩
      subst h4
      cases r0 with
      | own f' ob =>
        obtain ⟨b, o', hm⟩ := inv.als.all j f' ob hjm (hz j hjm) h3
        obtain ⟨_, _, oi, d', f2, ob2, g3, g4, g5, g6, _⟩ := inv.als.ok j b o' hm
        rw [h1] at g3
        cases g3
        rw [h2] at g4
        cases g4
        rw [h3] at g5
        cases g5
        rw [hv] at g6
        cases g6
        show f' b = f' (β (0 + j))
        rw [Nat.zero_add, hβ j b o' hm]
      | val _ => exact hs
      | pred _ => exact hs
      | upd _ _ => exact hs)
    have hH : Holds E' n a := ⟨inv.size, inv.defers, fun t v hv => by
      rcases hE t v hv with ⟨_, h⟩ | ⟨hn, h⟩
      · exact h
      · refine inv.base t v h fun i o hi ho _ hd => ?_
        obtain ⟨r, hr, _⟩ := vcs_get vcs (htk i o hi ho)
        obtain ⟨r', hr'⟩ := pairsB_mem β (i := 0) (htk i o hi ho) hd hr
        exact hn r' (by rw [List.append_nil, List.mem_reverse]; exact hr')⟩
    rw [Nat.zero_add]
    have := any_seq (P := P) (ops := l.toArray) (Q := Q) (l.drop m) m listed a w (fun j => by simp [List.getElem?_drop]) (by rw [List.length_drop, hlisted]; exact hseq) (hk a hH).out
    rwa [List.length_drop] at this
  | succ f ih =>
    intro listed a w al hf inv
    rw [show f + 1 + (l.length - m) = (f + (l.length - m)) + 1 by omega]
    obtain ⟨i0, h1, h2, h3⟩ := rest_pos hf
    have hil : ∀ i, i < m → i < listed.size := fun i hi => by rw [inv.lsize]; omega
    obtain ⟨o0, ho0⟩ : ∃ o, l[i0]? = some o := ⟨l[i0]'(by omega), List.getElem?_eq_getElem (by omega)⟩
    have hready : i0 ∈ Region.ready .any l.toArray listed := by
      refine mem_ready.2 ⟨getD_false_of (hil i0 h1) h2, o0, by simpa using ho0, fun e he hb => ?_⟩
      exact h3 _ ((opOk_parts (List.all_eq_true.1 hop i0 (List.mem_range.2 h1)) ho0).2.1 e he hb)
    refine ⟨fun hn => (by rw [hn] at hready; cases hready), fun i hi => ?_⟩
    obtain ⟨hun, oi, hoi', hall⟩ := mem_ready.1 hi
    have hoi : l[i]? = some oi := by simpa using hoi'
    have hilt : i < l.length := (List.getElem?_eq_some_iff.1 hoi).1
    have him : i < m := by
      rcases Nat.lt_or_ge i m with h | h
      · exact h
      · exfalso
        simp only [Bool.or_eq_true, beq_iff_eq, Bool.and_eq_true] at hsc
        rcases hsc with hsc | ⟨hs, hc⟩
        · omega
        · by_cases hie : i = m
          · subst hie
            have := sink_no hs inv hilt hi _ i0 rfl h1
            rw [h2] at this
            cases this
          · have h4 := List.all_eq_true.1 hc i (List.mem_range.2 hilt)
            simp only [Bool.or_eq_true] at h4
            rcases h4 with h4 | h4
            · have := Nat.le_of_ble_eq_true h4; omega
            · obtain ⟨o', ho', e, he, hb, hon⟩ := waits_of h4
              obtain rfl : o' = oi := Option.some.inj (ho'.symm.trans hoi)
              have h5 := hall e he hb
              rw [hon, getD_true_of (inv.tail (i - 1) (by omega) (by omega))] at h5
              cases h5
    have hunf := getD_true_of hun
    obtain ⟨hsel, hon, hread, hguard⟩ := opOk_parts (List.all_eq_true.1 hop i (List.mem_range.2 him)) hoi
    obtain ⟨r, hr, hvc⟩ := vcs_get vcs (htk i oi him hoi)
    have hdep : ∀ e ∈ oi.after, Region.binds .any e = true → ∀ t, (l[e.on]?).bind (·.dst) = some t → ∃ r', (t, r') ∈ depsL l rs oi.after.toList := fun e he hb t hd => by
      cases hq : l[e.on]? with
      | none => simp [hq] at hd
      | some oe =>
        obtain ⟨r', hr', _⟩ := vcs_get vcs (htk e.on oe (by have := hon e he hb; omega) hq)
        exact ⟨r', mem_depsL.2 ⟨e, Array.mem_toList_iff.2 he, hb, hd, hr'⟩⟩
    have key : ∀ w, Inv l m rs E0 n D al listed a w → ∃ (E' : Env) (ρ : Operand → Value), Sat E' ρ ∧ execOp a.eval oi = execOp ρ oi ∧ (∀ j want t, oi.guard = some (j, want) → (l[j]?).bind (·.dst) = some t → ∀ v, Env.get E' t = some v → a.tmps[t]? = some v) ∧
        OpVC P l rs D oi.guard oi.op oi.type r E' w ∧ ∀ t v, Env.get E' t = some v → (∀ r', (t, r') ∉ depsL l rs oi.after.toList) ∨ a.tmps[t]? = some v := by
      intro w inv
      obtain ⟨E', hk, hE⟩ := dep_out a _ E0 (hvc w (hDC al w inv.dal)) (fun x hx => by
        obtain ⟨d, r'⟩ := x
        obtain ⟨e, he, hb, hd, hr'⟩ := mem_depsL.1 hx
        have he' := Array.mem_toList_iff.1 he
        cases hq : l[e.on]? with
        | none => simp [hq] at hd
        | some oe =>
          simp only [hq, Option.bind_some] at hd
          exact inv.res e.on oe d r' (by have := hon e he' hb; omega) hq (hall e he' hb) hd hr')
      let ρ : Operand → Value := fun x => (ev E' x).getD (a.eval x)
      have hρ : Sat E' ρ := fun x v hx => by simp [ρ, hx]
      have hsame : ∀ x ∈ oi.op.operands, a.eval x = ρ x := by
        intro x hx
        cases x with
        | tmp t =>
          cases hv : Env.get E' t with
          | none => simp [ρ, ev, hv]
          | some v =>
            have hat : a.tmps[t]? = some v := by
              rcases hE t v hv with ⟨_, h⟩ | ⟨hn, h⟩
              · exact h
              · refine inv.base t v h fun j oj hj hoj hl hd => ?_
                have hro := hread t hx
                unfold readOk at hro
                simp only [Bool.or_eq_true] at hro
                rcases hro with hro | hro
                · obtain ⟨e, he, hb⟩ := List.any_eq_true.1 hro
                  simp only [Bool.and_eq_true, beq_iff_eq] at hb
                  obtain ⟨r', hr'⟩ := hdep e (Array.mem_toList_iff.1 he) hb.1 t hb.2
                  exact hn r' hr'
                · have h6 := List.all_eq_true.1 hro j (List.mem_range.2 hj)
                  simp only [Bool.or_eq_true, hoj, hd] at h6
                  rcases h6 with (h6 | h6) | h6
                  · simp at h6
                  · have : j = i := by simpa using h6
                    subst this
                    rw [hunf] at hl
                    cases hl
                  · obtain ⟨o', ho', e, he, hb, hon'⟩ := waits_of h6
                    obtain rfl : o' = oj := Option.some.inj (ho'.symm.trans hoj)
                    have := inv.closed j o' hoj hl e he hb
                    rw [hon', hunf] at this
                    cases this
            simp [ρ, ev, hv, Act.eval, hat]
        | const c => rfl
        | global g => rfl
        | func f => rfl
      have hex : execOp a.eval oi = execOp ρ oi := execOp_congr oi hsel hsame
      have hslot : ∀ j want t, oi.guard = some (j, want) → (l[j]?).bind (·.dst) = some t → ∀ v, Env.get E' t = some v → a.tmps[t]? = some v := fun j want t hg hd v hv => by
        obtain ⟨e, he, hb, hej⟩ := hguard j want hg
        obtain ⟨r', hr'⟩ := hdep e he hb t (by rw [hej]; exact hd)
        rcases hE t v hv with ⟨_, h⟩ | ⟨hn, _⟩
        · exact h
        · exact (hn r' hr').elim
      exact ⟨E', ρ, hρ, hex, hslot, hk, fun t v hv => (hE t v hv).elim (fun h => .inr h.2) (fun h => .inl h.1)⟩
    have hcount : rest_count (listed.setIfInBounds i true) m = f := by
      have := rest_set him (hil i him) hunf
      omega
    unfold wpOp
    simp only [List.getElem?_toArray, hoi]
    split
    · rename_i hwt
      intro dd
      replace inv : Inv l m rs E0 n D al listed a (w.at dd) := ⟨inv.lsize, inv.size, inv.defers, hDx _ _ _ inv.dal (ext_at w dd), inv.als, inv.base, fun i o d r hi ho hl hd hr' => (inv.res i o d r hi ho hl hd hr').imp fun v hv => ⟨hv.1, Rs.up (hmono r (List.mem_of_getElem? hr')) hv.2 (hSx _ _ (ext_at w dd))⟩, inv.closed, inv.tail⟩
      generalize w.at dd = w at inv ⊢
      obtain ⟨E', ρ, hρ, hex, hslot, hk, hE⟩ := key w inv
      rcases hk.out with ⟨hw, hd⟩ | ⟨hw, hs, hp⟩
      · rw [hex]
        have plain : r.plain = true → Does P oi.op oi.type E' w (fun v w' => Ext w w' ∧ r.sat v w') → upon P (fun v w' => wpAny P .any l.toArray Q (f + (l.length - m)) (listed.setIfInBounds i true) (a.put oi.dst v) w') ((execOp ρ oi).run P w) ∧ Mild ((execOp ρ oi).events P w #[]) := fun hp hd =>
          ⟨upon_mono (fun v w' hv => ih _ _ _ al hcount (inv.step hbd hD hmono him hml hoi hunf hall hr hv.2 (hSx _ _ hv.1) (alinv_plain hD him hoi hunf hr hp inv.als) (hDx _ _ _ inv.dal hv.1))) (hd.out ρ hρ), hd.ev ρ hρ⟩
        cases r with
        | val u => exact plain rfl hd
        | pred q => exact plain rfl hd
        | own f0 ob =>
          obtain ⟨d, hdst⟩ := ownDst_get hown (htk i oi him hoi) hr
          obtain ⟨hrun, hev⟩ := hd ρ hρ w
          refine ⟨?_, hev⟩
          show upon P _ ((execOp ρ (mk oi.op oi.type)).run P w)
          rw [hrun]
          exact ih _ _ _ _ hcount (inv.step hbd hD hmono him hml hoi hunf hall hr ⟨_, rfl⟩ (hSx _ _ (ext_alloc w ob)) (alinv_own hbd hD inv.size (hil i him) hup inv.closed him hoi hunf hr hdst rfl inv.als) (hDo _ _ _ _ inv.dal))
        | upd j o =>
          obtain ⟨d, b, f0, o0, h1, h2, h3, h4, h5⟩ := hd
          obtain ⟨hwj, _, huq⟩ := updB_waits hup hr
          rw [Nat.zero_add] at hwj
          obtain ⟨oi', hoi'', e, he, hb, hon'⟩ := waits_of hwj
          obtain rfl : oi' = oi := Option.some.inj (hoi''.symm.trans hoi)
          have hjl := hall e he hb
          rw [hon'] at hjl
          have hjm := hrm h2
          have htd : a.tmps[d]? = some (f0 b) := by
            rcases hE d _ h3 with hn | h
            · obtain ⟨r', hr'⟩ := hdep e he hb d (by rw [hon']; exact h1)
              exact (hn r' hr').elim
            · exact h
          obtain ⟨b', o', hm⟩ := inv.als.all j f0 o0 hjm hjl h2
          obtain ⟨_, _, oj, d', f2, ob2, g3, g4, g5, g6, g7⟩ := inv.als.ok j b' o' hm
          rw [h2] at g5
          cases g5
          obtain rfl : d = d' := by
            rw [g3] at h1
            simp only [Option.bind_some, g4, Option.some.injEq] at h1
            exact h1.symm
          rw [htd] at g6
          obtain rfl := h4 _ _ (Option.some.inj g6)
          have ho' : o' = o0 := by
            rcases g7 with ⟨e, _⟩ | ⟨u, hu, hl, hru⟩
            · exact e
            · have := huq hru
              subst this
              rw [hunf] at hl
              cases hl
          subst ho'
          obtain ⟨q, hq⟩ := List.mem_iff_getElem?.1 hm
          have hdd := h5 al q inv.dal hq
          exact ⟨upon_mono (fun v w' hv => ih _ _ _ _ hcount (inv.step hbd hD hmono him hml hoi hunf hall hr hv.1 (hSu ⟨i, j, o, hr⟩ _ _) (alinv_upd hD (hil i him) him hoi hunf hr hq inv.als) hv.2)) (hdd.out ρ hρ), hdd.ev ρ hρ⟩
      · rw [wanted_of' rfl hslot hw] at hwt
        cases hwt
    · rename_i hwt
      obtain ⟨E', ρ, hρ, hex, hslot, hk, hE⟩ := key w inv
      rcases hk.out with ⟨hw, hd⟩ | ⟨hw, hs, hp⟩
      · exact absurd (wanted_of' rfl hslot hw) hwt
      · exact ih _ _ _ al hcount (inv.step hbd hD hmono him hml hoi hunf hall hr hs (hSx _ _ (ext_refl w)) (alinv_plain hD him hoi hunf hr hp inv.als) inv.dal)

theorem replicate_getD (k j : Nat) : (Array.replicate k false).getD j false = false := by
  rcases Nat.lt_or_ge j k with h | h
  · simp [h]
  · simp [h]

theorem rest_all (l : List Oper) : ∀ m, rest_count (Array.replicate l.length false) m = m := by
  intro m
  unfold rest_count
  have : ((List.range m).filter fun i => !(Array.replicate l.length false).getD i false) = List.range m := by
    apply List.filter_eq_self.2
    intro i _
    rw [replicate_getD]
    rfl
  rw [this]; simp

theorem c_draw {S : World → World → Prop} {D : Al → World → Prop} {Q : Exit → Act → World → Prop} {id : Nat} {a : Act} {w : World} (m : Nat) (rs : List Rs) (hmix : P.follows .mixedOrders = true) (hB : drawB l m n = true) (hup : updB l rs 0 rs [] = true) (hown : ownDst (l.take m) rs = true) (hmono : ∀ r ∈ rs, r.mono S)
    (hSx : ∀ w w', Ext w w' → S w w') (hSu : (∃ (u j : Nat) (o : Obj), rs[u]? = some (Rs.upd j o)) → ∀ w w', S w w') (hDC : ∀ al w, D al w → C w) (hDx : ∀ al w w', D al w → Ext w w' → D al w')
    (hDo : ∀ al w i o, D al w → D ((i, w.heap.size, o) :: al) (w.alloc o)) (hDp : ∀ al al' w, D al w → al.Perm al' → D al' w)
    (h : Holds E0 n a) (hc : D [] w) (vcs : VCs P l rs E0 C D (l.take m) rs) (k : FinF rs (l.take m) rs 0 [] [] (fun al acc => ∀ w, D al w → Dep acc E0 w (fun E => ∀ a, Holds E n a → LW P l Q (l.drop m) a w))) :
    CW P (Code.region id l.toArray true) Q a w := by
  have hml : m ≤ l.length := by
    unfold drawB at hB
    simp only [Bool.and_eq_true] at hB
    exact Nat.le_of_ble_eq_true hB.1.1.1.1.1
  refine cw_region_any hmix fun dd => ?_
  have hno : ∀ i, (Array.replicate l.length false).getD i false = true → False := fun i hl => by rw [replicate_getD] at hl; cases hl
  have := draw_key (Q := Q) hB hup hown hmono hSx hSu hDC hDx hDo hDp vcs k m (Array.replicate l.length false) a (w.at dd) [] (rest_all l m)
    ⟨by simp, h.size, h.defers, hDx _ w _ hc (ext_at w dd), ⟨fun _ _ _ hm => by simp at hm, fun i _ _ _ hl => (hno i hl).elim, by simp⟩, fun t v hv _ => h.get t v hv,
      (by intro i o d r _ _ hl; exact (hno i hl).elim),
      (by intro j oj _ hl; exact (hno j hl).elim),
      (by intro t _ ht; simp [ht])⟩
  rw [show m + (l.length - m) = l.length by omega] at this
  simpa using this
end

/-- all results are values that the text alone decides -/
def vals : List Value → List Rs
  | [] => []
  | v :: r => .val v :: vals r

def memD (W0 : World) (X : List Nat) (B : Heap) (L : List Own) : Al → World → Prop := fun al w => Mem W0 X B (al.map (fun x => .blk x.2.1 x.2.2) ++ L) w

theorem Mem.perm {W0 : World} {X : List Nat} {B : Heap} {L L' : List Own} {w : World} (hm : Mem W0 X B L w) (hp : L.Perm L') : Mem W0 X B L' w :=
  ⟨hm.os, hm.tape, hm.output, hm.size, hm.block, hm.base, fun x hx => hm.own x (hp.mem_iff.2 hx), fun x hx => hm.fresh x (hp.mem_iff.2 hx), fun x hx => hm.apart x (hp.mem_iff.2 hx), (hp.filterMap _).nodup_iff.1 hm.nodup⟩

theorem mem_front {W0 : World} {X : List Nat} {B : Heap} {L : List Own} {w : World} : ∀ {L' : List Own}, Mem W0 X B (L' ++ L) w → Mem W0 X B L w
  | [], h => h
  | _ :: L', h => mem_front (L' := L') h.drop

/-- no result is a mere relation -/
def noPred : List Rs → Bool
  | [] => true
  | .pred _ :: _ => false
  | _ :: r => noPred r
theorem noPred_mono {S : World → World → Prop} : ∀ {rs : List Rs}, noPred rs = true → ∀ r ∈ rs, r.mono S
  | [], _, r, hr => by simp at hr
  | r0 :: rs, h, r, hr => by
    rcases List.mem_cons.1 hr with rfl | hr
    · cases r <;> first | trivial | cases h
    · refine noPred_mono (rs := rs) ?_ r hr
      cases r0 <;> first | exact h | cases h

theorem c_drawM {P : Program} {Q : Exit → Act → World → Prop} {l : List Oper} {n : Nat} {E0 : Env} {W0 : World} {X : List Nat} {B : Heap} {L : List Own} {id : Nat} {a : Act} {w : World} (m : Nat) (rs : List Rs) (hmix : P.follows .mixedOrders = true) (hB : drawB l m n = true) (hup : updB l rs 0 rs [] = true) (hown : ownDst (l.take m) rs = true) (hnp : noPred rs = true)
    (h : Holds E0 n a) (hm : Mem W0 X B L w) (vcs : VCs P l rs E0 (Mem W0 X B L) (memD W0 X B L) (l.take m) rs)
    (k : FinF rs (l.take m) rs 0 [] [] (fun al acc => ∀ w, Mem W0 X B (al.map (fun x => .blk x.2.1 x.2.2) ++ L) w → Dep acc E0 w (fun E => ∀ a, Holds E n a → LW P l Q (l.drop m) a w))) :
    CW P (Code.region id l.toArray true) Q a w :=
  c_draw (S := fun _ _ => True) (D := memD W0 X B L) m rs hmix hB hup hown (noPred_mono hnp) (fun _ _ _ => trivial) (fun _ _ _ => trivial) (fun _ _ hd => mem_front hd) (fun _ _ _ hd hx => Mem.ext hd hx) (fun _ _ _ o hd => Mem.alloc hd o) (fun _ _ _ hd hp => Mem.perm hd ((hp.map _).append_right L)) h hm vcs k
theorem does_funVX {P : Program} {E : Env} {w : World} {Φ : Value → World → Prop} {ty : TypeId} {f : FuncId} {args : List Operand} {ats : Array TypeId} {first vs cap us : List Value} {v : Value} {c : Operand} (hf : ev E c = some (.func (.func f) first.toArray cap.toArray)) (hx : evs E args = some vs)
    (hus : first ++ vs ++ cap = us) [hen : En P f] (hc : Fun P f us v)
    (k : ∀ w', Ext w w' → Φ v w') : Does P (.call { callee := .value c, args := args.toArray, argTypes := ats }) ty E w Φ :=
  does_callV hen.out hf hx (by rw [hus]; exact (hc.out w).mono fun _ w' ⟨he, hw⟩ => ⟨v, he, k w' hw⟩)
/-- the prefix again as a list from which the walk goes on -/
theorem c_tail {P : Program} {l rest : List Oper} {m : Nat} {Q : Exit → Act → World → Prop} {a : Act} {w : World} (hl : l.drop m = rest) (h : LW P l Q rest a w) : LW P l Q (l.drop m) a w := by rw [hl]; exact h

end Go.Proofs.Ytedgbmefajnjeaa.St
