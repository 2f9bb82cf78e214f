/-
  A sender that goroutine 0 has started and goroutine 0 that receives, over a channel without a buffer, beside goroutines that only leave: whoever is picked, goroutine 0 comes to where it has found the channel closed, and the sender only leaves. Laws of the machine: no program in sight.
-/
import Derived.Test.YtedgbmefajnjeaaCoM
namespace Go.Proofs.Ytedgbmefajnjeaa.Co
open Go Go.Conc
open Go.ConcN (sumTo upd sumTo_upd upd_ne upd_same le_sumTo)

/-! ### The trace -/
def LateX (Mine : Loc → Prop) (k : Nat) (op : MemOp) : Prop :=
  (op.g = 0 ∧ ∀ x, op.act.touch? = some x → x.write = true → Mine x.loc) ∨ (op.g = k ∧ ∀ x, op.act.touch? = some x → x.write = false ∧ ¬ Mine x.loc)

structure ForkX (Mine : Loc → Prop) (t : Trace) (p k : Nat) : Prop where
  wordless : Wordless t
  go : ∃ op, t[p]? = some op ∧ op.g = 0 ∧ op.act = .go k
  start : ∃ op, t[p + 1]? = some op ∧ op.g = k ∧ op.act = .start
  early : ∀ said i j x y, i < j → j < p → touchAt t i = some x → touchAt t j = some y → x.conflicts said y → HappensBefore t i j ∨ HappensBefore t j i
  known : ∀ i x, i < p → touchAt t i = some x → x.loc.isMemory = true → ∃ q z, q < p ∧ t[q]? = some z ∧ z.g = 0 ∧ Before t i q
  late : ∀ i op, t[i]? = some op → p + 1 < i → LateX Mine k op

theorem touchAt_old {t u : Trace} {i : Nat} (h : i < t.size) : touchAt (t ++ u) i = touchAt t i := by
  simp [touchAt, Trace.act?, getElem?_append_old h]

theorem ForkX.append {Mine : Loc → Prop} {t u : Trace} {p k : Nat} (h : ForkX Mine t p k) (hw : Wordless u) (hu : ∀ op ∈ u, LateX Mine k op) : ForkX Mine (t ++ u) p k := by
  obtain ⟨g, hg, hg1, hg2⟩ := h.go
  obtain ⟨s, hs, hs1, hs2⟩ := h.start
  have hp1 := lt_size_of_getElem? hs
  refine ⟨h.wordless.append hw, ⟨g, by rw [getElem?_append_old (by omega)]; exact hg, hg1, hg2⟩, ⟨s, by rw [getElem?_append_old hp1]; exact hs, hs1, hs2⟩, fun said i j x y hij hj hx hy hc => ?_, fun i x hi hx hm => ?_, fun i op hi hlt => ?_⟩
  · rw [touchAt_old (by omega)] at hx hy
    exact (h.early said i j x y hij hj hx hy hc).imp (hb_app u) (hb_app u)
  · rw [touchAt_old (by omega)] at hx
    obtain ⟨q, z, h1, h2, h3, h4⟩ := h.known i x hi hx hm
    exact ⟨q, z, h1, by rw [getElem?_append_old (by omega)]; exact h2, h3, h4.app u⟩
  · rcases getElem?_append_cases hi with ⟨_, hi'⟩ | ⟨_, hm⟩
    · exact h.late i op hi' hlt
    · exact hu op hm

theorem mem_evs {g : Nat} {fn : FuncId} {pos : String} {es : Array Event} {op : MemOp} (h : op ∈ MemOp.ofEvents g fn pos es) : ∃ e ∈ es, op = { g, fn, pos, act := .ofEvent e } := by
  rw [ofEvents_eq] at h
  obtain ⟨e, he, rfl⟩ := Array.mem_map.1 h
  exact ⟨e, he, rfl⟩

theorem evs_g {g : Nat} {fn : FuncId} {pos : String} {es : Array Event} : ∀ op ∈ MemOp.ofEvents g fn pos es, op.g = g := fun op h => by
  obtain ⟨e, _, rfl⟩ := mem_evs h
  rfl

theorem wordless_evs {g : Nat} {fn : FuncId} {pos : String} {es : Array Event} (h : Mild es) : Wordless (MemOp.ofEvents g fn pos es) := by
  intro op hop
  obtain ⟨e, he, rfl⟩ := mem_evs hop
  exact ofEvent_noMark (h e he)

theorem mildA {Mine : Loc → Prop} {es : Array Event} (h : ∀ e ∈ es, EvA Mine e) : Mild es := fun e he => (h e he).1
theorem mildB {Mine : Loc → Prop} {es : Array Event} (h : ∀ e ∈ es, EvB Mine e) : Mild es := fun e he => (h e he).1

theorem ForkX.add0 {Mine : Loc → Prop} {t : Trace} {p k : Nat} {fn : FuncId} {pos : String} {es : Array Event} (hT : ForkX Mine t p k) (h : ∀ e ∈ es, EvA Mine e) : ForkX Mine (t ++ MemOp.ofEvents 0 fn pos es) p k :=
  hT.append (wordless_evs (mildA h)) fun op hop => by
    obtain ⟨e, he, rfl⟩ := mem_evs hop
    exact .inl ⟨rfl, fun x hx hw => by obtain ⟨h1, h2⟩ := ofEvent_touch (h e he).1 hx; rw [h1]; exact (h e he).2 (h2 ▸ hw)⟩
theorem ForkX.addk {Mine : Loc → Prop} {t : Trace} {p k : Nat} {fn : FuncId} {pos : String} {es : Array Event} (hT : ForkX Mine t p k) (h : ∀ e ∈ es, EvB Mine e) : ForkX Mine (t ++ MemOp.ofEvents k fn pos es) p k :=
  hT.append (wordless_evs (mildB h)) fun op hop => by
    obtain ⟨e, he, rfl⟩ := mem_evs hop
    exact .inr ⟨rfl, fun x hx => by obtain ⟨h1, h2⟩ := ofEvent_touch (h e he).1 hx; rw [h1, h2]; exact (h e he).2⟩
/-- Operations on a channel touch no memory. -/
theorem ForkX.addComm {Mine : Loc → Prop} {t : Trace} {p k : Nat} (hT : ForkX Mine t p k) (ops : Array MemOp) (h : ∀ op ∈ ops, (op.g = 0 ∨ op.g = k) ∧ op.act.touch? = none ∧ ∀ m, op.act = .mark m → Neutral m) : ForkX Mine (t ++ ops) p k :=
  hT.append (fun op hop => (h op hop).2.2) fun op hop => by
    obtain ⟨hg, ht, _⟩ := h op hop
    rcases hg with hg | hg
    · exact .inl ⟨hg, fun x hx => by rw [ht] at hx; cases hx⟩
    · exact .inr ⟨hg, fun x hx => by rw [ht] at hx; cases hx⟩

/-- The go statement, behind a tidy trace. -/
theorem ForkX.new {Mine : Loc → Prop} {t : Trace} {k : Nat} {x y : MemOp} (h : Tidy t) (hx : x.g = 0 ∧ x.act = .go k) (hy : y.g = k ∧ y.act = .start) : ForkX Mine (t ++ #[x, y]) t.size k := by
  refine ⟨h.wordless.append fun op hop => ?_, ⟨x, ?_, hx.1, hx.2⟩, ⟨y, ?_, hy.1, hy.2⟩, fun said i j a b hij hj ha hb hc => ?_, fun i a hi ha hm => ?_, fun i op hi hlt => ?_⟩
  · intro m hm
    simp at hop
    rcases hop with rfl | rfl
    · rw [hx.2] at hm; cases hm
    · rw [hy.2] at hm; cases hm
  · rw [Array.getElem?_append_right (Nat.le_refl _)]; simp
  · rw [Array.getElem?_append_right (Nat.le_succ _)]; simp
  · rw [touchAt_old (by omega)] at ha hb
    by_cases h1 : HappensBefore t i j
    · exact .inl (hb_app _ h1)
    · by_cases h2 : HappensBefore t j i
      · exact .inr (hb_app _ h2)
      · exact absurd ⟨i, j, hij, ⟨a, b, ha, hb, hc⟩, h1, h2⟩ (h.clean said)
  · rw [touchAt_old (by omega)] at ha
    obtain ⟨q, z, h1, h2, h3⟩ := h.known i a ha hm
    exact ⟨q, z, lt_size_of_getElem? h1, by rw [getElem?_append_old (lt_size_of_getElem? h1)]; exact h1, h2, h3.app _⟩
  · have := lt_size_of_getElem? hi
    simp at this
    omega

section
variable {Mine : Loc → Prop} {t : Trace} {p k : Nat}

/-- What goroutine 0 knew happens before the start of the new one. -/
theorem ForkX.start_hb (h : ForkX Mine t p k) {i : Nat} {x : Touch} (hi : i < p) (hx : touchAt t i = some x) (hm : x.loc.isMemory = true) : HappensBefore t i (p + 1) := by
  obtain ⟨g, hg, hg1, hg2⟩ := h.go
  obtain ⟨s, hs, hs1, hs2⟩ := h.start
  obtain ⟨q, z, hq, hz, hz0, hb⟩ := h.known i x hi hx hm
  have e1 : HappensBefore t i p := hb.hb (hb_po hq hz hg (by rw [hz0, hg1]))
  have e2 : HappensBefore t p (p + 1) := .single (.inr ⟨.spawn (child := k) (by simp [Trace.act?, hg, hg2]) (by simp [Trace.act?, hs, hs2]) (by simp [Trace.g?, hs, hs1]), h.wordless.heard hg, h.wordless.heard hs⟩)
  exact e1.trans e2

theorem touchAt_act {t : Trace} {i : Nat} {x : Touch} (h : touchAt t i = some x) : ∃ op, t[i]? = some op ∧ op.act.touch? = some x := touch_of h

theorem ForkX.pos (h : ForkX Mine t p k) {i : Nat} {op : MemOp} {x : Touch} (hi : t[i]? = some op) (hx : op.act.touch? = some x) : i < p ∨ p + 1 < i := by
  obtain ⟨g, hg, hg1, hg2⟩ := h.go
  obtain ⟨s, hs, hs1, hs2⟩ := h.start
  rcases Nat.lt_trichotomy i p with h1 | rfl | h1
  · exact .inl h1
  · rw [hg] at hi; cases hi; rw [hg2] at hx; cases hx
  · by_cases h2 : i = p + 1
    · subst h2; rw [hs] at hi; cases hi; rw [hs2] at hx; cases hx
    · exact .inr (by omega)

theorem ForkX.noRace (h : ForkX Mine t p k) (said : Bool) : ¬ Race said t := by
  rintro ⟨i, j, hij, ⟨x, y, hx, hy, hc⟩, hn, hn'⟩
  obtain ⟨oi, hoi, hxi⟩ := touch_of hx
  obtain ⟨oj, hoj, hyj⟩ := touch_of hy
  obtain ⟨g, hg, hg1, hg2⟩ := h.go
  obtain ⟨s, hs, hs1, hs2⟩ := h.start
  rcases h.pos hoi hxi with hi | hi
  · rcases h.pos hoj hyj with hj | hj
    · exact (h.early said i j x y hij hj hx hy hc).elim hn hn'
    · rcases h.late j oj hoj hj with ⟨gj, _⟩ | ⟨gj, _⟩
      · obtain ⟨q, z, hq, hz, hz0, hb⟩ := h.known i x hi hx hc.2.1
        exact hn (hb.hb (hb_po (by omega) hz hoj (by rw [hz0, gj])))
      · exact hn ((h.start_hb hi hx hc.2.1).trans (hb_po (by omega) hs hoj (by rw [hs1, gj])))
  · obtain ⟨hloc, _, hwr, _⟩ := hc
    rcases h.late i oi hoi hi with ⟨gi, wi⟩ | ⟨gi, ri⟩ <;> rcases h.late j oj hoj (by omega) with ⟨gj, wj⟩ | ⟨gj, rj⟩
    · exact hn (hb_po hij hoi hoj (by rw [gi, gj]))
    · obtain ⟨r1, r2⟩ := rj y hyj
      rcases hwr with hw | hw
      · exact r2 (hloc ▸ wi x hxi hw)
      · rw [r1] at hw; cases hw
    · obtain ⟨r1, r2⟩ := ri x hxi
      rcases hwr with hw | hw
      · rw [r1] at hw; cases hw
      · exact r2 (hloc ▸ wj y hyj hw)
    · exact hn (hb_po hij hoi hoj (by rw [gi, gj]))
end

/-- The sender has closed c at position pc and has done nothing since. -/
structure ClosedX (c : Nat) (t : Trace) (k pc : Nat) : Prop where
  close : ∃ op, t[pc]? = some op ∧ op.g = k ∧ op.act = .close c
  last : ∀ i op, t[i]? = some op → op.g = k → i ≤ pc

theorem ClosedX.append {c : Nat} {t u : Trace} {k pc : Nat} (h : ClosedX c t k pc) (hk : k ≠ 0) (hu : ∀ op ∈ u, op.g = 0) : ClosedX c (t ++ u) k pc := by
  obtain ⟨o, ho, ho1, ho2⟩ := h.close
  refine ⟨⟨o, by rw [getElem?_append_old (lt_size_of_getElem? ho)]; exact ho, ho1, ho2⟩, fun i op hi hg => ?_⟩
  rcases getElem?_append_cases hi with ⟨_, hi'⟩ | ⟨_, hm⟩
  · exact h.last i op hi' hg
  · rw [hu op hm] at hg; exact absurd hg.symm hk

theorem ClosedX.ofPush {c : Nat} {u : Trace} {y : MemOp} {k : Nat} (h1 : y.g = k) (h2 : y.act = .close c) : ClosedX c (u.push y) k u.size := by
  refine ⟨⟨y, by simp, h1, h2⟩, fun i op hi _ => ?_⟩
  have := lt_size_of_getElem? hi
  simp at this
  omega

/-- Goroutine 0 has found the channel closed: the trace is tidy again. -/
theorem tidy_of_closed {Mine : Loc → Prop} {c : Nat} {t : Trace} {p k pc pr : Nat} (h : ForkX Mine t p k) (hC : ClosedX c t k pc) (hr : ∃ op, t[pr]? = some op ∧ op.g = 0 ∧ op.act = .recvClosed c) : Tidy t := by
  refine ⟨h.wordless, h.noRace, fun i x hx hm => ?_⟩
  obtain ⟨op, ho, hox⟩ := touchAt_act hx
  rcases h.pos ho hox with hi | hi
  · obtain ⟨q, z, _, hz, hz0, hb⟩ := h.known i x hi hx hm
    exact ⟨q, z, hz, hz0, hb⟩
  · rcases h.late i op ho hi with ⟨g0, _⟩ | ⟨gk, _⟩
    · have := knows_own ho
      rwa [g0] at this
    · obtain ⟨o, hc, hc1, hc2⟩ := hC.close
      obtain ⟨r, hr, hr1, hr2⟩ := hr
      have hle := hC.last i op ho gk
      have hne : i ≠ pc := by rintro rfl; rw [hc] at ho; cases ho; rw [hc2] at hox; cases hox
      refine ⟨pr, r, hr, hr1, .inr ?_⟩
      have e1 : HappensBefore t i pc := hb_po (by omega) ho hc (by rw [gk, hc1])
      have e2 : HappensBefore t pc pr := .single (.inr ⟨.closed (c := c) (by simp [Trace.act?, hc, hc2]) (by simp [Trace.act?, hr, hr2]), h.wordless.heard hc, h.wordless.heard hr⟩)
      exact e1.trans e2

/-! ### The machine -/
section
variable {P : Program} {c k : Nat} {S : World → Prop} {Mine : Loc → Prop} {z : Value} {Fin : Goroutine → World → Prop}

variable (P Fin) in
/-- Where the phase leaves the machine. -/
def Done (n0 : Nat) (gs : Array Goroutine) (w : World) (sl : Option (Nat × Nat)) (t : Trace) : Prop :=
  ∃ (N : Nat) (gs' : Array Goroutine) (a' : Goroutine) (w' : World) (sl' : Option (Nat × Nat)) (t' : Trace) (q' : Nat → Nat),
    runNT P N (crowd gs w sl) t = (.next (crowd gs' w' sl'), t') ∧ gs'.size = n0 ∧ gs'[0]? = some a' ∧ Fin a' w' ∧ Side P 0 gs' q' ∧ Tidy t'

theorem Done.of_step {n0 : Nat} {gs gs' : Array Goroutine} {w w' : World} {sl sl' : Option (Nat × Nat)} {t ops : Trace} (hs : stepT P (crowd gs w sl) = (.next (crowd gs' w' sl'), ops)) (h : Done P Fin n0 gs' w' sl' (t ++ ops)) :
    Done P Fin n0 gs w sl t := by
  obtain ⟨N, g2, a2, w2, s2, t2, q2, r1, r2⟩ := h
  exact ⟨N + 1, g2, a2, w2, s2, t2, q2, by rw [runNT_succ_next hs]; exact r1, r2⟩

theorem side_offers {gs : Array Goroutine} {q : Nat → Nat} (hS : Side P k gs q) {j : Nat} {x : Goroutine} (h0 : 0 < j) (hk : j ≠ k) (hj : gs[j]? = some x) (r : Nat) (send : Bool) : offersAt x r send = [] :=
  offersAt_of_not_blocked (by rcases (hS j x h0 hk hj).status with h | h <;> rw [h] <;> simp) r send

/-- The channel is closed; the sender is one of those that leave. -/
theorem shut_phase (hk : k ≠ 0) : ∀ (m n : Nat) (gs : Array Goroutine) (a : Goroutine) (w : World) (sl : Option (Nat × Nat)) (t : Trace) (q : Nat → Nat) (s r : Nat) (tm : Bool) (p pc : Nat),
    n + sumTo gs.size q = m → gs[0]? = some a → w.heap[c]? = some (.chan 0 #[] true s r tm) → Goes P true (Aside c) (DA c S Mine) (StopA P c S Mine z Fin []) n a w → Side P 0 gs q → ForkX Mine t p k → ClosedX c t k pc →
    Done P Fin gs.size gs w sl t := by
  intro m
  induction m using Nat.strongRecOn with
  | _ m ihm =>
    intro n gs a w sl t q s r tm p pc hm h0 hc hA hS hT hC
    have hs : a.status = .running := hA.running (fun _ _ => StopA.running) w (Aside.refl c w)
    have haw := awake_side hS h0 (.inl hs) (fun b hb => by rw [h0] at hb; rw [← Option.some.inj hb]; exact .inl hs)
    obtain ⟨i, g, d, sl', hi, hg, hst⟩ := crowd_pick (P := P) (w := w) (sl := sl) haw ⟨0, a, h0, hs⟩
    have hAs : Aside c w (w.at d) := Aside.at c w d
    have hc1 : (w.at d).heap[c]? = some (.chan 0 #[] true s r tm) := hc
    have hlt : 0 < gs.size := (Array.getElem?_eq_some_iff.1 h0).1
    rcases Nat.eq_zero_or_pos i with rfl | hpos
    · obtain rfl : g = a := by rw [h0] at hi; exact (Option.some.inj hi).symm
      rcases hA.cases with hstop | ⟨n', rfl, hstep⟩
      · have hat := hstop _ hAs
        obtain ⟨es, hcomm, hes⟩ := hat.comm
        have hp : partners (gs.setIfInBounds 0 ph) c true = [] := partners_nil fun j x hj => by
          rcases getElem?_stand gs 0 j x hj with ⟨_, rfl⟩ | ⟨hj0, hj'⟩
          · exact offersAt_ph c true
          · exact side_offers hS (by omega) hj0 hj' c true
        have hrun := crowd_recv_closed (sl := sl') (i := 0) hi (show stepG P (0 == 0) g (w.at d) = _ from hcomm) hc1 hp
        have hF := hat.nil _ (Aside.refl c _)
        have hrun' := hst.trans hrun
        refine ⟨1, _, _, _, _, _, q, by rw [runNT_succ_next hrun']; rfl, by simp, by rw [Array.getElem?_setIfInBounds_self_of_lt (by simpa using hlt)]; rfl, hF, hS.put 0 (.inl rfl) _, ?_⟩
        rw [← Array.append_assoc]
        refine tidy_of_closed (pr := (t ++ MemOp.ofEvents 0 g.frame.fn g.frame.place es).size) ((hT.add0 hes).addComm _ (by simp [MemAct.touch?])) ((hC.append hk evs_g).append hk (by simp)) ⟨{ g := 0, fn := (core g).frame.fn, pos := (core g).frame.place, act := .recvClosed c }, ?_, rfl, rfl⟩
        rw [Array.getElem?_append_right (Nat.le_refl _)]
        simp
      · obtain ⟨a', w', es, hgo, ⟨_, hcc, hes⟩, hg'⟩ := hstep _ hAs
        have hrun := runT_crowd_go (P := P) (sl := sl') (i := 0) hi (show stepG P (0 == 0) g (w.at d) = _ from hgo)
        refine Done.of_step (hst.trans hrun) ?_
        have := ihm (n' + sumTo gs.size q) (by omega) n' ((gs.map (woken P g a' w')).setIfInBounds 0 a') a' w' sl' (t ++ MemOp.ofEvents 0 g.frame.fn g.frame.place es) q s r tm p pc (by rw [turn_size]) (turn_own hlt) (hcc.trans hc1) hg' (hS.turn 0 (.inl rfl) _ _ _ _) (hT.add0 hes)
          (hC.append hk evs_g)
        rwa [turn_size] at this
    · obtain ⟨g', n', hrun, hS', hlt'⟩ := slip (w := w.at d) (sl := sl') hS hi hg hpos (by omega)
      refine Done.of_step (hst.trans hrun) ?_
      rw [Array.append_empty]
      have := ihm (n + sumTo gs.size (upd q i n')) (by omega) n ((gs.map (woken P g g' (w.at d))).setIfInBounds i g') a (w.at d) sl' t (upd q i n') s r tm p pc (by rw [turn_size]) (by rw [turn_get (by omega) h0, woken_running hs]) hc1
        (Goes.rely (R := Aside c) (fun _ _ _ h h' => Aside.trans h h') hA hAs) hS' hT hC
      rwa [turn_size] at this

theorem SitA.turned {vs : List Value} {ra : Nat} {a : Goroutine} {w : World} (h : SitA P c S Mine z Fin vs ra a w) : a.status = .running ∨ a.status = .blocked ∨ a.status = .finished := by
  rcases h.status with ⟨h, _⟩ | ⟨h, _⟩
  · exact .inl h
  · exact .inr (.inl h)

/-- One step of the machine while the channel is open. -/
theorem phase_core {vs : List Value} {m : Nat} (hk : k ≠ 0) (hSt : ∀ w w₁, Aside c w w₁ → S w → S w₁)
    (ihv : ∀ v vs', vs = v :: vs' → ∀ (m ra rb : Nat) (gs : Array Goroutine) (a b : Goroutine) (w : World) (sl : Option (Nat × Nat)) (t : Trace) (q : Nat → Nat) (s r : Nat) (tm : Bool) (p : Nat),
      ra + rb + sumTo gs.size q = m → 0 < ra + rb → gs[0]? = some a → gs[k]? = some b → S w → w.heap[c]? = some (.chan 0 #[] false s r tm) → SitA P c S Mine z Fin vs' ra a w → SitB P c S Mine vs' rb b → Side P k gs q → ForkX Mine t p k →
      Done P Fin gs.size gs w sl t)
    (ihm : ∀ m', m' < m → ∀ (ra rb : Nat) (gs : Array Goroutine) (a b : Goroutine) (w : World) (sl : Option (Nat × Nat)) (t : Trace) (q : Nat → Nat) (s r : Nat) (tm : Bool) (p : Nat),
      ra + rb + sumTo gs.size q = m' → 0 < ra + rb → gs[0]? = some a → gs[k]? = some b → S w → w.heap[c]? = some (.chan 0 #[] false s r tm) → SitA P c S Mine z Fin vs ra a w → SitB P c S Mine vs rb b → Side P k gs q → ForkX Mine t p k →
      Done P Fin gs.size gs w sl t) :
    ∀ (ra rb : Nat) (gs : Array Goroutine) (a b : Goroutine) (w : World) (sl : Option (Nat × Nat)) (t : Trace) (q : Nat → Nat) (s r : Nat) (tm : Bool) (p : Nat),
      ra + rb + sumTo gs.size q = m → 0 < ra + rb → gs[0]? = some a → gs[k]? = some b → S w → w.heap[c]? = some (.chan 0 #[] false s r tm) → SitA P c S Mine z Fin vs ra a w → SitB P c S Mine vs rb b → Side P k gs q → ForkX Mine t p k →
      Done P Fin gs.size gs w sl t := by
  intro ra rb gs a b w sl t q s r tm p hm hpos h0 hb0 hS hc hA hB hQ hT
  have sA := hA.status
  have sB := hB.status hS
  have stB : b.status = .running ∨ b.status = .blocked ∨ b.status = .finished := by
    rcases sB with ⟨h, _⟩ | ⟨h, _⟩
    · exact .inl h
    · exact .inr (.inl h)
  have haw := awake_side hQ h0 (by rcases sA with ⟨h, _⟩ | ⟨h, _⟩ <;> simp [h]) (fun x hx => by rw [hb0] at hx; rw [← Option.some.inj hx]; exact stB)
  have some1 : ∃ (i : Nat) (g : Goroutine), gs[i]? = some g ∧ g.status = .running := by
    rcases sA with ⟨h, _⟩ | ⟨_, e0⟩
    · exact ⟨0, a, h0, h⟩
    · rcases sB with ⟨h, _⟩ | ⟨_, e1⟩
      · exact ⟨k, b, hb0, h⟩
      · omega
  obtain ⟨i, g, d, sl', hi, hg, hst⟩ := crowd_pick (P := P) (w := w) (sl := sl) haw some1
  have hAs : Aside c w (w.at d) := Aside.at c w d
  have hS1 : S (w.at d) := hSt _ _ hAs hS
  have hc1 : (w.at d).heap[c]? = some (.chan 0 #[] false s r tm) := hc
  have hw2 : Aside c (w.at d) ((w.at d).passed c s r tm) := Aside.put c _ _
  have hlt : 0 < gs.size := (Array.getElem?_eq_some_iff.1 h0).1
  have hltk : k < gs.size := (Array.getElem?_eq_some_iff.1 hb0).1
  have hkb : (k == 0) = false := by simpa using hk
  by_cases hi0 : i = 0
  · -- the receiver moves
    subst hi0
    obtain rfl : g = a := by rw [h0] at hi; exact (Option.some.inj hi).symm
    rcases hA with ⟨n, rfl, hG⟩ | ⟨_, g₀, rfl, _⟩
    · rcases hG.cases with hstop | ⟨n', rfl, hstep⟩
      · have hat := hstop _ hAs
        obtain ⟨es, hcomm, hes⟩ := hat.comm
        rcases hB with ⟨kb, rfl, hgb⟩ | ⟨rfl, v, vs', g₂, z', rfl, rfl, hnext⟩
        · -- the sender is on its way: the receiver waits
          have hbs : b.status ≠ .blocked := by rw [hgb.running (fun _ _ => StopB.running) w hS]; simp
          have hp : partners (gs.setIfInBounds 0 ph) c true = [] := partners_nil fun j x hj => by
            rcases getElem?_stand gs 0 j x hj with ⟨_, rfl⟩ | ⟨hj0, hj'⟩
            · exact offersAt_ph c true
            · by_cases hjk : j = k
              · subst hjk; rw [hb0] at hj'; rw [← Option.some.inj hj']; exact offersAt_of_not_blocked hbs c true
              · exact side_offers hQ (by omega) hjk hj' c true
          have hrun := crowd_waits (sl := sl') (i := 0) hi (show stepG P (0 == 0) g (w.at d) = _ from hcomm) (fun cc hcc => by
            simp at hcc; subst hcc; exact ways_recv_none hc1 hp)
          refine Done.of_step (hst.trans hrun) ?_
          have := ihm (0 + (kb + 1) + sumTo gs.size q) (by omega) 0 (kb + 1) (gs.setIfInBounds 0 (parked (core g) #[rcase c z] (.recv true))) (parked (core g) #[rcase c z] (.recv true)) b (w.at d) sl' (t ++ MemOp.ofEvents 0 g.frame.fn g.frame.place es) q s r tm p (by simp) (by omega)
            (by rw [Array.getElem?_setIfInBounds_self_of_lt hlt]) (by rw [Array.getElem?_setIfInBounds_ne (Ne.symm hk)]; exact hb0) hS1 hc1 (.inr ⟨rfl, g, rfl, fun w₁ h₁ => hstop w₁ (hAs.trans h₁)⟩) (.inl ⟨kb, rfl, hgb⟩) (hQ.put 0 (.inl rfl) _) (hT.add0 hes)
          simpa using this
        · -- the sender waits: both are served in this one step
          have hp : partners (gs.setIfInBounds 0 ph) c true = [(k, 0)] := by
            rw [partners_one (j := k) (g := parked g₂ #[scase c v z'] .send) (stand_get hk hb0) fun j x hjk hj => by
              rcases getElem?_stand gs 0 j x hj with ⟨_, rfl⟩ | ⟨hj0, hj'⟩
              · exact offersAt_ph c true
              · exact side_offers hQ (by omega) hjk hj' c true]
            simp [offersAt_parked_send]
          have hrun := crowd_recv_meets (sl := sl') (i := 0) hi (show stepG P (0 == 0) g (w.at d) = _ from hcomm) hc1 hk hb0 hp
          obtain ⟨na, hna⟩ := (recvs_iff P c S Mine z Fin vs' _ _).1 (hat.cons _ hw2)
          obtain ⟨nb, hnb⟩ := (sends_iff P c S Mine vs' _).1 hnext
          refine Done.of_step (hst.trans hrun) ?_
          have := ihv v vs' rfl _ (na + 1) (nb + 1) ((gs.setIfInBounds k (Go.Conc.served g₂ undef)).setIfInBounds 0 (Go.Conc.served (core g) (.tuple #[v, .bool true]))) _ _ ((w.at d).passed c s r tm) sl' (t ++ (MemOp.ofEvents 0 g.frame.fn g.frame.place es ++ #[{ g := k, fn := g₂.frame.fn, pos := g₂.frame.place, act := .send c s }, { g := 0, fn := (core g).frame.fn, pos := (core g).frame.place, act := .recv c r 0 },
              { g := k, fn := g₂.frame.fn, pos := g₂.frame.place, act := .sendDone c s }, { g := 0, fn := (core g).frame.fn, pos := (core g).frame.place, act := .recvDone c r }])) q (s + 1) (r + 1) tm p rfl (by omega)
            (by rw [Array.getElem?_setIfInBounds_self_of_lt (by simpa using hlt)]) (by rw [Array.getElem?_setIfInBounds_ne (Ne.symm hk), Array.getElem?_setIfInBounds_self_of_lt hltk]) (hSt _ _ hw2 hS1) (heap_put hc1) (.inl ⟨na, rfl, hna⟩) (.inl ⟨nb, rfl, hnb⟩)
            ((hQ.put k (.inr rfl) _).put 0 (.inl rfl) _) (by rw [← Array.append_assoc]; exact (hT.add0 hes).addComm _ (by simp [MemAct.touch?]))
          rw [show ((gs.setIfInBounds k (Go.Conc.served g₂ undef)).setIfInBounds 0 (Go.Conc.served (core g) (.tuple #[v, .bool true]))).size = gs.size by simp] at this
          exact this
      · -- a step of its own
        obtain ⟨a', w', es, hgo, ⟨hSS, hcc, hes⟩, hg'⟩ := hstep _ hAs
        have hc' : w'.heap[c]? = some (.chan 0 #[] false s r tm) := hcc.trans hc1
        have hrun := runT_crowd_go (P := P) (sl := sl') (i := 0) hi (show stepG P (0 == 0) g (w.at d) = _ from hgo)
        refine Done.of_step (hst.trans hrun) ?_
        have := ihm (n' + 1 + rb + sumTo gs.size q) (by omega) (n' + 1) rb ((gs.map (woken P g a' w')).setIfInBounds 0 a') a' b w' sl' (t ++ MemOp.ofEvents 0 g.frame.fn g.frame.place es) q s r tm p (by rw [turn_size]) (by omega) (turn_own hlt)
          (by rw [turn_get (Ne.symm hk) hb0, hB.woken hS hc']) (hSS hS1) hc' (.inl ⟨n', rfl, hg'⟩) hB (hQ.turn 0 (.inl rfl) _ _ _ _) (hT.add0 hes)
        rwa [turn_size] at this
    · simp [parked] at hg
  by_cases hik : i = k
  · -- the sender moves
    subst hik
    obtain rfl : g = b := by rw [hb0] at hi; exact (Option.some.inj hi).symm
    rcases hB with ⟨kb, rfl, hgb⟩ | ⟨_, v, vs', g₂, z', _, rfl, _⟩
    · rcases hgb.cases with hstop | ⟨k', rfl, hstep⟩
      · have hat := hstop _ hS1
        cases vs with
        | nil =>
          -- it closes the channel
          obtain ⟨_, hwake, g₂, es, nq, hclose, hes, hq⟩ := hat
          have hgo := hclose _ s r tm hS1 hc1
          have hw3 : Aside c (w.at d) ((w.at d).shut c s r tm) := Aside.put c _ _
          have hc2 : ((w.at d).shut c s r tm).heap[c]? = some (.chan 0 #[] true s r tm) := heap_put hc1
          have hwk : ∀ o, woken P g g₂ ((w.at d).shut c s r tm) o = o.again ((w.at d).shut c s r tm) := by
            intro o; unfold Go.Conc.woken; rcases hq.status with h | h <;> simp [hwake, h]
          have hA' : ∃ n, Goes P true (Aside c) (DA c S Mine) (StopA P c S Mine z Fin []) n (a.again ((w.at d).shut c s r tm)) ((w.at d).shut c s r tm) := by
            rcases hA with ⟨n, _, hg⟩ | ⟨_, g, rfl, hs⟩
            · rw [again_running _ (.inl (hg.running (fun _ _ => StopA.running) w (Aside.refl c w)))]
              exact ⟨n, Goes.rely (R := Aside c) (fun _ _ _ h h' => Aside.trans h h') hg (hAs.trans hw3)⟩
            · rw [again_parked_shut rfl hc2]
              exact ⟨0, fun w₁ h₁ => (hs w₁ ((hAs.trans hw3).trans h₁)).again⟩
          obtain ⟨na, hna⟩ := hA'
          have hrun := runT_crowd_go (P := P) (sl := sl') (i := i) hi (show stepG P (i == 0) g (w.at d) = _ by rw [hkb]; exact hgo)
          refine Done.of_step (hst.trans hrun) ?_
          rw [ofEvents_push, ← Array.push_append]
          have hF : ForkX Mine ((t ++ MemOp.ofEvents i g.frame.fn g.frame.place es).push { g := i, fn := g.frame.fn, pos := g.frame.place, act := .ofEvent ⟨.obj c, true, true⟩ }) p i := by
            rw [Array.push_eq_append]
            exact (hT.addk hes).addComm _ (by simp [MemAct.touch?, MemAct.ofEvent])
          have := shut_phase (Fin := Fin) (sl := sl') hk _ na ((gs.map (woken P g g₂ ((w.at d).shut c s r tm))).setIfInBounds i g₂) (a.again ((w.at d).shut c s r tm)) ((w.at d).shut c s r tm) _ (upd q i nq) s r tm p _ rfl (by rw [turn_get hk h0, hwk]) hc2 hna
            (fun j x hj _ hx => by
              by_cases hji : i = j
              · subst hji
                rw [Array.getElem?_setIfInBounds_self_of_lt (by simpa using hltk)] at hx
                rw [← Option.some.inj hx, upd_same]; exact hq
              · rw [upd_ne q nq (Ne.symm hji)]
                exact (hQ.turn i (.inr rfl) _ _ _ _) j x hj (Ne.symm hji) hx) hF (ClosedX.ofPush rfl rfl)
          rwa [turn_size] at this
        | cons v vs' =>
          obtain ⟨_, g₂, z', es, hcomm, hes, hnext⟩ := hat
          have hcm := hcomm _ hS1
          rcases hA with ⟨n, rfl, hG⟩ | ⟨rfl, g₀, rfl, hs⟩
          · -- the receiver is on its way: the sender waits
            have has : a.status ≠ .blocked := by rw [hG.running (fun _ _ => StopA.running) w (Aside.refl c w)]; simp
            have hp : partners (gs.setIfInBounds i ph) c false = [] := partners_nil fun j x hj => by
              rcases getElem?_stand gs i j x hj with ⟨_, rfl⟩ | ⟨hji, hj'⟩
              · exact offersAt_ph c false
              · by_cases hj0 : j = 0
                · subst hj0; rw [h0] at hj'; rw [← Option.some.inj hj']; exact offersAt_of_not_blocked has c false
                · exact side_offers hQ (by omega) hji hj' c false
            have hrun := crowd_waits (sl := sl') (i := i) hi (show stepG P (i == 0) g (w.at d) = _ by rw [hkb]; exact hcm) (fun cc hcc => by
              simp at hcc; subst hcc; exact ways_send_none hc1 (by simp) hp)
            refine Done.of_step (hst.trans hrun) ?_
            have := ihm (n + 1 + 0 + sumTo gs.size q) (by omega) (n + 1) 0 (gs.setIfInBounds i (parked g₂ #[scase c v z'] .send)) a (parked g₂ #[scase c v z'] .send) (w.at d) sl' (t ++ MemOp.ofEvents i g.frame.fn g.frame.place es) q s r tm p (by simp) (by omega)
              (by rw [Array.getElem?_setIfInBounds_ne hk]; exact h0) (by rw [Array.getElem?_setIfInBounds_self_of_lt hltk]) hS1 hc1 (.inl ⟨n, rfl, Goes.rely (R := Aside c) (fun _ _ _ h h' => Aside.trans h h') hG hAs⟩) (.inr ⟨rfl, v, vs', g₂, z', rfl, rfl, hnext⟩) (hQ.put i (.inr rfl) _) (hT.addk hes)
            simpa using this
          · -- the receiver waits: both are served in this one step
            have hp : partners (gs.setIfInBounds i ph) c false = [(0, 0)] := by
              rw [partners_one (j := 0) (g := parked (core g₀) #[rcase c z] (.recv true)) (stand_get (Ne.symm hk) h0) fun j x hj0 hj => by
                rcases getElem?_stand gs i j x hj with ⟨_, rfl⟩ | ⟨hji, hj'⟩
                · exact offersAt_ph c false
                · exact side_offers hQ (by omega) hji hj' c false]
              simp [offersAt_parked_recv]
            have hrun := crowd_send_meets (sl := sl') (i := i) hi (show stepG P (i == 0) g (w.at d) = _ by rw [hkb]; exact hcm) hc1 (Ne.symm hk) h0 hp
            obtain ⟨na, hna⟩ := (recvs_iff P c S Mine z Fin vs' _ _).1 ((hs _ hAs).cons _ hw2)
            obtain ⟨nb, hnb⟩ := (sends_iff P c S Mine vs' _).1 hnext
            refine Done.of_step (hst.trans hrun) ?_
            have := ihv v vs' rfl _ (na + 1) (nb + 1) ((gs.setIfInBounds 0 (Go.Conc.served (core g₀) (.tuple #[v, .bool true]))).setIfInBounds i (Go.Conc.served g₂ undef)) _ _ ((w.at d).passed c s r tm) sl' (t ++ (MemOp.ofEvents i g.frame.fn g.frame.place es ++ #[{ g := i, fn := g₂.frame.fn, pos := g₂.frame.place, act := .send c s }, { g := 0, fn := (core g₀).frame.fn, pos := (core g₀).frame.place, act := .recv c r 0 },
                { g := i, fn := g₂.frame.fn, pos := g₂.frame.place, act := .sendDone c s }, { g := 0, fn := (core g₀).frame.fn, pos := (core g₀).frame.place, act := .recvDone c r }])) q (s + 1) (r + 1) tm p rfl (by omega)
              (by rw [Array.getElem?_setIfInBounds_ne hk, Array.getElem?_setIfInBounds_self_of_lt hlt]) (by rw [Array.getElem?_setIfInBounds_self_of_lt (by simpa using hltk)]) (hSt _ _ hw2 hS1) (heap_put hc1) (.inl ⟨na, rfl, hna⟩) (.inl ⟨nb, rfl, hnb⟩)
              ((hQ.put 0 (.inl rfl) _).put i (.inr rfl) _) (by rw [← Array.append_assoc]; exact (hT.addk hes).addComm _ (by simp [MemAct.touch?]))
            rw [show ((gs.setIfInBounds 0 (Go.Conc.served (core g₀) (.tuple #[v, .bool true]))).setIfInBounds i (Go.Conc.served g₂ undef)).size = gs.size by simp] at this
            exact this
      · -- a step of its own: the world is handed back
        obtain ⟨b', w', es, hgo, ⟨rfl, hes⟩, hg'⟩ := hstep _ hS1
        have hrun := runT_crowd_go (P := P) (sl := sl') (i := i) hi (show stepG P (i == 0) g (w.at d) = _ by rw [hkb]; exact hgo)
        refine Done.of_step (hst.trans hrun) ?_
        have := ihm (ra + (k' + 1) + sumTo gs.size q) (by omega) ra (k' + 1) ((gs.map (woken P g b' (w.at d))).setIfInBounds i b') a b' (w.at d) sl' (t ++ MemOp.ofEvents i g.frame.fn g.frame.place es) q s r tm p (by rw [turn_size]) (by omega)
          (by rw [turn_get hk h0, hA.woken hc1]) (turn_own hltk) hS1 hc1 (hA.rely hAs) (.inl ⟨k', rfl, hg'.anyWorld default⟩) (hQ.turn i (.inr rfl) _ _ _ _) (hT.addk hes)
        rwa [turn_size] at this
    · simp [parked] at hg
  · -- one of those that leave
    obtain ⟨g', n', hrun, hS', hlt'⟩ := slip (w := w.at d) (sl := sl') hQ hi hg (by omega) hik
    refine Done.of_step (hst.trans hrun) ?_
    rw [Array.append_empty]
    have := ihm (ra + rb + sumTo gs.size (upd q i n')) (by omega) ra rb ((gs.map (woken P g g' (w.at d))).setIfInBounds i g') a b (w.at d) sl' t (upd q i n') s r tm p (by rw [turn_size]) hpos (by rw [turn_get hi0 h0, hA.woken hc1])
      (by rw [turn_get hik hb0, hB.woken hS hc1]) hS1 hc1 (hA.rely hAs) hB hS' hT
    rwa [turn_size] at this

/-- The channel is open; 'vs' are still to pass. -/
theorem open_phase (hk : k ≠ 0) (hSt : ∀ w w₁, Aside c w w₁ → S w → S w₁) : ∀ (vs : List Value) (m ra rb : Nat) (gs : Array Goroutine) (a b : Goroutine) (w : World) (sl : Option (Nat × Nat)) (t : Trace) (q : Nat → Nat) (s r : Nat) (tm : Bool) (p : Nat),
    ra + rb + sumTo gs.size q = m → 0 < ra + rb → gs[0]? = some a → gs[k]? = some b → S w → w.heap[c]? = some (.chan 0 #[] false s r tm) → SitA P c S Mine z Fin vs ra a w → SitB P c S Mine vs rb b → Side P k gs q → ForkX Mine t p k →
    Done P Fin gs.size gs w sl t := by
  intro vs
  induction vs with
  | nil =>
    intro m
    induction m using Nat.strongRecOn with
    | _ m ihm => exact phase_core hk hSt (fun _ _ h => by cases h) ihm
  | cons v vs ihv =>
    intro m
    induction m using Nat.strongRecOn with
    | _ m ihm => exact phase_core hk hSt (fun v' vs' h => by cases h; exact ihv) ihm
end
end Go.Proofs.Ytedgbmefajnjeaa.Co
