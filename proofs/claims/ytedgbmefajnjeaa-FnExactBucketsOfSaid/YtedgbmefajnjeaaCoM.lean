/-
  Goroutine 0 walks beside goroutines that only leave; it starts one more, which sends over a channel without a buffer and closes it; it takes what is sent. Laws of the machine: no program in sight.
-/
import Derived.Conc.CrowdComm
import Derived.Conc.Beside
namespace Go.Proofs.Ytedgbmefajnjeaa.Co
open Go Go.Conc
open Go.ConcN (sumTo upd sumTo_upd upd_ne upd_same le_sumTo)

/-! ### A walk without a count -/
def Mild (es : Array Event) : Prop := ∀ e ∈ es, ∀ m, e.loc = .mark m → Neutral m
theorem mild_nil : Mild #[] := fun e he => by simp at he

inductive Walk (P : Program) (Stop : Goroutine → World → Prop) : Goroutine → World → Prop
  | stop {g : Goroutine} {w : World} (h : ∀ d, Stop g (w.at d)) : Walk P Stop g w
  | step {g : Goroutine} {w : World} (hs : g.status = .running) (f : Nat → Goroutine) (v : Nat → World) (e : Nat → Array Event)
      (h : ∀ d, stepG P true g (w.at d) = .go (f d) (v d) (e d)) (he : ∀ d, Mild (e d)) (k : ∀ d, Walk P Stop (f d) (v d)) : Walk P Stop g w

theorem Walk.of {P : Program} {Stop : Goroutine → World → Prop} {g : Goroutine} {w : World} (hs : g.status = .running)
    (h : ∀ d, ∃ g' w' es, stepG P true g (w.at d) = .go g' w' es ∧ Mild es ∧ Walk P Stop g' w') : Walk P Stop g w :=
  .step hs (fun d => (h d).choose) (fun d => (h d).choose_spec.choose) (fun d => (h d).choose_spec.choose_spec.choose)
    (fun d => (h d).choose_spec.choose_spec.choose_spec.1) (fun d => (h d).choose_spec.choose_spec.choose_spec.2.1) (fun d => (h d).choose_spec.choose_spec.choose_spec.2.2)

theorem Walk.at {P : Program} {Stop : Goroutine → World → Prop} {g : Goroutine} {w : World} (h : Walk P Stop g w) (d : Nat) : Walk P Stop g (w.at d) := by
  cases h with
  | stop h => exact .stop fun d' => h d'
  | step hs f v e h he k => exact .step hs f v e h he k

theorem Walk.mono {P : Program} {Stop Stop' : Goroutine → World → Prop} (hS : ∀ g w, Stop g w → Stop' g w) {g : Goroutine} {w : World} (h : Walk P Stop g w) : Walk P Stop' g w := by
  induction h with
  | stop h => exact .stop fun d => hS _ _ (h d)
  | step hs f v e h he k ih => exact .step hs f v e h he ih

/-! ### The trace -/
structure Tidy (t : Trace) : Prop where
  wordless : Wordless t
  clean : ∀ said, ¬ Race said t
  known : ∀ i a, touchAt t i = some a → a.loc.isMemory = true → Knows t 0 i

theorem tidy_nil : Tidy #[] :=
  ⟨fun op hop => by simp at hop, fun said => by rintro ⟨i, j, _, ⟨a, b, ha, _⟩, _⟩; simp [Trace.act?] at ha, fun i a ha => by simp [touchAt, Trace.act?] at ha⟩

theorem Tidy.app0 {t u : Trace} (h : Tidy t) (hw : Wordless u) (hu : ∀ op ∈ u, op.g = 0) : Tidy (t ++ u) := by
  refine ⟨h.wordless.append hw, fun said => noRace_append (h.clean said) hu fun i a ha op _ b _ hc => h.known i a ha hc.2.1, fun i a ha hm => ?_⟩
  obtain ⟨x, hx, hxa⟩ := touch_of ha
  rcases getElem?_append_cases hx with ⟨_, hx'⟩ | ⟨_, hxu⟩
  · exact (h.known i a (by rw [touchAt_of hx']; exact hxa) hm).app u
  · have := knows_own hx
    rwa [hu x hxu] at this

theorem Tidy.own {t : Trace} (h : Tidy t) {fn : FuncId} {pos : String} {es : Array Event} (he : Mild es) : Tidy (t ++ MemOp.ofEvents 0 fn pos es) :=
  h.app0 (early0 he).1 (early0 he).2

theorem Tidy.over {t : Trace} (h : Tidy t) : t.HandedOver := by
  intro i g hg hne hc
  obtain ⟨x, hx, hmem, _⟩ := hc
  obtain ⟨q, z, hq, hz, hb⟩ := h.known i x hx hmem
  rcases hb with rfl | hb
  · exact absurd (by simpa [Trace.g?, hq, hz] using hg.symm) hne
  · exact ⟨q, by simp [Trace.g?, hq, hz], hb⟩

/-! ### Those that only leave -/
def Side (P : Program) (k : Nat) (gs : Array Goroutine) (q : Nat → Nat) : Prop := ∀ i g, 0 < i → i ≠ k → gs[i]? = some g → QuitsIn P (q i) g

section
variable {P : Program} {k : Nat} {gs : Array Goroutine} {q : Nat → Nat} {w : World} {sl : Option (Nat × Nat)}

theorem Side.turn (h : Side P k gs q) (j : Nat) (hj : j = 0 ∨ j = k) (g g' x : Goroutine) (w' : World) : Side P k ((gs.map (woken P g g' w')).setIfInBounds j x) q := by
  intro i y hi hk hy
  have hne : j ≠ i := by omega
  rw [Array.getElem?_setIfInBounds_ne hne, Array.getElem?_map] at hy
  obtain ⟨y0, hy0, rfl⟩ := Option.map_eq_some_iff.1 hy
  have := h i y0 hi hk hy0
  rwa [woken_quits this]

theorem Side.put (h : Side P k gs q) (j : Nat) (hj : j = 0 ∨ j = k) (x : Goroutine) : Side P k (gs.setIfInBounds j x) q := by
  intro i y hi hk hy
  have hne : j ≠ i := by omega
  rw [Array.getElem?_setIfInBounds_ne hne] at hy
  exact h i y hi hk hy

/-- one of those that leave takes a step -/
theorem slip {i : Nat} {g : Goroutine} (hS : Side P k gs q) (hi : gs[i]? = some g) (hg : g.status = .running) (h0 : 0 < i) (hk : i ≠ k) :
    ∃ g' n', runT P (crowd gs w sl) i = (.next (crowd ((gs.map (woken P g g' w)).setIfInBounds i g') w sl), #[]) ∧
      Side P k ((gs.map (woken P g g' w)).setIfInBounds i g') (upd q i n') ∧ sumTo gs.size (upd q i n') < sumTo gs.size q := by
  have hq := hS i g h0 hk hi
  have hlt : i < gs.size := (Array.getElem?_eq_some_iff.1 hi).1
  cases hqi : q i with
  | zero => rw [hqi] at hq; rw [show g.status = .finished from hq] at hg; cases hg
  | succ n =>
    rw [hqi] at hq
    rcases hq with h | ⟨_, g', hst, hq'⟩
    · rw [h] at hg; cases hg
    have hb : (i == 0) = false := by simp; omega
    refine ⟨g', n, ?_, ?_, ?_⟩
    · rw [runT_crowd_go (P := P) (sl := sl) hi (by rw [hb]; exact hst w)]; rfl
    · intro j x hj hjk hx
      by_cases hji : i = j
      · subst hji
        rw [Array.getElem?_setIfInBounds_self_of_lt (by simpa using hlt)] at hx
        obtain rfl := Option.some.inj hx
        rw [upd_same]; exact hq'
      · rw [Array.getElem?_setIfInBounds_ne hji, Array.getElem?_map] at hx
        obtain ⟨y, hy, rfl⟩ := Option.map_eq_some_iff.1 hx
        have hy' := hS j y hj hjk hy
        rw [woken_quits hy', upd_ne q n (Ne.symm hji)]; exact hy'
    · have h1 : sumTo gs.size (upd q i n) + q i = sumTo gs.size q + n := sumTo_upd q n id hlt
      omega

theorem turn_get {i j : Nat} (hij : i ≠ j) {g g' x o : Goroutine} {w' : World} (hj : gs[j]? = some o) : ((gs.map (woken P g g' w')).setIfInBounds i x)[j]? = some (woken P g g' w' o) := by
  rw [Array.getElem?_setIfInBounds_ne hij, Array.getElem?_map, hj]; rfl
theorem turn_own {i : Nat} (hi : i < gs.size) {g g' x : Goroutine} {w' : World} : ((gs.map (woken P g g' w')).setIfInBounds i x)[i]? = some x := by
  rw [Array.getElem?_setIfInBounds_self_of_lt (by simpa using hi)]
theorem turn_size {i : Nat} {g g' x : Goroutine} {w' : World} : ((gs.map (woken P g g' w')).setIfInBounds i x).size = gs.size := by simp

theorem awake_side (hS : Side P k gs q) {a : Goroutine} (h0 : gs[0]? = some a) (ha : a.status = .running ∨ a.status = .blocked ∨ a.status = .finished)
    (hk : ∀ b, gs[k]? = some b → b.status = .running ∨ b.status = .blocked ∨ b.status = .finished) : ∀ g ∈ gs, awake g := by
  intro g hg
  obtain ⟨i, hi, rfl⟩ := Array.mem_iff_getElem.1 hg
  have hgi : gs[i]? = some gs[i] := Array.getElem?_eq_getElem hi
  by_cases hik : i = k
  · subst hik; exact awake_of (hk _ hgi)
  rcases Nat.eq_zero_or_pos i with rfl | hpos
  · rw [hgi] at h0; rw [Option.some.inj h0]; exact awake_of ha
  · exact awake_of ((hS i _ hpos hik hgi).status.elim .inl fun x => .inr (.inr x))
end

section
variable {P : Program} {Stop : Goroutine → World → Prop} {Post : Value → World → Prop}

/-- The walk is carried out, on whatever tape. -/
theorem walk_beside {a : Goroutine} {w : World} (hW : Walk P Stop a w) : ∀ (n : Nat) (gs : Array Goroutine) (d : Nat) (sl : Option (Nat × Nat)) (t : Trace) (q : Nat → Nat),
    sumTo gs.size q = n → gs[0]? = some a → Side P 0 gs q → Tidy t →
    ∃ (N : Nat) (gs' : Array Goroutine) (a' : Goroutine) (w' : World) (sl' : Option (Nat × Nat)) (t' : Trace) (q' : Nat → Nat),
      runNT P N (crowd gs (w.at d) sl) t = (.next (crowd gs' w' sl'), t') ∧ gs'.size = gs.size ∧ gs'[0]? = some a' ∧ (∀ d, Stop a' (w'.at d)) ∧ Side P 0 gs' q' ∧ Tidy t' := by
  induction hW with
  | @stop a w h => exact fun n gs d sl t q _ h0 hS hT => ⟨0, gs, a, w.at d, sl, t, q, rfl, rfl, h0, fun d' => h d', hS, hT⟩
  | @step a w hs f v e h he _ ih =>
    intro n
    induction n using Nat.strongRecOn with
    | _ n ihn =>
      intro gs d sl t q hn h0 hS hT
      have haw := awake_side hS h0 (.inl hs) (fun b hb => by rw [h0] at hb; rw [← Option.some.inj hb]; exact .inl hs)
      obtain ⟨i, g, d', sl', hi, hg, hst⟩ := crowd_pick (P := P) (w := w.at d) (sl := sl) haw ⟨0, a, h0, hs⟩
      rcases Nat.eq_zero_or_pos i with rfl | hpos
      · obtain rfl : g = a := by rw [h0] at hi; exact (Option.some.inj hi).symm
        have hrun := runT_crowd_go (P := P) (sl := sl') (i := 0) hi (show stepG P (0 == 0) g (w.at d') = _ from h d')
        have hlt : 0 < gs.size := (Array.getElem?_eq_some_iff.1 h0).1
        obtain ⟨N, gs', a', w', sl'', t', q', r1, r2, r3⟩ := ih d' _ ((gs.map (woken P g (f d') (v d'))).setIfInBounds 0 (f d')) (v d').drawn sl' (t ++ MemOp.ofEvents 0 g.frame.fn g.frame.place (e d')) q rfl (turn_own hlt)
          (hS.turn 0 (.inl rfl) _ _ _ _) (hT.own (he d'))
        exact ⟨N + 1, gs', a', w', sl'', t', q', by simp only [runNT, hst, show (w.at d).at d' = w.at d' from rfl, hrun]; exact r1, r2.trans turn_size, r3⟩
      · obtain ⟨g', n', hrun, hS', hlt⟩ := slip (w := w.at d') (sl := sl') hS hi hg hpos (by omega)
        obtain ⟨N, gs', a', w', sl'', t', q', r1, r2, r3⟩ := ihn _ (by rw [← hn]; exact hlt) ((gs.map (woken P g g' (w.at d'))).setIfInBounds i g') d' sl' t (upd q i n') (by rw [turn_size])
          (by rw [turn_get (by omega) h0, woken_running hs]) hS' hT
        exact ⟨N + 1, gs', a', w', sl'', t', q', by simp only [runNT, hst, show (w.at d).at d' = w.at d' from rfl, hrun, Array.append_empty]; exact r1, r2.trans turn_size, r3⟩

/-- Goroutine 0 stands at the step that ends the run. -/
def AtEnd (P : Program) (Post : Value → World → Prop) (g : Goroutine) (w : World) : Prop :=
  g.status = .running ∧ ∃ v es, stepG P true g w = .ended (.done v) w es ∧ Mild es ∧ Post v w

theorem ends_beside {a : Goroutine} {w : World} (h : ∀ d, AtEnd P Post a (w.at d)) : ∀ (n : Nat) (gs : Array Goroutine) (d : Nat) (sl : Option (Nat × Nat)) (t : Trace) (q : Nat → Nat),
    sumTo gs.size q = n → gs[0]? = some a → Side P 0 gs q → Tidy t →
    ∃ N last o w' t', runNT P (N + 1) (crowd gs (w.at d) sl) t = (.ended o w', t') ∧ runN P N (crowd gs (w.at d) sl) = .next last ∧ step P last = .ended o w' ∧ Good P Post last o w' t' := by
  intro n
  induction n using Nat.strongRecOn with
  | _ n ihn =>
    intro gs d sl t q hn h0 hS hT
    have hs := (h 0).1
    have haw := awake_side hS h0 (.inl hs) (fun b hb => by rw [h0] at hb; rw [← Option.some.inj hb]; exact .inl hs)
    obtain ⟨i, g, d', sl', hi, hg, hst⟩ := crowd_pick (P := P) (w := w.at d) (sl := sl) haw ⟨0, a, h0, hs⟩
    rcases Nat.eq_zero_or_pos i with rfl | hpos
    · obtain rfl : g = a := by rw [h0] at hi; exact (Option.some.inj hi).symm
      obtain ⟨_, v, es, hend, hes, hp⟩ := h d'
      have hrun := runT_many_ended (P := P) (sl := sl') (i := 0) hi (show stepG P (0 == 0) g (w.at d') = _ from hend)
      have hT' : Tidy (t ++ MemOp.ofEvents 0 g.frame.fn g.frame.place es) := hT.own hes
      have hst' : stepT P (crowd gs (w.at d) sl) = (.ended (.done v) (w.at d'), MemOp.ofEvents 0 g.frame.fn g.frame.place es) := hst.trans hrun
      refine ⟨0, _, .done v, w.at d', _, by simp only [runNT, hst'], rfl, by simp only [step, hst'], v, rfl, hp, hT'.clean, hT'.over, ⟨fun x hx => ?_, rfl⟩, fun j x hx hj => ?_⟩
      · obtain ⟨j, hj⟩ := List.mem_iff_getElem?.1 hx
        rw [List.getElem?_drop] at hj
        exact ⟨_, (hS (1 + j) x (by omega) (by omega) (by simpa [crowd] using hj)).leaves⟩
      · refine ⟨q j, ?_⟩
        rw [hT'.wordless.deaf]
        exact (hS j x (by omega) hj hx).hears _ 0
    · obtain ⟨g', n', hrun, hS', hlt⟩ := slip (w := w.at d') (sl := sl') hS hi hg hpos (by omega)
      obtain ⟨N, last, o, w', t', r1, r2, r3⟩ := ihn _ (by rw [← hn]; exact hlt) ((gs.map (woken P g g' (w.at d'))).setIfInBounds i g') d' sl' t (upd q i n') (by rw [turn_size])
        (by rw [turn_get (by omega) h0, woken_running hs]) hS' hT
      have hst' := hst.trans hrun
      refine ⟨N + 1, last, o, w', t', ?_, ?_, r3⟩
      · rw [runNT_succ_next hst', Array.append_empty]; exact r1
      · rw [runN_succ_next hst']; exact r2
end
end Go.Proofs.Ytedgbmefajnjeaa.Co
