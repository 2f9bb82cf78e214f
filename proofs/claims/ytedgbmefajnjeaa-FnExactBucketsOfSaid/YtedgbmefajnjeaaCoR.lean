/-
  A run told in stretches: goroutine 0 walks, starts a sender, takes what it sends, walks on, .., returns. On whatever tape the machine carries it out.
-/
import Derived.Test.YtedgbmefajnjeaaCoP
namespace Go.Proofs.Ytedgbmefajnjeaa.Co
open Go Go.Conc
open Go.ConcN (sumTo upd sumTo_upd upd_ne upd_same le_sumTo)

/-- Goroutine 0 stands at a go statement; behind it parent and child follow the two scripts for the same values over an open channel without a buffer. -/
def AtFork (P : Program) (Fin : Goroutine → World → Prop) (g : Goroutine) (w : World) : Prop :=
  g.status = .running ∧ ∃ (a' child : Goroutine) (w' : World) (es : Array Event) (c : Nat) (S : World → Prop) (Mine : Loc → Prop) (z : Value) (vs : List Value) (s r : Nat) (tm : Bool),
    stepG P true g w = .spawn a' child w' es ∧ Mild es ∧ (∀ w w₁, Aside c w w₁ → S w → S w₁) ∧ S w' ∧ w'.heap[c]? = some (.chan 0 #[] false s r tm) ∧
    Recvs P c S Mine z Fin vs a' w' ∧ Sends P c S Mine vs child

section
variable {P : Program} {Fin : Goroutine → World → Prop} {Post : Value → World → Prop}

theorem fork_phase {a : Goroutine} {w : World} (h : ∀ d, AtFork P Fin a (w.at d)) : ∀ (n : Nat) (gs : Array Goroutine) (d : Nat) (sl : Option (Nat × Nat)) (t : Trace) (q : Nat → Nat),
    sumTo gs.size q = n → gs[0]? = some a → Side P 0 gs q → Tidy t → Done P Fin (gs.size + 1) gs (w.at d) sl t := by
  intro n
  induction n using Nat.strongRecOn with
  | _ n ihn =>
    intro gs d sl t q hn h0 hS hT
    have hs := (h 0).1
    have haw := awake_side hS h0 (.inl hs) (fun b hb => by rw [h0] at hb; rw [← Option.some.inj hb]; exact .inl hs)
    obtain ⟨i, g, d', sl', hi, hg, hst⟩ := crowd_pick (P := P) (w := w.at d) (sl := sl) haw ⟨0, a, h0, hs⟩
    have hlt : 0 < gs.size := (Array.getElem?_eq_some_iff.1 h0).1
    rcases Nat.eq_zero_or_pos i with rfl | hpos
    · obtain rfl : g = a := by rw [h0] at hi; exact (Option.some.inj hi).symm
      obtain ⟨_, a', child, w', es, c, S, Mine, z, vs, s, r, tm, hsp, hes, hSt, hSw, hc, hA, hB⟩ := h d'
      have hrun := runT_crowd_spawn (P := P) (sl := sl') (i := 0) hi (show stepG P (0 == 0) g (w.at d') = _ from hsp)
      refine Done.of_step (hst.trans hrun) ?_
      obtain ⟨na, hna⟩ := (recvs_iff P c S Mine z Fin vs _ _).1 hA
      obtain ⟨nb, hnb⟩ := (sends_iff P c S Mine vs _).1 hB
      have hF := ForkX.new (Mine := Mine) (t := t ++ MemOp.ofEvents 0 g.frame.fn g.frame.place es) (k := gs.size) (x := { g := 0, fn := g.frame.fn, pos := g.frame.place, act := .go gs.size }) (y := { g := gs.size, fn := child.frame.fn, pos := g.frame.place, act := .start }) (hT.own hes) ⟨rfl, rfl⟩ ⟨rfl, rfl⟩
      have := open_phase (Fin := Fin) (k := gs.size) (by omega) hSt vs _ (na + 1) (nb + 1) ((gs.setIfInBounds 0 a').push child) a' child w' sl' _ q s r tm _ rfl (by omega)
        (by rw [Array.getElem?_push_lt (by simpa using hlt)]; simp) (by rw [Array.getElem?_push]; simp) hSw hc (.inl ⟨na, rfl, hna⟩) (.inl ⟨nb, rfl, hnb⟩)
        (fun j x hj hjk hx => by
          rw [Array.getElem?_push] at hx
          simp only [Array.size_setIfInBounds, hjk, if_false] at hx
          rw [Array.getElem?_setIfInBounds_ne (by omega)] at hx
          exact hS j x hj (by omega) hx) hF
      rw [Array.size_push, Array.size_setIfInBounds] at this
      have e : t ++ ((MemOp.ofEvents 0 g.frame.fn g.frame.place es).push { g := 0, fn := g.frame.fn, pos := g.frame.place, act := .go gs.size } |>.push { g := gs.size, fn := child.frame.fn, pos := g.frame.place, act := .start }) =
          t ++ MemOp.ofEvents 0 g.frame.fn g.frame.place es ++ #[{ g := 0, fn := g.frame.fn, pos := g.frame.place, act := .go gs.size }, { g := gs.size, fn := child.frame.fn, pos := g.frame.place, act := .start }] := by
        apply Array.ext'
        simp
      rw [e]
      exact this
    · obtain ⟨g', n', hrun, hS', hlt'⟩ := slip (w := w.at d') (sl := sl') hS hi hg hpos (by omega)
      refine Done.of_step (hst.trans hrun) ?_
      rw [Array.append_empty]
      have := ihn _ (by rw [← hn]; exact hlt') ((gs.map (woken P g g' (w.at d'))).setIfInBounds i g') d' sl' t (upd q i n') (by rw [turn_size]) (by rw [turn_get (by omega) h0, woken_running hs]) hS' hT
      rw [turn_size] at this
      exact this

variable (P Post) in
/-- A run with n go statements. -/
def Plan : Nat → Goroutine → World → Prop
  | 0 => Walk P (AtEnd P Post)
  | n + 1 => Walk P (AtFork P (Plan n))

theorem plan_runs : ∀ (n : Nat) (a : Goroutine) (w : World), Plan P Post n a w → ∀ (gs : Array Goroutine) (d : Nat) (sl : Option (Nat × Nat)) (t : Trace) (q : Nat → Nat), gs[0]? = some a → Side P 0 gs q → Tidy t →
    ∃ N last o w' t', runNT P (N + 1) (crowd gs (w.at d) sl) t = (.ended o w', t') ∧ runN P N (crowd gs (w.at d) sl) = .next last ∧ step P last = .ended o w' ∧ Good P Post last o w' t'
  | 0, a, w, h, gs, d, sl, t, q, h0, hS, hT => by
    obtain ⟨N, gs', a', w', sl', t', q', r1, _, r3, r4, r5, r6⟩ := walk_beside (Stop := AtEnd P Post) h _ gs d sl t q rfl h0 hS hT
    obtain ⟨N2, last, o, w2, t2, e1, e2, e3⟩ := ends_beside r4 _ gs' w'.drawn sl' t' q' rfl r3 r5 r6
    have hk : runN P N (crowd gs (w.at d) sl) = .next (crowd gs' w' sl') := by rw [← runNT_fst P N _ t, r1]
    refine ⟨N + N2, last, o, w2, t2, ?_, ?_, e3⟩
    · rw [Nat.add_assoc, runNT_add, r1]; exact e1
    · rw [runN_add, hk]; exact e2
  | n + 1, a, w, h, gs, d, sl, t, q, h0, hS, hT => by
    obtain ⟨N, gs', a', w', sl', t', q', r1, _, r3, r4, r5, r6⟩ := walk_beside (Stop := AtFork P (Plan P Post n)) h _ gs d sl t q rfl h0 hS hT
    obtain ⟨N2, g2, a2, w2, s2, t2, q2, f1, _, f3, f4, f5, f6⟩ := fork_phase r4 _ gs' w'.drawn sl' t' q' rfl r3 r5 r6
    obtain ⟨N3, last, o, w3, t3, e1, e2, e3⟩ := plan_runs n a2 w2 f4 g2 w2.drawn s2 t2 q2 f3 f5 f6
    have hk : runN P N (crowd gs (w.at d) sl) = .next (crowd gs' w' sl') := by rw [← runNT_fst P N _ t, r1]
    have hk2 : runN P N2 (crowd gs' w' sl') = .next (crowd g2 w2 s2) := by rw [← runNT_fst P N2 _ t']; exact congrArg Prod.fst f1
    refine ⟨N + (N2 + N3), last, o, w3, t3, ?_, ?_, e3⟩
    · rw [Nat.add_assoc, runNT_add, r1, Nat.add_assoc]
      show runNT P (N2 + (N3 + 1)) (crowd gs' w' sl') t' = _
      rw [runNT_add, show runNT P N2 (crowd gs' w' sl') t' = _ from f1]; exact e1
    · rw [runN_add, hk]
      show runN P (N2 + N3) (crowd gs' w' sl') = _
      rw [runN_add, hk2]; exact e2

/-- From the call's entry. -/
theorem plan_good {n : Nat} {a : Goroutine} {w : World} (h : Plan P Post n a w) :
    ∃ N last o w' t', runNT P (N + 1) (solo a w) #[] = (.ended o w', t') ∧ runN P N (solo a w) = .next last ∧ step P last = .ended o w' ∧ Good P Post last o w' t' :=
  plan_runs n a w h #[a] w.drawn none #[] (fun _ => 0) rfl (fun i g hi _ hg => by
    have : i < 1 := by simpa using (Array.getElem?_eq_some_iff.1 hg).1
    omega) tidy_nil
end
end Go.Proofs.Ytedgbmefajnjeaa.Co
