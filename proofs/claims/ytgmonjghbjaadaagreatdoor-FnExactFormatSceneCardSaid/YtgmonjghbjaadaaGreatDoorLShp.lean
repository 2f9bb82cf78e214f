/-
  A law over worlds in which the row's list is laid, its shape kept; from the row's list of library tables to the condition on the heap.
-/
import Derived.Test.YtgmonjghbjaadaaGreatDoorJ8
import Derived.Test.YtgmonjghbjaadaaGreatDoorRows
import Derived.LaidMore
import Derived.Stop.LaidErr
import Derived.Lib.LaidTab
import Derived.Handed
import Derived.SizedLaws
set_option linter.unusedSimpArgs false
set_option linter.unusedVariables false
namespace Go.Proofs.YtgmonjghbjaadaaGreatDoor.St
open Go.RowKit
theorem handed_and_shaped {H : Type} {enc : TypeId × Value → H} {e : Assume} {C : Checked} {os : Os} {f : FuncId} {fn : Func} {s : ChangeSpec} {cds : List PathCond} {apart fresh handsOn again : Bool} {X : World → Array Value → Prop}
    (hX : ∀ (u u' : World) (vs : Array Value), u.heap = u'.heap → X u vs → X u' vs)
    (own : ownKnob C.prog.godebug = none) (started : os.Started) (noInit : C.prog.inits.idxOf? f = none) (hfn : C.prog.funcs[f]? = some fn)
    (wit : ∃ (w : World) (tape : Tape) (i : Input), w.os = os ∧ (w.forCall tape i).Shaped C.prog ∧ i.vars = [] ∧ Input.okWide C.prog (w.forCall tape i) .any w.heap.size f i ∧
      ((s.pre enc C.prog fn cds apart (w.forCall tape i).memory i.args ∧ X (w.forCall tape i).memory i.args) ∧ sizedMet enc C.prog fn (OpenSpec.ofChange s) apart (w.forCall tape i).memory i.args) ∧ e.holds C.prog (lone (Frame.enter C.prog f i.args .normal) [] (w.forCall tape i)))
    (k : ∀ (W : World) (base : Nat) (args : Array Value) (ds gs : List (DataW H)) (before : List MemPlace),
      (∀ (j : Nat) t v, fn.params[j]? = some t → args[j]? = some v → Value.okWide C.prog W .any base t v) →
      DataW.Whole enc C.prog fn.params.toList s.vars apart W args.toList ds gs before →
      cds.all (PathCond.test C.prog ⟨fn.params.toList, ds, s.plain.varTypes C.prog, gs⟩) = true →
      (DataW.weightsEach C.prog (fn.params.toList ++ s.plain.varTypes C.prog) (ds ++ gs)).all (· ≤ reachBytes) = true → X W args → W.ShapedOpen C.prog →
      e.holds C.prog (lone (Frame.enter C.prog f args .normal) [] W) →
      Calls C.prog f args W fun r W' => ∃ v, r = .returned v ∧ s.post enc C.prog fn apart fresh handsOn again W args v W') :
    ReturnsInHanded e C os f .any (fun u vs => (s.pre enc C.prog fn cds apart u vs ∧ X u vs) ∧ sizedMet enc C.prog fn (OpenSpec.ofChange s) apart u vs) (s.post enc C.prog fn apart fresh handsOn again) :=
  returnsInHanded_of_calls own started noInit wit fun w tape i _ hsh _ hok hpre hholds => by
    obtain ⟨_, _, _, fn2, hfn2, _, _, _, _, hval⟩ := hok
    obtain rfl : fn2 = fn := Option.some.inj (hfn2.symm.trans hfn)
    obtain ⟨⟨⟨ds, gs, before, hw, hc⟩, hx⟩, hz⟩ := hpre
    refine (k (w.forCall tape i) w.heap.size i.args ds gs before hval (DataW.Whole.of_heap (w' := w.forCall tape i) (by rfl) hw) hc (hz.weights hw) (hX _ _ _ (by rfl) hx) hsh hholds).mono ?_
    rintro _ W' ⟨v, rfl, hp⟩
    exact ChangeSpec.post_blind hp
theorem tab_ofS {W : World} (h : laidMetH Tryz.prog Rows.fnExactFormatSceneRow.laid W) : TabH (fun b => W.heap[b]?) := by
  have h2 := laidMet.tail (laidMet.tail (show laidMet Tryz.prog Rows.fnExactFormatSceneRow.laid W from h))
  have h3 := Lib.tabIs_of_head (rest := [("unicode/utf8.acceptRanges", Rows.laid_unicode_utf8_acceptRanges), ("unicode/utf8.first", Rows.laid_unicode_utf8_first)]) (k := .u64) (zs := Lib.pow10Tab) layI.m17 (t := 197) (by kernel_rfl) Tryz.underlying197 Tryz.underlying178 (by kernel_rfl) (by kernel_rfl) h2
  unfold Lib.TabIs World.var? at h3
  rw [layI.m17] at h3
  simp only [Option.bind_some] at h3
  split at h3
  · rename_i cs T fz hc
    cases h3
    exact ⟨T, fz, hc⟩
  · cases h3
end Go.Proofs.YtgmonjghbjaadaaGreatDoor.St
