/-
  Drawn regions with what only reads taken first, inside rounds and functions that range over a function.
-/
import Derived.Test.YtcdjneiaoikpnaaStRfn
import Derived.Test.YtcdjneiaoikpnaaStHld
set_option linter.unusedSimpArgs false
set_option linter.unusedVariables false
namespace Go.Proofs.Ytcdjneiaoikpnaa.St.Rnd
open Go.RowKit
def noDef : Oper → Bool
  | ⟨_, .defer _, _, _, _, _⟩ => false
  | _ => true
theorem noDef_spec {o : Oper} (h : noDef o = true) : ∀ c, o.op ≠ .defer c := by
  intro c hc
  obtain ⟨d, op, ty, pos, af, g⟩ := o
  simp only at hc
  subst hc
  cases h
theorem rowsIn_wideR {P : Program} {ro : Option Nat} {n : Nat} {row : String} {args : Array Value} {w : World} {R : Value → World → Prop} (h : Rows P row args w R) : RowsIn (wideR ro) n P row args w R := fun c cs _ => by
  obtain ⟨v, w', r, s⟩ := h c cs
  exact ⟨v, w', r, stepsIn_wide.2 s⟩
theorem op_fence {P : Program} {ops : Array Oper} {Q Q' : Exit → Act → World → Prop} {ro : Option Nat} {ds : List Deferred} {i : Nat} {K K' : Act → World → Prop} {a : Act} {w : World} (hnd : ∀ (i : Nat) (o : Oper), ops[i]? = some o → noDef o = true)
    (hno : ∀ a w, ¬ Q .outgrown a w) (hnp : ∀ c a w, ¬ Q (.panic c) a w) (hK : ∀ a w, K a w → K' (a.dfr ds) w) (h : wpOp P ops Q i K a w) : wpOpIn (wideR ro) 0 P ops Q' i K' (a.dfr ds) w := by
  unfold wpOp at h
  unfold wpOpIn
  cases ho : ops[i]? with
  | none => rw [ho] at h; exact hK _ _ h
  | some o =>
    rw [ho] at h
    simp only at h ⊢
    by_cases hw : Region.wanted o (yielded ops a.tmps) = true
    · rw [if_pos hw] at h
      rw [show Region.wanted o (yielded ops (a.dfr ds).tmps) = true from hw, if_pos rfl]
      rcases h with h | ⟨_, a0, w0, h⟩
      · refine ⟨fun _ _ => trivial, ?_⟩
        rw [Oper.semAt_eq _ _ _ (noDef_spec (hnd i o ho)), dfr_eval]
        unfold Oper.wp at h
        generalize (execOp a.eval o).run P w = r at h
        cases r with
        | ok n w' =>
          cases n <;> simp only [Oper.upon] at h <;> simp only [Oper.uponIn]
          case value v => rw [dfr_put]; exact hK _ _ h
          case skip => rw [dfr_put]; exact hK _ _ h
          case defer d => have := hK _ _ h; rw [← dfr_put] at this; exact this
          case enter f args =>
            refine ⟨fun e => (by cases e), calls_wideR (h.mono fun e w2 he => ?_)⟩
            cases e with
            | returned v => show K' ((a.dfr ds).put o.dst v) w2; rw [dfr_put]; exact hK _ _ he
            | panicked c => exact (hnp _ _ _ he).elim
            | outgrown => obtain ⟨a0, w0, h0⟩ := he; exact (hno _ _ h0).elim
          case row row args =>
            refine ⟨fun e => (by cases e), rowsIn_wideR (h.mono fun v w2 he => ?_)⟩
            rw [dfr_put]
            exact hK _ _ he
        | halt x w' =>
          cases x <;> simp only [Oper.upon] at h
          case panic v => exact (hnp _ _ _ h).elim
      · exact (hno _ _ h).elim
    · have hw' : Region.wanted o (yielded ops a.tmps) = false := by simpa using hw
      rw [if_neg hw] at h
      rw [show Region.wanted o (yielded ops (a.dfr ds).tmps) = false from hw', if_neg (by simp)]
      refine ⟨fun _ _ => trivial, ?_⟩
      rw [dfr_put]
      exact hK _ _ h
theorem any_fence {P : Program} {ops : Array Oper} {Q : Exit → Act → World → Prop} {ro : Option Nat} {ds : List Deferred} (hnd : ∀ (i : Nat) (o : Oper), ops[i]? = some o → noDef o = true) (hno : ∀ a w, ¬ Q .outgrown a w) (hnp : ∀ c a w, ¬ Q (.panic c) a w) :
    ∀ (fuel : Nat) (listed : Array Bool) (a : Act) (w : World), wpAny P .any ops Q fuel listed a w → wpAnyIn (wideR ro) 0 P .any ops (QF ds Q) fuel listed (a.dfr ds) w
  | 0, _, a, _, h => ⟨h.1, a, rfl, h.2⟩
  | fuel + 1, _, a, _, h => ⟨fun hr => ⟨a, rfl, h.1 hr⟩, fun i hi => op_fence hnd hno hnp (fun a w hk => any_fence hnd hno hnp fuel _ a w hk) (h.2 i hi)⟩
theorem hw_region {P : Program} {ro : Option Nat} {ds : List Deferred} {a : Act} {w W0 : World} {X : List Nat} {B : Heap} {L : List Own} {l : List Oper} {Q : QD} {id : Nat} (Ls : List Own) (hmix : P.follows .mixedOrders = true) (hm : Mem W0 X B L w)
    (k : ∀ w', Mem W0 X B L w' → HW P l (fun a w => Cont (Q ds) .normal a w) (Mem W0 X B Ls) l.length (Array.replicate l.length false) a w') (hnd : l.all noDef = true) : CW P ro ds (Code.region id l.toArray true) Q a w := by
  refine ⟨wpIn_mono (wpIn_region_any (Q := QF ds (nQ (fun a w => Cont (Q ds) .normal a w))) hmix ?_) (fun e a w q => by obtain ⟨a0, rfl, rfl, hq⟩ := q; exact ⟨_, a0, rfl, hq.out⟩)⟩
  have := wpAny_of_held _ _ _ _ (k _ (hm.ext (ext_drew w))).out
  have h2 := any_fence (ro := ro) (ds := ds) (ops := l.toArray) (fun i o ho => List.all_eq_true.1 hnd o (List.mem_of_getElem? (by simpa using ho))) (fun a w h => by cases h.1) (fun c a w h => by cases h.1) _ _ _ _ this
  simpa using h2
end Go.Proofs.Ytcdjneiaoikpnaa.St.Rnd
