/-
  The end of a function without results; a piece of code cut off with a state.
-/
import Derived.Test.YtgmonjghbjaadaaGreatDoorJ3
set_option linter.unusedSimpArgs false
set_option linter.unusedVariables false
namespace Go.Proofs.YtgmonjghbjaadaaGreatDoor.St
open Go.RowKit
theorem k_norm {P : Program} {fn : Func} {R : Value → World → Prop} {a : Act} {w : World} (h : Cont (Post P fn R) .ret a w) : Cont (Post P fn R) .normal a w := ⟨h.out⟩
theorem cw_cutN {P : Program} {c : Code} {Q : Exit → Act → World → Prop} {a : Act} {w : World} (S : Act → World → Prop) (h : CW P c (fun e a w => e = .normal ∧ S a w) a w) (k : ∀ a w, S a w → Cont Q .normal a w) : CW P c Q a w :=
  ⟨Code.wp_mono (fun e a w q => by obtain ⟨rfl, hs⟩ := q; exact (k a w hs).out) h.out⟩
/-- it returns a new slice whose cells R speaks of, and what was there stays -/
structure FunV2 (P : Program) (f : FuncId) (vs : List Value) (pre : Heap → Prop) (T : TypeId) (sz : Nat) (R : List Value → Prop) : Prop where
  out : ∀ w, pre (fun b => w.heap[b]?) → Calls P f vs.toArray w fun e w' => ∃ v n cs, e = .returned v ∧ R cs ∧ Ext w w' ∧ w'.ownsRow w.heap.size T sz v n cs
theorem FunV2.weaken {P : Program} {f : FuncId} {vs : List Value} {pre : Heap → Prop} {T : TypeId} {sz : Nat} {R R' : List Value → Prop} (h : FunV2 P f vs pre T sz R) (hR : ∀ cs', R cs' → R' cs') : FunV2 P f vs pre T sz R' :=
  ⟨fun w hp => (h.out w hp).mono fun _ w' ⟨v, n, cs', he, hr, hx, ho⟩ => ⟨v, n, cs', he, hR _ hr, hx, ho⟩⟩
theorem enterFunV2 {P : Program} {f : FuncId} {fn : Func} {c : Code} {vs : List Value} {n : Nat} {pre : Heap → Prop} {T : TypeId} {sz : Nat} {R : List Value → Prop} (hf : P.funcs[f]? = some fn) (hb : fn.body = some c) (hn : fn.ntmps = n) (hl : Nat.ble vs.length n = true)
    (h : ∀ W0 w a, pre (fun b => W0.heap[b]?) → Mem W0 [] (fun b => W0.heap[b]?) [] w → Holds (enumE 0 vs) n a → CW P c (Post P fn fun u w' => Ext W0 w' ∧ ∃ m cs, R cs ∧ w'.ownsRow W0.heap.size T sz u m cs) a w) : FunV2 P f vs pre T sz R := by
  refine ⟨fun w hp => ?_⟩
  refine (enter (R := fun u w' => Ext w w' ∧ ∃ m cs, R cs ∧ w'.ownsRow w.heap.size T sz u m cs) hf hb hn hl (fun a ha => h w w a hp (Mem.start w) ha)).mono ?_
  rintro e w' ⟨u, rfl, hx, m, cs, hr, hR⟩
  exact ⟨u, m, cs, rfl, hr, hx, hR⟩
theorem does_funV2 {P : Program} {E : Env} {w W0 : World} {X : List Nat} {B : Heap} {L : List Own} {Φ : Value → World → Prop} {ty : TypeId} {f : FuncId} {args : List Operand} {ats : Array TypeId} {vs : List Value} {pre : Heap → Prop} {T : TypeId} {sz : Nat} {R : List Value → Prop} (hm : Mem W0 X B L w) (hen : Enters P f) (hx : evs E args = some vs) (hc : FunV2 P f vs pre T sz R)
    (hp : pre (fun b => w.heap[b]?)) (k : ∀ v cs w', R cs → Mem W0 X B (.row v T sz cs :: L) w' → Φ v w') : Does P (.call { callee := .value (.func f), args := args.toArray, argTypes := ats }) ty E w Φ :=
  does_call hen hx ((hc.out w hp).mono fun _ w' ⟨v, n, cs, he, hr, hx, hR⟩ => ⟨v, he, k v cs w' hr (hm.addRow hx hR)⟩)
end Go.Proofs.YtgmonjghbjaadaaGreatDoor.St
