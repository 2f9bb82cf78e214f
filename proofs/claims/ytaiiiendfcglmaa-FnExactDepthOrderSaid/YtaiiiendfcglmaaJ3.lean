/-
  The end of a function without results; a piece of code cut off with a state.
-/
import Derived.Test.YtaiiiendfcglmaaStOwn
import Derived.RegionTactic

section
set_option linter.unusedSimpArgs false
set_option linter.unusedVariables false
namespace Go.Proofs.Ytaiiiendfcglmaa.St
open Go.RowKit
theorem k_norm {P : Program} {fn : Func} {R : Value → World → Prop} {a : Act} {w : World} (h : Cont (Post P fn R) .ret a w) : Cont (Post P fn R) .normal a w := ⟨h.out⟩
theorem cw_cutN {P : Program} {c : Code} {Q : Exit → Act → World → Prop} {a : Act} {w : World} (S : Act → World → Prop) (h : CW P c (fun e a w => e = .normal ∧ S a w) a w) (k : ∀ a w, S a w → Cont Q .normal a w) : CW P c Q a w :=
  ⟨Code.wp_mono (fun e a w q => by obtain ⟨rfl, hs⟩ := q; exact (k a w hs).out) h.out⟩
theorem cw_cutX {P : Program} {c : Code} {Q : Exit → Act → World → Prop} {a : Act} {w : World} (n : Nat) (S : Act → World → Prop) (h : CW P c (fun e a w => e = .exit n ∧ S a w) a w) (k : ∀ a w, S a w → Cont Q (.exit n) a w) : CW P c Q a w :=
  ⟨Code.wp_mono (fun e a w q => by obtain ⟨rfl, hs⟩ := q; exact (k a w hs).out) h.out⟩
/-- it returns a new slice whose cells R speaks of, and what was there stays -/
structure FunV2 (P : Program) (f : FuncId) (vs : List Value) (pre : Heap → Prop) (T : TypeId) (sz : Nat) (R : List Value → Prop) : Prop where
  out : ∀ w, pre (fun b => w.heap[b]?) → Calls P f vs.toArray w fun e w' => ∃ v n cs, e = .returned v ∧ R cs ∧ Ext w w' ∧ w'.ownsRow w.heap.size T sz v n cs
theorem FunV2.toN {P : Program} {f : FuncId} {vs : List Value} {pre : Heap → Prop} {T : TypeId} {sz : Nat} {R : List Value → Prop} {cs : List Value} (h : FunV2 P f vs pre T sz R) (hR : ∀ cs', R cs' → cs' = cs) : FunN P f vs pre T sz cs :=
  ⟨fun w hp => (h.out w hp).mono fun _ w' ⟨v, n, cs', he, hr, hx, ho⟩ => by have := hR _ hr; subst this; exact ⟨v, n, he, hx, ho⟩⟩
theorem FunV2.weaken {P : Program} {f : FuncId} {vs : List Value} {pre : Heap → Prop} {T : TypeId} {sz : Nat} {R R' : List Value → Prop} (h : FunV2 P f vs pre T sz R) (hR : ∀ cs', R cs' → R' cs') : FunV2 P f vs pre T sz R' :=
  ⟨fun w hp => (h.out w hp).mono fun _ w' ⟨v, n, cs', he, hr, hx, ho⟩ => ⟨v, n, cs', he, hR _ hr, hx, ho⟩⟩
theorem enterFunV2 {P : Program} {f : FuncId} {fn : Func} {c : Code} {vs : List Value} {n : Nat} {pre : Heap → Prop} {T : TypeId} {sz : Nat} {R : List Value → Prop} (hf : P.funcs[f]? = some fn) (hb : fn.body = some c) (hn : fn.ntmps = n) (hl : Nat.ble vs.length n = true)
    (h : ∀ W0 w a, pre (fun b => W0.heap[b]?) → Mem W0 [] (fun b => W0.heap[b]?) [] w → Holds (enumE 0 vs) n a → CW P c (Post P fn fun u w' => Ext W0 w' ∧ ∃ m cs, R cs ∧ w'.ownsRow W0.heap.size T sz u m cs) a w) : FunV2 P f vs pre T sz R := by
  refine ⟨fun w hp => ?_⟩
  refine (enter (R := fun u w' => Ext w w' ∧ ∃ m cs, R cs ∧ w'.ownsRow w.heap.size T sz u m cs) hf hb hn hl (fun a ha => h w w a hp (Mem.start w) ha)).mono ?_
  rintro e w' ⟨u, rfl, hx, m, cs, hr, hR⟩
  exact ⟨u, m, cs, rfl, hr, hx, hR⟩
theorem does_funV2 {P : Program} {E : Env} {w W0 : World} {X : List Nat} {B : Heap} {L : List Own} {Φ : Value → World → Prop} {ty : TypeId} {f : FuncId} {args : List Operand} {ats : Array TypeId} {vs : List Value} {pre : Heap → Prop} {T : TypeId} {sz : Nat} {R : List Value → Prop} (hm : Mem W0 X B L w) (hen : Enters P f) (hx : evs E args = some vs) (hc : FunV2 P f vs pre T sz R)
    (hp : pre (fun b => w.heap[b]?)) (k : ∀ v cs w', R cs → Mem W0 X B (.row v T sz cs :: L) w' → Φ v w') : Does P (.call { callee := .value (.func f), args := args.toArray, argTypes := ats }) ty E w Φ :=
  does_call hen hx ((hc.out w hp).mono fun _ w' ⟨v, n, cs, he, hr, hx, hR⟩ => ⟨v, he, k v cs w' hr (hm.addRow hx hR)⟩)
end Go.Proofs.Ytaiiiendfcglmaa.St
end

section
/-
  Regions that draw their order, walked order by order: for short ones with stores in them.
-/
set_option linter.unusedSimpArgs false
set_option linter.unusedVariables false
namespace Go.Proofs.Ytaiiiendfcglmaa.St
open Go.RowKit
section
variable {P : Program} {Q : Exit → Act → World → Prop} {a : Act} {w W0 : World} {X : List Nat} {B : Heap} {L : List Own} {l : List Oper} {E : Env} {n fuel : Nat} {listed : Array Bool} {i j k3 d : Nat} {op : Op} {ty : TypeId} {pos : String} {af : Array Edge} {g : Option (Nat × Bool)}
structure AW (P : Program) (l : List Oper) (Q : Exit → Act → World → Prop) (fuel : Nat) (listed : Array Bool) (a : Act) (w : World) : Prop where
  out : wpAny P .any l.toArray Q fuel listed a w
structure AO (P : Program) (l : List Oper) (Q : Exit → Act → World → Prop) (fuel : Nat) (listed : Array Bool) (i : Nat) (a : Act) (w : World) : Prop where
  out : wpOp P l.toArray Q i (wpAny P .any l.toArray Q fuel (listed.setIfInBounds i true)) a w
theorem aw_region {id : Nat} (hmix : P.follows .mixedOrders = true) (hm : Mem W0 X B L w) (k : ∀ w', Mem W0 X B L w' → AW P l Q l.length (Array.replicate l.length false) a w') : CW P (Code.region id l.toArray true) Q a w := by
  refine ⟨wp_region_any hmix ?_⟩
  have := (k _ (hm.ext (ext_drew w))).out
  simpa using this
theorem aw0 (hr : Region.ready .any l.toArray listed = []) (h : Cont Q .normal a w) : AW P l Q 0 listed a w := ⟨hr, h.out⟩
theorem aw1 (i : Nat) (hr : Region.ready .any l.toArray listed = [i]) (h : AO P l Q fuel listed i a w) : AW P l Q (fuel + 1) listed a w :=
  ⟨fun e => (by rw [hr] at e; cases e), fun x hx => (by rw [hr] at hx; simp only [List.mem_singleton] at hx; subst hx; exact h.out)⟩
theorem aw2 (i j : Nat) (hr : Region.ready .any l.toArray listed = [i, j]) (h : AO P l Q fuel listed i a w) (h' : AO P l Q fuel listed j a w) : AW P l Q (fuel + 1) listed a w :=
  ⟨fun e => (by rw [hr] at e; cases e), fun x hx => (by
    rw [hr] at hx
    rcases List.mem_cons.1 hx with rfl | hx
    · exact h.out
    · simp only [List.mem_singleton] at hx; subst hx; exact h'.out)⟩
theorem aw3 (i j k : Nat) (hr : Region.ready .any l.toArray listed = [i, j, k]) (h : AO P l Q fuel listed i a w) (h' : AO P l Q fuel listed j a w) (h'' : AO P l Q fuel listed k a w) : AW P l Q (fuel + 1) listed a w :=
  ⟨fun e => (by rw [hr] at e; cases e), fun x hx => (by
    rw [hr] at hx
    rcases List.mem_cons.1 hx with rfl | hx
    · exact h.out
    · rcases List.mem_cons.1 hx with rfl | hx
      · exact h'.out
      · simp only [List.mem_singleton] at hx; subst hx; exact h''.out)⟩
theorem ao_op (hi : l[i]? = some ⟨some d, op, ty, pos, af, g⟩) (hg : wantedE l E g = some true) (hd : Nat.blt d n = true) (h : Holds E n a)
    (k : Does P op ty E w (fun v w' => ∀ a', Holds ((d, v) :: E) n a' → AW P l Q fuel (listed.setIfInBounds i true) a' w')) : AO P l Q fuel listed i a w := by
  refine ⟨wpOp_step (o := ⟨some d, op, ty, pos, af, g⟩) (by simpa using hi) fun K hK => ?_⟩
  rw [wanted_of (o := ⟨some d, op, ty, pos, af, g⟩) h hg, if_pos rfl]
  exact oper_of_upon (upon_mono (fun v w' hv => hK _ _ (hv _ (h.put hd v)).out) (k.out _ h.sat))
theorem ao_opn (hi : l[i]? = some ⟨none, op, ty, pos, af, g⟩) (hg : wantedE l E g = some true) (h : Holds E n a)
    (k : Does P op ty E w (fun _ w' => ∀ a', Holds E n a' → AW P l Q fuel (listed.setIfInBounds i true) a' w')) : AO P l Q fuel listed i a w := by
  refine ⟨wpOp_step (o := ⟨none, op, ty, pos, af, g⟩) (by simpa using hi) fun K hK => ?_⟩
  rw [wanted_of (o := ⟨none, op, ty, pos, af, g⟩) h hg, if_pos rfl]
  exact oper_of_upon (upon_mono (fun v w' hv => hK _ _ (hv _ (h.nop v)).out) (k.out _ h.sat))
end
end Go.Proofs.Ytaiiiendfcglmaa.St
end
