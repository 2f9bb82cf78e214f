/-
  Regions that draw their order, walked order by order: for short ones with stores in them.
-/
import Derived.Test.YtcbnegmmjflmcaaGreatJ2
import Derived.RegionTactic
import Derived.OrdersHeld

section
set_option linter.unusedSimpArgs false
set_option linter.unusedVariables false
namespace Go.Proofs.YtcbnegmmjflmcaaGreat.St
open Go.RowKit
section
variable {P : Program} {Q : Exit → Act → World → Prop} {a : Act} {w W0 : World} {X : List Nat} {B : Heap} {L : List Own} {l : List Oper} {E : Env} {n fuel : Nat} {listed : Array Bool} {i j k3 d : Nat} {op : Op} {ty : TypeId} {pos : String} {af : Array Edge} {g : Option (Nat × Bool)}
structure AW (P : Program) (l : List Oper) (Q : Exit → Act → World → Prop) (fuel : Nat) (listed : Array Bool) (a : Act) (w : World) : Prop where
  out : wpAny P .any l.toArray Q fuel listed a w
structure AO (P : Program) (l : List Oper) (Q : Exit → Act → World → Prop) (fuel : Nat) (listed : Array Bool) (i : Nat) (a : Act) (w : World) : Prop where
  out : wpOp P l.toArray Q i (wpAny P .any l.toArray Q fuel (listed.setIfInBounds i true)) a w
theorem aw_region {id : Nat} (hmix : P.follows .mixedOrders = true) (hm : Mem W0 X B L w) (k : ∀ w', Mem W0 X B L w' → AW P l Q l.length (Array.replicate l.length false) a w') : CW P (Code.region id l.toArray true) Q a w := by
  refine ⟨wp_region_any hmix ?_⟩
  have := (k _ (hm.ext (ext_drew w))).out
  simpa using this
theorem aw0 (hr : Region.ready .any l.toArray listed = []) (h : Cont Q .normal a w) : AW P l Q 0 listed a w := ⟨hr, h.out⟩
theorem aw1 (i : Nat) (hr : Region.ready .any l.toArray listed = [i]) (h : AO P l Q fuel listed i a w) : AW P l Q (fuel + 1) listed a w :=
  ⟨fun e => (by rw [hr] at e; cases e), fun x hx => (by rw [hr] at hx; simp only [List.mem_singleton] at hx; subst hx; exact h.out)⟩
theorem aw2 (i j : Nat) (hr : Region.ready .any l.toArray listed = [i, j]) (h : AO P l Q fuel listed i a w) (h' : AO P l Q fuel listed j a w) : AW P l Q (fuel + 1) listed a w :=
  ⟨fun e => (by rw [hr] at e; cases e), fun x hx => (by
    rw [hr] at hx
    rcases List.mem_cons.1 hx with rfl | hx
    · exact h.out
    · simp only [List.mem_singleton] at hx; subst hx; exact h'.out)⟩
theorem ao_op (hi : l[i]? = some ⟨some d, op, ty, pos, af, g⟩) (hg : wantedE l E g = some true) (hd : Nat.blt d n = true) (h : Holds E n a)
    (k : Does P op ty E w (fun v w' => ∀ a', Holds ((d, v) :: E) n a' → AW P l Q fuel (listed.setIfInBounds i true) a' w')) : AO P l Q fuel listed i a w := by
  refine ⟨wpOp_step (o := ⟨some d, op, ty, pos, af, g⟩) (by simpa using hi) fun K hK => ?_⟩
  rw [wanted_of (o := ⟨some d, op, ty, pos, af, g⟩) h hg, if_pos rfl]
  exact oper_of_upon (upon_mono (fun v w' hv => hK _ _ (hv _ (h.put hd v)).out) (k.out _ h.sat))
theorem ao_opn (hi : l[i]? = some ⟨none, op, ty, pos, af, g⟩) (hg : wantedE l E g = some true) (h : Holds E n a)
    (k : Does P op ty E w (fun _ w' => ∀ a', Holds E n a' → AW P l Q fuel (listed.setIfInBounds i true) a' w')) : AO P l Q fuel listed i a w := by
  refine ⟨wpOp_step (o := ⟨none, op, ty, pos, af, g⟩) (by simpa using hi) fun K hK => ?_⟩
  rw [wanted_of (o := ⟨none, op, ty, pos, af, g⟩) h hg, if_pos rfl]
  exact oper_of_upon (upon_mono (fun v w' hv => hK _ _ (hv _ (h.nop v)).out) (k.out _ h.sat))
end
end Go.Proofs.YtcbnegmmjflmcaaGreat.St
end

section
/-
  Regions that draw their order, walked with what only reads taken first, in the worlds in which named blocks hold.
-/
set_option linter.unusedSimpArgs false
set_option linter.unusedVariables false
namespace Go.Proofs.YtcbnegmmjflmcaaGreat.St
open Go.RowKit
/-- an operation that hands over a value or stops, and calls nothing -/
def quietOp : Op → Bool
  | .move _ | .assign _ | .pick _ _ _ | .load _ _ | .fieldAddr _ _ _ | .field _ _ _ | .binOp _ _ _ _ _ | .unOp _ _ _ | .index _ _ _ | .indexAddr _ _ _ | .convert _ _ _ | .build _ _ | .extract _ _ | .slice _ _ _ _ _ | .makeFunc _ _ _ | .lookup _ _ _ _ => true
  | _ => false
theorem val_of {P : Program} {s : Sem Value} {w : World} {n : Next} {w' : World} (h : (do pure (.value (← s)) : Sem Next).run P w = .ok n w') : ∃ v, n = .value v := by
  simp only [Sem.run_bind] at h
  cases hs : Sem.run P s w with
  | ok v w2 =>
    rw [hs] at h
    simp only [Result.andThen_ok, Sem.run_pure, Result.ok.injEq] at h
    exact ⟨v, h.1.symm⟩
  | halt x w2 =>
    rw [hs] at h
    simp only [Result.andThen] at h
    cases h
theorem quiet_val {P : Program} {op : Op} {ty : TypeId} {ρ : Operand → Value} {w w' : World} {n : Next} (hq : quietOp op = true) (h : (execOp ρ (mk op ty)).run P w = .ok n w') : ∃ v, n = .value v := by
  cases op <;> first | cases hq | skip
  all_goals
    simp only [execOp, mk] at h
    first
      | exact val_of h
      | (simp only [Sem.run_pure, Result.ok.injEq] at h; exact ⟨_, h.1.symm⟩)
      | (simp only [Sem.run_bind, Sem.run_pure] at h
         generalize Sem.run P _ w = r at h
         cases r with
         | ok b w2 => simp only [Result.andThen_ok, Result.ok.injEq] at h; exact ⟨_, h.1.symm⟩
         | halt x w2 => simp only [Result.andThen] at h; cases h)
theorem does_quiet {P : Program} {op : Op} {ty : TypeId} {E : Env} {w : World} {v : Value} {ρ : Operand → Value} (hq : quietOp op = true) (hρ : Sat E ρ) (h : Does P op ty E w (fun v' w' => v' = v ∧ w' = w)) : (execOp ρ (mk op ty)).run P w = .ok (.value v) w := by
  have := h.out ρ hρ
  cases hr : (execOp ρ (mk op ty)).run P w with
  | ok n w' =>
    rw [hr] at this
    obtain ⟨u, rfl⟩ := quiet_val hq hr
    obtain ⟨rfl, rfl⟩ := this
    rfl
  | halt x w' => rw [hr] at this; simp only [upon] at this
section
variable {P : Program} {K : Act → World → Prop} {a : Act} {w W0 : World} {X : List Nat} {B : Heap} {L Ls : List Own} {l : List Oper} {E : Env} {n fuel : Nat} {listed : Array Bool} {d : Nat} {op : Op} {ty : TypeId} {pos : String} {af : Array Edge} {g : Option (Nat × Bool)} {S : World → Prop}
theorem Mem.pull1 {a x : Own} {L : List Own} (hm : Mem W0 X B (a :: x :: L) w) : Mem W0 X B (x :: a :: L) w := hm.perm (List.Perm.swap _ _ _)
theorem Mem.pull2 {a b x : Own} {L : List Own} (hm : Mem W0 X B (a :: b :: x :: L) w) : Mem W0 X B (x :: a :: b :: L) w := hm.perm (List.perm_middle (l₁ := [a, b]))
theorem Mem.pull3 {a b c x : Own} {L : List Own} (hm : Mem W0 X B (a :: b :: c :: x :: L) w) : Mem W0 X B (x :: a :: b :: c :: L) w := hm.perm (List.perm_middle (l₁ := [a, b, c]))
abbrev nQ (K : Act → World → Prop) : Exit → Act → World → Prop := fun e a w => e = .normal ∧ K a w
structure HW (P : Program) (l : List Oper) (K : Act → World → Prop) (S : World → Prop) (fuel : Nat) (listed : Array Bool) (a : Act) (w : World) : Prop where
  out : wpAnyH P .any l.toArray (nQ K) S fuel listed a w
structure HO (P : Program) (l : List Oper) (K : Act → World → Prop) (S : World → Prop) (fuel : Nat) (listed : Array Bool) (i : Nat) (a : Act) (w : World) : Prop where
  out : wpOp P l.toArray (nQ K) i (fun a' w' => S w' ∧ wpAnyH P .any l.toArray (nQ K) S fuel (listed.setIfInBounds i true) a' w') a w
theorem hw_region {Q : Exit → Act → World → Prop} {id : Nat} (Ls : List Own) (hmix : P.follows .mixedOrders = true) (hm : Mem W0 X B L w) (k : ∀ w', Mem W0 X B L w' → HW P l (fun a w => Cont Q .normal a w) (Mem W0 X B Ls) l.length (Array.replicate l.length false) a w') : CW P (Code.region id l.toArray true) Q a w := by
  refine ⟨Code.wp_mono (fun e a w q => by obtain ⟨rfl, hs⟩ := q; exact hs.out) (wp_region_any (Q := nQ (fun a w => Cont Q .normal a w)) hmix ?_)⟩
  have := wpAny_of_held _ _ _ _ (k _ (hm.ext (ext_drew w))).out
  simpa using this
theorem hw_take {v : Value} (i : Nat) (hi : l[i]? = some ⟨some d, op, ty, pos, af, g⟩) (hs : Region.noSelect l.toArray = true) (hf : Region.free .any l.toArray listed i = true) (hr : (Region.ready .any l.toArray listed).contains i = true)
    (hq : quietOp op = true) (hg : wantedE l E g = some true) (hd : Nat.blt d n = true) (h : Holds E n a) (hS : S w) (hy : ∀ w, S w → Does P op ty E w (fun v' w' => v' = v ∧ w' = w))
    (k : ∀ a', Holds ((d, v) :: E) n a' → HW P l K S fuel (listed.setIfInBounds i true) a' w) : HW P l K S (fuel + 1) listed a w := by
  refine ⟨wpAnyH_take (i := i) (oi := ⟨some d, op, ty, pos, af, g⟩) (v := v) (by simpa using hi) hs hf hr (fun _ _ _ q => by cases q.1) (.inl ⟨wanted_of h hg, fun w hw => ?_⟩) hS (k _ (h.put hd v)).out⟩
  rw [execOp_mk]
  exact does_quiet hq h.sat (hy w hw)
theorem hw0 (hr : Region.ready .any l.toArray listed = []) (h : K a w) : HW P l K S 0 listed a w := ⟨hr, rfl, h⟩
theorem hw1 (i : Nat) (hr : Region.ready .any l.toArray listed = [i]) (h : HO P l K S fuel listed i a w) : HW P l K S (fuel + 1) listed a w :=
  ⟨wpAnyH_all hr (by simp) (fun x hx => by simp only [List.mem_singleton] at hx; subst hx; exact h.out)⟩
theorem hw2 (i j : Nat) (hr : Region.ready .any l.toArray listed = [i, j]) (h : HO P l K S fuel listed i a w) (h' : HO P l K S fuel listed j a w) : HW P l K S (fuel + 1) listed a w :=
  ⟨wpAnyH_all hr (by simp) (fun x hx => by
    rcases List.mem_cons.1 hx with rfl | hx
    · exact h.out
    · simp only [List.mem_singleton] at hx; subst hx; exact h'.out)⟩
theorem hw3 (i j k : Nat) (hr : Region.ready .any l.toArray listed = [i, j, k]) (h : HO P l K S fuel listed i a w) (h' : HO P l K S fuel listed j a w) (h'' : HO P l K S fuel listed k a w) : HW P l K S (fuel + 1) listed a w :=
  ⟨wpAnyH_all hr (by simp) (fun x hx => by
    rcases List.mem_cons.1 hx with rfl | hx
    · exact h.out
    · rcases List.mem_cons.1 hx with rfl | hx
      · exact h'.out
      · simp only [List.mem_singleton] at hx; subst hx; exact h''.out)⟩
theorem hw4 (i j k m : Nat) (hr : Region.ready .any l.toArray listed = [i, j, k, m]) (h : HO P l K S fuel listed i a w) (h' : HO P l K S fuel listed j a w) (h'' : HO P l K S fuel listed k a w) (h3 : HO P l K S fuel listed m a w) : HW P l K S (fuel + 1) listed a w :=
  ⟨wpAnyH_all hr (by simp) (fun x hx => by
    rcases List.mem_cons.1 hx with rfl | hx
    · exact h.out
    · rcases List.mem_cons.1 hx with rfl | hx
      · exact h'.out
      · rcases List.mem_cons.1 hx with rfl | hx
        · exact h''.out
        · simp only [List.mem_singleton] at hx; subst hx; exact h3.out)⟩
theorem ho_op {i : Nat} (hi : l[i]? = some ⟨some d, op, ty, pos, af, g⟩) (hg : wantedE l E g = some true) (hd : Nat.blt d n = true) (h : Holds E n a)
    (k : Does P op ty E w (fun v w' => ∀ a', Holds ((d, v) :: E) n a' → S w' ∧ HW P l K S fuel (listed.setIfInBounds i true) a' w')) : HO P l K S fuel listed i a w := by
  refine ⟨wpOp_step (o := ⟨some d, op, ty, pos, af, g⟩) (by simpa using hi) fun K hK => ?_⟩
  rw [wanted_of (o := ⟨some d, op, ty, pos, af, g⟩) h hg, if_pos rfl]
  exact oper_of_upon (upon_mono (fun v w' hv => hK _ _ ⟨(hv _ (h.put hd v)).1, (hv _ (h.put hd v)).2.out⟩) (k.out _ h.sat))
theorem ho_opn {i : Nat} (hi : l[i]? = some ⟨none, op, ty, pos, af, g⟩) (hg : wantedE l E g = some true) (h : Holds E n a)
    (k : Does P op ty E w (fun _ w' => ∀ a', Holds E n a' → S w' ∧ HW P l K S fuel (listed.setIfInBounds i true) a' w')) : HO P l K S fuel listed i a w := by
  refine ⟨wpOp_step (o := ⟨none, op, ty, pos, af, g⟩) (by simpa using hi) fun K hK => ?_⟩
  rw [wanted_of (o := ⟨none, op, ty, pos, af, g⟩) h hg, if_pos rfl]
  exact oper_of_upon (upon_mono (fun v w' hv => hK _ _ ⟨(hv _ (h.nop v)).1, (hv _ (h.nop v)).2.out⟩) (k.out _ h.sat))
end
end Go.Proofs.YtcbnegmmjflmcaaGreat.St
end

section
/-
  The end of a function without results; a piece of code cut off with a state.
-/
set_option linter.unusedSimpArgs false
set_option linter.unusedVariables false
namespace Go.Proofs.YtcbnegmmjflmcaaGreat.St
open Go.RowKit
theorem k_norm {P : Program} {fn : Func} {R : Value → World → Prop} {a : Act} {w : World} (h : Cont (Post P fn R) .ret a w) : Cont (Post P fn R) .normal a w := ⟨h.out⟩
theorem cw_cutN {P : Program} {c : Code} {Q : Exit → Act → World → Prop} {a : Act} {w : World} (S : Act → World → Prop) (h : CW P c (fun e a w => e = .normal ∧ S a w) a w) (k : ∀ a w, S a w → Cont Q .normal a w) : CW P c Q a w :=
  ⟨Code.wp_mono (fun e a w q => by obtain ⟨rfl, hs⟩ := q; exact (k a w hs).out) h.out⟩
theorem cw_cutX {P : Program} {c : Code} {Q : Exit → Act → World → Prop} {a : Act} {w : World} (n : Nat) (S : Act → World → Prop) (h : CW P c (fun e a w => e = .exit n ∧ S a w) a w) (k : ∀ a w, S a w → Cont Q (.exit n) a w) : CW P c Q a w :=
  ⟨Code.wp_mono (fun e a w q => by obtain ⟨rfl, hs⟩ := q; exact (k a w hs).out) h.out⟩
/-- it returns a new slice whose cells R speaks of, and what was there stays -/
structure FunV2 (P : Program) (f : FuncId) (vs : List Value) (pre : Heap → Prop) (T : TypeId) (sz : Nat) (R : List Value → Prop) : Prop where
  out : ∀ w, pre (fun b => w.heap[b]?) → Calls P f vs.toArray w fun e w' => ∃ v n cs, e = .returned v ∧ R cs ∧ Ext w w' ∧ w'.ownsRow w.heap.size T sz v n cs
theorem enterFunV2 {P : Program} {f : FuncId} {fn : Func} {c : Code} {vs : List Value} {n : Nat} {pre : Heap → Prop} {T : TypeId} {sz : Nat} {R : List Value → Prop} (hf : P.funcs[f]? = some fn) (hb : fn.body = some c) (hn : fn.ntmps = n) (hl : Nat.ble vs.length n = true)
    (h : ∀ W0 w a, pre (fun b => W0.heap[b]?) → Mem W0 [] (fun b => W0.heap[b]?) [] w → Holds (enumE 0 vs) n a → CW P c (Post P fn fun u w' => Ext W0 w' ∧ ∃ m cs, R cs ∧ w'.ownsRow W0.heap.size T sz u m cs) a w) : FunV2 P f vs pre T sz R := by
  refine ⟨fun w hp => ?_⟩
  refine (enter (R := fun u w' => Ext w w' ∧ ∃ m cs, R cs ∧ w'.ownsRow w.heap.size T sz u m cs) hf hb hn hl (fun a ha => h w w a hp (Mem.start w) ha)).mono ?_
  rintro e w' ⟨u, rfl, hx, m, cs, hr, hR⟩
  exact ⟨u, m, cs, rfl, hr, hx, hR⟩
theorem does_funV2 {P : Program} {E : Env} {w W0 : World} {X : List Nat} {B : Heap} {L : List Own} {Φ : Value → World → Prop} {ty : TypeId} {f : FuncId} {args : List Operand} {ats : Array TypeId} {vs : List Value} {pre : Heap → Prop} {T : TypeId} {sz : Nat} {R : List Value → Prop} (hm : Mem W0 X B L w) (hen : Enters P f) (hx : evs E args = some vs) (hc : FunV2 P f vs pre T sz R)
    (hp : pre (fun b => w.heap[b]?)) (k : ∀ v cs w', R cs → Mem W0 X B (.row v T sz cs :: L) w' → Φ v w') : Does P (.call { callee := .value (.func f), args := args.toArray, argTypes := ats }) ty E w Φ :=
  does_call hen hx ((hc.out w hp).mono fun _ w' ⟨v, n, cs, he, hr, hx, hR⟩ => ⟨v, he, k v cs w' hr (hm.addRow hx hR)⟩)
end Go.Proofs.YtcbnegmmjflmcaaGreat.St
end
