/-
  Regions that draw their order, walked with what only reads taken first, in the worlds in which named blocks hold.
-/
import Derived.Test.YtaiiiendfcglmaaStOwn
import Derived.Test.YtaiiiendfcglmaaJ3
import Derived.OrdersHeld
import Derived.RegionTactic
set_option linter.unusedSimpArgs false
set_option linter.unusedVariables false
namespace Go.Proofs.Ytaiiiendfcglmaa.St
open Go.RowKit
/-- an operation that hands over a value or stops, and calls nothing -/
def quietOp : Op → Bool
  | .move _ | .assign _ | .pick _ _ _ | .load _ _ | .fieldAddr _ _ _ | .field _ _ _ | .binOp _ _ _ _ _ | .unOp _ _ _ | .index _ _ _ | .indexAddr _ _ _ | .convert _ _ _ | .build _ _ | .extract _ _ | .slice _ _ _ _ _ | .makeFunc _ _ _ | .lookup _ _ _ _ => true
  | _ => false
theorem val_of {P : Program} {s : Sem Value} {w : World} {n : Next} {w' : World} (h : (do pure (.value (← s)) : Sem Next).run P w = .ok n w') : ∃ v, n = .value v := by
  simp only [Sem.run_bind] at h
  cases hs : Sem.run P s w with
  | ok v w2 =>
    rw [hs] at h
    simp only [Result.andThen_ok, Sem.run_pure, Result.ok.injEq] at h
    exact ⟨v, h.1.symm⟩
  | halt x w2 =>
    rw [hs] at h
    simp only [Result.andThen] at h
    cases h
theorem quiet_val {P : Program} {op : Op} {ty : TypeId} {ρ : Operand → Value} {w w' : World} {n : Next} (hq : quietOp op = true) (h : (execOp ρ (mk op ty)).run P w = .ok n w') : ∃ v, n = .value v := by
  cases op <;> first | cases hq | skip
  all_goals
    simp only [execOp, mk] at h
    first
      | exact val_of h
      | (simp only [Sem.run_pure, Result.ok.injEq] at h; exact ⟨_, h.1.symm⟩)
      | (simp only [Sem.run_bind, Sem.run_pure] at h
         generalize Sem.run P _ w = r at h
         cases r with
         | ok b w2 => simp only [Result.andThen_ok, Result.ok.injEq] at h; exact ⟨_, h.1.symm⟩
         | halt x w2 => simp only [Result.andThen] at h; cases h)
theorem does_quiet {P : Program} {op : Op} {ty : TypeId} {E : Env} {w : World} {v : Value} {ρ : Operand → Value} (hq : quietOp op = true) (hρ : Sat E ρ) (h : Does P op ty E w (fun v' w' => v' = v ∧ w' = w)) : (execOp ρ (mk op ty)).run P w = .ok (.value v) w := by
  have := h.out ρ hρ
  cases hr : (execOp ρ (mk op ty)).run P w with
  | ok n w' =>
    rw [hr] at this
    obtain ⟨u, rfl⟩ := quiet_val hq hr
    obtain ⟨rfl, rfl⟩ := this
    rfl
  | halt x w' => rw [hr] at this; simp only [upon] at this
section
variable {P : Program} {K : Act → World → Prop} {a : Act} {w W0 : World} {X : List Nat} {B : Heap} {L Ls : List Own} {l : List Oper} {E : Env} {n fuel : Nat} {listed : Array Bool} {d : Nat} {op : Op} {ty : TypeId} {pos : String} {af : Array Edge} {g : Option (Nat × Bool)} {S : World → Prop}
theorem Mem.pull1 {a x : Own} {L : List Own} (hm : Mem W0 X B (a :: x :: L) w) : Mem W0 X B (x :: a :: L) w := hm.perm (List.Perm.swap _ _ _)
theorem Mem.pull2 {a b x : Own} {L : List Own} (hm : Mem W0 X B (a :: b :: x :: L) w) : Mem W0 X B (x :: a :: b :: L) w := hm.perm (List.perm_middle (l₁ := [a, b]))
theorem Mem.pull3 {a b c x : Own} {L : List Own} (hm : Mem W0 X B (a :: b :: c :: x :: L) w) : Mem W0 X B (x :: a :: b :: c :: L) w := hm.perm (List.perm_middle (l₁ := [a, b, c]))
theorem Mem.pull4 {a b c d x : Own} {L : List Own} (hm : Mem W0 X B (a :: b :: c :: d :: x :: L) w) : Mem W0 X B (x :: a :: b :: c :: d :: L) w := hm.perm (List.perm_middle (l₁ := [a, b, c, d]))
abbrev nQ (K : Act → World → Prop) : Exit → Act → World → Prop := fun e a w => e = .normal ∧ K a w
structure HW (P : Program) (l : List Oper) (K : Act → World → Prop) (S : World → Prop) (fuel : Nat) (listed : Array Bool) (a : Act) (w : World) : Prop where
  out : wpAnyH P .any l.toArray (nQ K) S fuel listed a w
structure HO (P : Program) (l : List Oper) (K : Act → World → Prop) (S : World → Prop) (fuel : Nat) (listed : Array Bool) (i : Nat) (a : Act) (w : World) : Prop where
  out : wpOp P l.toArray (nQ K) i (fun a' w' => S w' ∧ wpAnyH P .any l.toArray (nQ K) S fuel (listed.setIfInBounds i true) a' w') a w
theorem hw_region {Q : Exit → Act → World → Prop} {id : Nat} (Ls : List Own) (hmix : P.follows .mixedOrders = true) (hm : Mem W0 X B L w) (k : ∀ w', Mem W0 X B L w' → HW P l (fun a w => Cont Q .normal a w) (Mem W0 X B Ls) l.length (Array.replicate l.length false) a w') : CW P (Code.region id l.toArray true) Q a w := by
  refine ⟨Code.wp_mono (fun e a w q => by obtain ⟨rfl, hs⟩ := q; exact hs.out) (wp_region_any (Q := nQ (fun a w => Cont Q .normal a w)) hmix ?_)⟩
  have := wpAny_of_held _ _ _ _ (k _ (hm.ext (ext_drew w))).out
  simpa using this
theorem hw_take {v : Value} (i : Nat) (hi : l[i]? = some ⟨some d, op, ty, pos, af, g⟩) (hs : Region.noSelect l.toArray = true) (hf : Region.free .any l.toArray listed i = true) (hr : (Region.ready .any l.toArray listed).contains i = true)
    (hq : quietOp op = true) (hg : wantedE l E g = some true) (hd : Nat.blt d n = true) (h : Holds E n a) (hS : S w) (hy : ∀ w, S w → Does P op ty E w (fun v' w' => v' = v ∧ w' = w))
    (k : ∀ a', Holds ((d, v) :: E) n a' → HW P l K S fuel (listed.setIfInBounds i true) a' w) : HW P l K S (fuel + 1) listed a w := by
  refine ⟨wpAnyH_take (i := i) (oi := ⟨some d, op, ty, pos, af, g⟩) (v := v) (by simpa using hi) hs hf hr (fun _ _ _ q => by cases q.1) (.inl ⟨wanted_of h hg, fun w hw => ?_⟩) hS (k _ (h.put hd v)).out⟩
  rw [execOp_mk]
  exact does_quiet hq h.sat (hy w hw)
theorem hw_skip (i : Nat) (hi : l[i]? = some ⟨some d, op, ty, pos, af, g⟩) (hs : Region.noSelect l.toArray = true) (hf : Region.free .any l.toArray listed i = true) (hr : (Region.ready .any l.toArray listed).contains i = true)
    (hg : wantedE l E g = some false) (hd : Nat.blt d n = true) (h : Holds E n a) (hS : S w)
    (k : ∀ a', Holds ((d, undef) :: E) n a' → HW P l K S fuel (listed.setIfInBounds i true) a' w) : HW P l K S (fuel + 1) listed a w :=
  ⟨wpAnyH_take (i := i) (oi := ⟨some d, op, ty, pos, af, g⟩) (v := undef) (by simpa using hi) hs hf hr (fun _ _ _ q => by cases q.1) (.inr ⟨wanted_of h hg, rfl⟩) hS (k _ (h.put hd undef)).out⟩
theorem hw0 (hr : Region.ready .any l.toArray listed = []) (h : K a w) : HW P l K S 0 listed a w := ⟨hr, rfl, h⟩
theorem hw1 (i : Nat) (hr : Region.ready .any l.toArray listed = [i]) (h : HO P l K S fuel listed i a w) : HW P l K S (fuel + 1) listed a w :=
  ⟨wpAnyH_all hr (by simp) (fun x hx => by simp only [List.mem_singleton] at hx; subst hx; exact h.out)⟩
theorem hw2 (i j : Nat) (hr : Region.ready .any l.toArray listed = [i, j]) (h : HO P l K S fuel listed i a w) (h' : HO P l K S fuel listed j a w) : HW P l K S (fuel + 1) listed a w :=
  ⟨wpAnyH_all hr (by simp) (fun x hx => by
    rcases List.mem_cons.1 hx with rfl | hx
    · exact h.out
    · simp only [List.mem_singleton] at hx; subst hx; exact h'.out)⟩
theorem hw3 (i j k : Nat) (hr : Region.ready .any l.toArray listed = [i, j, k]) (h : HO P l K S fuel listed i a w) (h' : HO P l K S fuel listed j a w) (h'' : HO P l K S fuel listed k a w) : HW P l K S (fuel + 1) listed a w :=
  ⟨wpAnyH_all hr (by simp) (fun x hx => by
    rcases List.mem_cons.1 hx with rfl | hx
    · exact h.out
    · rcases List.mem_cons.1 hx with rfl | hx
      · exact h'.out
      · simp only [List.mem_singleton] at hx; subst hx; exact h''.out)⟩
theorem hw4 (i j k m : Nat) (hr : Region.ready .any l.toArray listed = [i, j, k, m]) (h : HO P l K S fuel listed i a w) (h' : HO P l K S fuel listed j a w) (h'' : HO P l K S fuel listed k a w) (h3 : HO P l K S fuel listed m a w) : HW P l K S (fuel + 1) listed a w :=
  ⟨wpAnyH_all hr (by simp) (fun x hx => by
    rcases List.mem_cons.1 hx with rfl | hx
    · exact h.out
    · rcases List.mem_cons.1 hx with rfl | hx
      · exact h'.out
      · rcases List.mem_cons.1 hx with rfl | hx
        · exact h''.out
        · simp only [List.mem_singleton] at hx; subst hx; exact h3.out)⟩
theorem ho_op {i : Nat} (hi : l[i]? = some ⟨some d, op, ty, pos, af, g⟩) (hg : wantedE l E g = some true) (hd : Nat.blt d n = true) (h : Holds E n a)
    (k : Does P op ty E w (fun v w' => ∀ a', Holds ((d, v) :: E) n a' → S w' ∧ HW P l K S fuel (listed.setIfInBounds i true) a' w')) : HO P l K S fuel listed i a w := by
  refine ⟨wpOp_step (o := ⟨some d, op, ty, pos, af, g⟩) (by simpa using hi) fun K hK => ?_⟩
  rw [wanted_of (o := ⟨some d, op, ty, pos, af, g⟩) h hg, if_pos rfl]
  exact oper_of_upon (upon_mono (fun v w' hv => hK _ _ ⟨(hv _ (h.put hd v)).1, (hv _ (h.put hd v)).2.out⟩) (k.out _ h.sat))
theorem ho_opn {i : Nat} (hi : l[i]? = some ⟨none, op, ty, pos, af, g⟩) (hg : wantedE l E g = some true) (h : Holds E n a)
    (k : Does P op ty E w (fun _ w' => ∀ a', Holds E n a' → S w' ∧ HW P l K S fuel (listed.setIfInBounds i true) a' w')) : HO P l K S fuel listed i a w := by
  refine ⟨wpOp_step (o := ⟨none, op, ty, pos, af, g⟩) (by simpa using hi) fun K hK => ?_⟩
  rw [wanted_of (o := ⟨none, op, ty, pos, af, g⟩) h hg, if_pos rfl]
  exact oper_of_upon (upon_mono (fun v w' hv => hK _ _ ⟨(hv _ (h.nop v)).1, (hv _ (h.nop v)).2.out⟩) (k.out _ h.sat))
end
end Go.Proofs.Ytaiiiendfcglmaa.St
