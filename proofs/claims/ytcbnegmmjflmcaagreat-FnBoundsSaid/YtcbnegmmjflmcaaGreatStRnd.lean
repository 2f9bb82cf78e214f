/-
  The control rules once more: for the rounds of a range over a function, and for the functions that hold such a loop. Printed by mk_rnd.py.
-/
import Derived.Test.YtcbnegmmjflmcaaGreatJ7
import Derived.RangeFuncRecord
import Derived.OrdersIn
set_option linter.unusedSimpArgs false
set_option linter.unusedVariables false
namespace Go.Proofs.YtcbnegmmjflmcaaGreat.St.Rnd
open Go.RowKit
def wideR (ro : Option Nat) : Fence := { Fence.wide with round := ro }
abbrev QD := List Deferred → Exit → Act → World → Prop
end Go.Proofs.YtcbnegmmjflmcaaGreat.St.Rnd
namespace Go
def Act.dfr (a : Act) (ds : List Deferred) : Act := { a with defers := a.defers ++ ds }
end Go
namespace Go.Proofs.YtcbnegmmjflmcaaGreat.St.Rnd
open Go.RowKit
theorem dfr_put (a : Act) (ds : List Deferred) (d : Option Tmp) (v : Value) : (a.dfr ds).put d v = (a.put d v).dfr ds := by cases d <;> rfl
theorem dfr_eval (a : Act) (ds : List Deferred) : (a.dfr ds).eval = a.eval := by funext x; cases x <;> rfl
/-- the ways out, the deferred calls of the frame struck from the acts -/
def QF (ds : List Deferred) (Q : Exit → Act → World → Prop) : Exit → Act → World → Prop := fun e a' w => ∃ a, a' = a.dfr ds ∧ Q e a w
def QQ (Q : QD) : Exit → Act → World → Prop := fun e a' w => ∃ ds a, a' = a.dfr ds ∧ Q ds e a w
structure CW (P : Program) (ro : Option Nat) (ds : List Deferred) (c : Code) (Q : QD) (a : Act) (w : World) : Prop where
  out : c.wpIn (wideR ro) 0 P (QQ Q) (a.dfr ds) w
structure LW (P : Program) (ro : Option Nat) (ds : List Deferred) (l : List Oper) (Q : Exit → Act → World → Prop) (rest : List Oper) (a : Act) (w : World) : Prop where
  out : wpListIn (wideR ro) 0 P l.toArray (QF ds Q) rest (a.dfr ds) w
abbrev thenD (P : Program) (ro : Option Nat) (y : Code) (Q : QD) : QD := fun ds => Exit.then (CW P ro ds y Q) (Q ds)
abbrev inBlockD (id : Nat) (Q : QD) : QD := fun ds => Exit.inBlock id (Q ds)
theorem calls_wideR {P : Program} {ro : Option Nat} {n : Nat} {f : FuncId} {args : Array Value} {w : World} {R : Ending → World → Prop} (h : Calls P f args w R) : CallsIn (wideR ro) n P f args w R :=
  callsIn_wide (n := n).2 h
theorem not_defer {P : Program} {Φ : Value → World → Prop} {o : Oper} {ρ : Operand → Value} {w : World} (h : upon P Φ ((execOp ρ o).run P w)) : ∀ c, o.op ≠ .defer c := by
  intro c hc
  unfold execOp at h
  rw [hc] at h
  simp only [Sem.run_bind] at h
  generalize Sem.run P _ w = r at h
  cases r with
  | ok d w' => simp only [Result.andThen_ok, Sem.run_pure, upon] at h
  | halt x w' => simp only [Result.andThen, upon] at h
theorem operIn_of_upon {P : Program} {ro : Option Nat} {ds : List Deferred} {o : Oper} {a : Act} {ρ : Operand → Value} {w : World} {K : Act → World → Prop} {Q : Exit → Act → World → Prop} (hex : execOp a.eval o = execOp ρ o)
    (h : upon P (fun v w' => K ((a.put o.dst v).dfr ds) w') ((execOp ρ o).run P w)) : o.wpIn (wideR ro) 0 P (a.dfr ds) w K Q := by
  refine ⟨fun _ _ => trivial, ?_⟩
  rw [Oper.semAt_eq _ _ _ (not_defer h), dfr_eval, hex]
  generalize (execOp ρ o).run P w = r at h
  cases r with
  | ok n w' =>
    cases n <;> simp only [upon] at h <;> simp only [Oper.uponIn]
    case value v => rw [dfr_put]; exact h
    case skip => rw [dfr_put]; exact h
    case enter f args => exact ⟨fun e => (by cases e), calls_wideR (h.mono fun e w2 ⟨v, he, hv⟩ => by subst he; show K ((a.dfr ds).put o.dst v) w2; rw [dfr_put]; exact hv)⟩
  | halt x w' => simp only [upon] at h

section
variable {P : Program} {ro : Option Nat} {ds : List Deferred} {Q : Exit → Act → World → Prop} {a : Act} {w : World} {l rest : List Oper} {E : Env} {n : Nat} {d : Nat} {op : Op} {ty : TypeId} {pos : String} {af : Array Edge} {g : Option (Nat × Bool)}
theorem st_op (hg : wantedE l E g = some true) (hd : Nat.blt d n = true) (h : Holds E n a)
    (k : Does P op ty E w (fun v w' => ∀ a', Holds ((d, v) :: E) n a' → LW P ro ds l Q rest a' w')) :
    LW P ro ds l Q (⟨some d, op, ty, pos, af, g⟩ :: rest) a w := by
  refine ⟨wpListIn_step fun K hK => ?_⟩
  rw [show Region.wanted (⟨some d, op, ty, pos, af, g⟩ : Oper) (yielded l.toArray (a.dfr ds).tmps) = true from wanted_of h hg, if_pos rfl]
  exact operIn_of_upon rfl (upon_mono (fun v w' hv => hK _ _ (hv _ (h.put hd v)).out) (k.out _ h.sat))
theorem st_opn (hg : wantedE l E g = some true) (h : Holds E n a)
    (k : Does P op ty E w (fun _ w' => ∀ a', Holds E n a' → LW P ro ds l Q rest a' w')) :
    LW P ro ds l Q (⟨none, op, ty, pos, af, g⟩ :: rest) a w := by
  refine ⟨wpListIn_step fun K hK => ?_⟩
  rw [show Region.wanted (⟨none, op, ty, pos, af, g⟩ : Oper) (yielded l.toArray (a.dfr ds).tmps) = true from wanted_of h hg, if_pos rfl]
  exact operIn_of_upon rfl (upon_mono (fun v w' hv => hK _ _ (hv _ (h.nop v)).out) (k.out _ h.sat))
theorem st_skip (hg : wantedE l E g = some false) (hd : Nat.blt d n = true) (h : Holds E n a)
    (k : ∀ a', Holds ((d, undef) :: E) n a' → LW P ro ds l Q rest a' w) :
    LW P ro ds l Q (⟨some d, op, ty, pos, af, g⟩ :: rest) a w := by
  refine ⟨wpListIn_step fun K hK => ?_⟩
  rw [show Region.wanted (⟨some d, op, ty, pos, af, g⟩ : Oper) (yielded l.toArray (a.dfr ds).tmps) = false from wanted_of h hg, if_neg (by simp)]
  refine ⟨fun _ _ => trivial, ?_⟩
  rw [dfr_put]
  exact hK _ _ (k _ (h.put hd undef)).out
/-- yield is called: a round -/
theorem st_yield {c : Operand} {args : List Operand} {ats : Array TypeId} {vs : List Value} {lp : Nat} {Rr : Value → World → Prop} (hg : wantedE l E g = some true) (hd : Nat.blt d n = true) (h : Holds E n a)
    (hc : ev E c = some (.func (.yield lp) #[] #[])) (hx : evs E args = some vs)
    (hr : ∃ fn tmps assign body, (Instr.yield lp vs.toArray).run P w = .ok (.round lp fn tmps assign body) w ∧ RoundIn (wideR none) 0 P lp fn tmps assign body w (fun e w' => ∃ v, e = .returned v ∧ Rr v w'))
    (k : ∀ v w', Rr v w' → ∀ a', Holds ((d, v) :: E) n a' → LW P ro ds l Q rest a' w') :
    LW P ro ds l Q (⟨some d, .call { callee := .value c, args := args.toArray, argTypes := ats }, ty, pos, af, g⟩ :: rest) a w := by
  refine ⟨wpListIn_step fun K hK => ?_⟩
  rw [show Region.wanted (⟨some d, .call { callee := .value c, args := args.toArray, argTypes := ats }, ty, pos, af, g⟩ : Oper) (yielded l.toArray (a.dfr ds).tmps) = true from wanted_of h hg, if_pos rfl]
  refine ⟨fun _ _ => trivial, ?_⟩
  rw [Oper.semAt_eq _ _ _ (fun c e => by cases e), dfr_eval]
  obtain ⟨fn, tmps, assign, body, hy, hR⟩ := hr
  have : (execOp a.eval (mk (.call { callee := .value c, args := args.toArray, argTypes := ats }) ty)).run P w = .ok (.round lp fn tmps assign body) w := by
    simp only [execOp, mk, resolve, List.map_toArray, evs_map h.sat _ _ hx, h.sat _ _ hc, Deferred.ofValue]
    simp only [Sem.run_bind, Sem.run_pure, Result.andThen_ok, invoke]
    simpa using hy
  rw [execOp_mk, this]
  simp only [Oper.uponIn]
  refine ⟨fun e => (by cases e), RoundIn.mono (show RoundIn (wideR ro) (0 - 1) P lp fn tmps assign body w (fun e w' => ∃ v, e = .returned v ∧ Rr v w') from hR) ?_⟩
  rintro e w' ⟨v, rfl, hv⟩
  show K ((a.dfr ds).put (some d) v) w'
  rw [dfr_put]
  exact hK _ _ (k v w' hv _ (h.put hd v)).out
end

section
variable {P : Program} {ro : Option Nat} {ds : List Deferred} {Q : QD} {N : Act → World → Prop} {Q' Q1 : Exit → Act → World → Prop} {a : Act} {w : World} {l : List Oper} {x y c : Code} {id id' : Nat}
theorem c_nil (h : Cont Q1 .normal a w) : LW P ro ds l Q1 [] a w := ⟨⟨a, rfl, h.out⟩⟩
theorem c_seq (h : CW P ro ds x (thenD P ro y Q) a w) : CW P ro ds (Code.seq x y) Q a w :=
  ⟨wpIn_seq (wpIn_mono h.out (fun e a' w' q => by
    obtain ⟨ds', a0, rfl, hq⟩ := q
    cases e <;> first | exact hq.out | exact ⟨ds', a0, rfl, hq⟩))⟩
theorem c_region (h : LW P ro ds l (Q ds) l a w) : CW P ro ds (Code.region id l.toArray false) Q a w :=
  ⟨wpIn_mono (wpIn_region_lit h.out) (fun e a' w' q => by obtain ⟨a0, rfl, hq⟩ := q; exact ⟨ds, a0, rfl, hq⟩)⟩
theorem c_skip (h : Cont (Q ds) .normal a w) : CW P ro ds Code.skip Q a w := ⟨wpIn_skip ⟨ds, a, rfl, h.out⟩⟩
theorem c_ret (h : Cont (Q ds) .ret a w) : CW P ro ds Code.ret Q a w := ⟨wpIn_ret ⟨ds, a, rfl, h.out⟩⟩
theorem c_exit (h : Cont (Q ds) (.exit id) a w) : CW P ro ds (Code.exit id) Q a w := ⟨wpIn_exit ⟨ds, a, rfl, h.out⟩⟩
theorem c_block (h : CW P ro ds c (inBlockD id Q) a w) : CW P ro ds (Code.block id c) Q a w :=
  ⟨wpIn_block (wpIn_mono h.out (fun e a' w' q => by
    obtain ⟨ds', a0, rfl, hq⟩ := q
    cases e with
    | exit i =>
      by_cases hi : i = id
      · simp only [Exit.inBlock, hi, if_true] at hq ⊢
        exact ⟨ds', a0, rfl, hq⟩
      · simp only [Exit.inBlock, hi, if_false] at hq ⊢
        exact ⟨ds', a0, rfl, hq⟩
    | _ => exact ⟨ds', a0, rfl, hq⟩))⟩
theorem k_then (h : CW P ro ds y Q a w) : Cont (Exit.then (CW P ro ds y Q) Q') .normal a w := ⟨h⟩
theorem k_thenN (h : N a w) : Cont (Exit.then N Q') .normal a w := ⟨h⟩
theorem k_thenR (h : Cont Q' .ret a w) : Cont (Exit.then N Q') .ret a w := ⟨h.out⟩
theorem k_thenE (h : Cont Q' (.exit id) a w) : Cont (Exit.then N Q') (.exit id) a w := ⟨h.out⟩
theorem c_condT {E : Env} {n : Nat} {o : Operand} (h : Holds E n a) (ho : ev E o = some (.bool true)) (k : CW P ro ds x Q a w) : CW P ro ds (Code.cond o x y) Q a w :=
  ⟨wpIn_cond_true (by rw [dfr_eval]; exact h.sat _ _ ho) k.out⟩
theorem c_condF {E : Env} {n : Nat} {o : Operand} (h : Holds E n a) (ho : ev E o = some (.bool false)) (k : CW P ro ds y Q a w) : CW P ro ds (Code.cond o x y) Q a w :=
  ⟨wpIn_cond_false (by rw [dfr_eval]; exact h.sat _ _ ho) k.out⟩
theorem c_cond {E : Env} {n : Nat} {o : Operand} {b : Bool} (h : Holds E n a) (ho : ev E o = some (.bool b)) (kt : b = true → CW P ro ds x Q a w) (kf : b = false → CW P ro ds y Q a w) :
    CW P ro ds (Code.cond o x y) Q a w :=
  ⟨wpIn_cond_split (by rw [dfr_eval]; exact h.sat _ _ ho) (fun h => (kt h).out) (fun h => (kf h).out)⟩
theorem c_condD {E : Env} {n : Nat} {o : Operand} {p : Prop} (h : Holds E n a) (ho : ev E o = some (.bool (dB p))) (kt : p → CW P ro ds x Q a w) (kf : ¬ p → CW P ro ds y Q a w) :
    CW P ro ds (Code.cond o x y) Q a w :=
  ⟨wpIn_cond_split (by rw [dfr_eval]; exact h.sat _ _ ho) (fun h => (kt (of_bT h)).out) (fun h => (kf (of_bF h)).out)⟩
theorem cw_cutN (S : Act → World → Prop) (h : CW P ro ds c (fun ds' e a w => ds' = ds ∧ e = .normal ∧ S a w) a w) (k : ∀ a w, S a w → Cont (Q ds) .normal a w) : CW P ro ds c Q a w :=
  ⟨wpIn_mono h.out (fun e a' w' q => by obtain ⟨_, a0, rfl, rfl, rfl, hs⟩ := q; exact ⟨_, a0, rfl, (k a0 w' hs).out⟩)⟩
/-- A loop, its state a ghost. -/
theorem c_loop {σ : Type} (I : σ → Act → World → Prop) (μ : σ → Nat) (s₀ : σ) (h₀ : I s₀ a w)
    (round : ∀ s a w, I s a w → CW P ro ds c (fun ds' => Exit.then (fun a' w' => ds' = ds ∧ ∃ s', I s' a' w' ∧ μ s' < μ s) (Q ds')) a w) : CW P ro ds (Code.loop c) Q a w := by
  classical
  refine ⟨?_⟩
  let J : Nat → Act → World → Prop := fun k a' w' => ∃ s a0, a' = a0.dfr ds ∧ I s a0 w' ∧ μ s = k
  have key : ∀ k a' w', J k a' w' → (Code.loop c).wpIn (wideR ro) 0 P (QQ Q) a' w' := by
    intro k a' w' hJ
    intro b kk cs hro hb hr
    have go : ∀ j a w, J j a w →
        ∃ e a' w', QQ Q e a' w' ∧ ArrivesIn (Machine.fenced P (wideR ro)) P (lone (b.atR a (.code c :: .inLoop c :: kk)) cs w) b kk cs e a' w' := by
      intro j
      induction j using Nat.strongRecOn with
      | _ j ih =>
        rintro _ w ⟨s, a0, rfl, hI, rfl⟩
        obtain ⟨e, a₁, w₁, hq, harr⟩ := (round s a0 w hI).out b (.inLoop c :: kk) cs hro hb hr
        obtain ⟨ds', a2, rfl, hq⟩ := hq
        cases e with
        | normal =>
          obtain ⟨rfl, s₁, hI₁, hlt⟩ := hq
          obtain ⟨e₂, a₂, w₂, hq₂, harr₂⟩ := ih (μ s₁) hlt _ w₁ ⟨s₁, a2, rfl, hI₁, rfl⟩
          exact ⟨e₂, a₂, w₂, hq₂, .of_steps (StepsIn.trans harr (.one (fenced_calm hb hr rfl) stepR_inLoop)) harr₂⟩
        | exit id => exact ⟨_, _, w₁, ⟨_, _, rfl, hq⟩, .pass (x := .inLoop c) rfl (fun _ _ => .inl (by simp)) harr⟩
        | goto l => exact ⟨_, _, w₁, ⟨_, _, rfl, hq⟩, .pass (x := .inLoop c) rfl (fun _ _ => .inl (by simp)) harr⟩
        | ret => exact ⟨_, _, w₁, ⟨_, _, rfl, hq⟩, .pass (x := .inLoop c) rfl (fun _ _ => .inl (by simp)) harr⟩
        | panic ch => exact ⟨_, _, w₁, ⟨_, _, rfl, hq⟩, .pass (x := .inLoop c) rfl (fun _ _ => .inl (by simp)) harr⟩
        | outgrown => exact ⟨_, _, w₁, ⟨_, _, rfl, hq⟩, .pass (x := .inLoop c) rfl (fun _ _ => .inl (by simp)) harr⟩
    obtain ⟨e, a', w', hq, harr⟩ := go k a' w' hJ
    exact ⟨e, a', w', hq, .of_steps (.one (fenced_calm hb hr rfl) stepR_loop) harr⟩
  exact key _ _ _ ⟨s₀, a, rfl, h₀, rfl⟩
end

section
variable {P : Program} {ro : Option Nat} {ds : List Deferred} {Q : Exit → Act → World → Prop} {a : Act} {w : World} {l rest : List Oper} {E : Env} {n : Nat} {d : Option Tmp} {op : Op} {ty : TypeId} {pos : String} {af : Array Edge} {j t : Nat} {want : Bool}
theorem st_guardD {p : Prop} (ht : (l[j]?).bind (·.dst) = some t) (hE : Env.get E t = some (.bool (dB p))) (h : Holds E n a)
    (kT : p → Holds ((t, .bool true) :: E) n a → LW P ro ds l Q (⟨d, op, ty, pos, af, some (j, want)⟩ :: rest) a w)
    (kF : ¬ p → Holds ((t, .bool false) :: E) n a → LW P ro ds l Q (⟨d, op, ty, pos, af, some (j, want)⟩ :: rest) a w) :
    LW P ro ds l Q (⟨d, op, ty, pos, af, some (j, want)⟩ :: rest) a w := by
  by_cases hp : p
  · exact kT hp (h.set hE (by rw [bT hp]))
  · exact kF hp (h.set hE (by rw [bF hp]))
end

theorem any_seqR {P : Program} {F : Fence} {n : Nat} {ops : Array Oper} {Q : Exit → Act → World → Prop} : ∀ (rest : List Oper) (k : Nat) (listed : Array Bool) (a : Act) (w : World), (∀ j, rest[j]? = ops[k + j]?) →
    seqB ops rest.length k listed = true → wpListIn F n P ops Q rest a w → wpAnyIn F n P .any ops Q rest.length listed a w
  | [], _, _, _, _, _, hB, h => ⟨by simpa [seqB] using hB, h⟩
  | o :: rest, k, listed, a, w, hl, hB, h => by
    have h0 : ops[k]? = some o := by simpa using (hl 0).symm
    simp only [List.length_cons, seqB, Bool.and_eq_true, decide_eq_true_eq] at hB
    obtain ⟨hr, hB'⟩ := hB
    refine ⟨fun hn => (by rw [hr] at hn; cases hn), fun i hi => ?_⟩
    rw [hr] at hi
    obtain rfl : i = k := by simpa using hi
    have ih : ∀ a w, wpListIn F n P ops Q rest a w → wpAnyIn F n P .any ops Q rest.length (listed.setIfInBounds i true) a w := fun a w => any_seqR rest (i + 1) (listed.setIfInBounds i true) a w (fun j => by have := hl (j + 1); simpa [Nat.add_assoc, Nat.add_comm 1 j] using this) hB'
    simp only [wpListIn] at h
    unfold wpOpIn
    simp only [h0]
    split
    · rename_i hw
      rw [if_pos hw] at h
      exact Oper.wpIn_mono ih h
    · rename_i hw
      rw [if_neg hw] at h
      exact ⟨h.1, ih _ _ h.2⟩

section
variable {P : Program} {l : List Oper} {rs : List Rs} {D : Al → World → Prop} {g : Option (Nat × Bool)} {op : Op} {ty : TypeId} {r : Rs} {E : Env} {w : World}
variable {m n : Nat} {E0 : Env} {C : World → Prop}
variable {listed : Array Bool} {a : Act} {i : Nat} {oi : Oper} {v : Value} {al : Al}
theorem draw_key {S : World → World → Prop} {D : Al → World → Prop} {Q : Exit → Act → World → Prop} {ro : Option Nat} {dls : List Deferred} (hB : drawB l m n = true) (hup : updB l rs 0 rs [] = true) (hown : ownDst (l.take m) rs = true) (hmono : ∀ r ∈ rs, r.mono S)
    (hSx : ∀ w w', Ext w w' → S w w') (hSu : (∃ (u j : Nat) (o : Obj), rs[u]? = some (Rs.upd j o)) → ∀ w w', S w w') (hDC : ∀ al w, D al w → C w) (hDx : ∀ al w w', D al w → Ext w w' → D al w')
    (hDo : ∀ al w i o, D al w → D ((i, w.heap.size, o) :: al) (w.alloc o)) (hDp : ∀ al al' w, D al w → al.Perm al' → D al' w) (vcs : VCs P l rs E0 C D (l.take m) rs)
    (k : FinF rs (l.take m) rs 0 [] [] (fun al acc => ∀ w, D al w → Dep acc E0 w (fun E => ∀ a, Holds E n a → LW P ro dls l Q (l.drop m) a w))) :
    ∀ (f : Nat) (listed : Array Bool) (a : Act) (w : World) (al : Al), rest_count listed m = f → Inv l m rs E0 n D al listed a w → wpAnyIn (wideR ro) 0 P .any l.toArray (QF dls Q) (f + (l.length - m)) listed (a.dfr dls) w := by
  unfold drawB at hB
  simp only [Bool.and_eq_true] at hB
  obtain ⟨⟨⟨⟨⟨hml, hbd⟩, hop⟩, hD⟩, hsc⟩, hseq⟩ := hB
  have hml : m ≤ l.length := Nat.le_of_ble_eq_true hml
  have htk : ∀ (i : Nat) (o : Oper), i < m → l[i]? = some o → (l.take m)[i]? = some o := fun i o hi ho => by rw [List.getElem?_take, if_pos hi]; exact ho
  have hrl : rs.length = m := by rw [← vcs_length vcs]; simp; omega
  have hrm : ∀ {i : Nat} {r : Rs}, rs[i]? = some r → i < m := fun h => by rw [← hrl]; exact (List.getElem?_eq_some_iff.1 h).1
  intro f
  induction f with
  | zero =>
    intro listed a w al hf inv
    have hz := rest_zero hf
    have hlisted : listed = ((List.replicate m true ++ List.replicate (l.length - m) false).toArray) := by
      apply Array.ext
      · simp [inv.lsize]; omega
      · intro i h1 h2
        have hil : i < l.length := by rw [← inv.lsize]; exact h1
        by_cases him : i < m
        · have := hz i him
          simp [h1] at this
          simp [this, List.getElem_append, him]
        · have := inv.tail i (by omega) hil
          simp [h1] at this
          simp [this, List.getElem_append, him]
    classical
    let β : Nat → Nat := fun i => if h : ∃ b o, (i, b, o) ∈ al then h.choose else 0
    have hβ : ∀ i b o, (i, b, o) ∈ al → β i = b := fun i b o hm => by
      have h : ∃ b o, (i, b, o) ∈ al := ⟨b, o, hm⟩
      have hc := h.choose_spec
      obtain ⟨o', ho'⟩ := hc
      show (if h : ∃ b o, (i, b, o) ∈ al then h.choose else 0) = b
      rw [dif_pos h]
      exact (al_unique inv.als.nd ho' hm).1
    have hlast : ∀ i b o, (i, b, o) ∈ al → ∀ f ob, rs[i]? = some (.own f ob) → o = lastO rs i ob := fun i b o hm f ob hr => by
      obtain ⟨h1, h2, oi, d, f', ob', h3, h4, h5, h6, h7⟩ := inv.als.ok i b o hm
      rw [hr] at h5
      cases h5
      rcases h7 with ⟨rfl, h7⟩ | ⟨u, hu, hl, hru⟩
      · exact (lastO_none fun u o' hru => h7 u o' (hrm hru) (hz u (hrm hru)) hru).symm
      · exact (lastO_upd hru fun u' o' h' => (updB_waits hup hru).2.2 h').symm
    have hperm : al.Perm ((canon rs β rs 0).reverse ++ []) := by
      rw [List.append_nil]
      refine List.Perm.trans ?_ (List.reverse_perm _).symm
      refine (List.perm_ext_iff_of_nodup ?_ (canon_nodup β rs 0)).2 fun x => ?_
      · exact List.Pairwise.of_map (·.1) (fun a b hne e => hne (by rw [e])) inv.als.nd
      · rw [mem_canon]
        constructor
        · intro hx
          obtain ⟨i, b, o⟩ := x
          obtain ⟨h1, h2, oi, d, f', ob', h3, h4, h5, h6, h7⟩ := inv.als.ok i b o hx
          refine ⟨i, f', ob', h5, ?_⟩
          rw [Nat.zero_add, hβ i b o hx, hlast i b o hx f' ob' h5]
        · rintro ⟨j, f', o, hr, rfl⟩
          rw [Nat.zero_add]
          obtain ⟨b, o', hm⟩ := inv.als.all j f' o (hrm hr) (hz j (hrm hr)) hr
          rw [hβ j b o' hm, ← hlast j b o' hm f' o hr]
          exact hm
    have hk0 := fin_out β (l.take m) rs 0 [] [] (vcs_length vcs) k w (hDp _ _ _ inv.dal hperm)
    obtain ⟨E', hk, hE⟩ := dep_out a _ E0 hk0 (fun x hx => by
      obtain ⟨d, r⟩ := x
      rw [List.append_nil, List.mem_reverse] at hx
      obtain ⟨j, o, r0, h1, h2, h3, h4⟩ := mem_pairsB β hx
      have hjm := hrm h3
      rw [List.getElem?_take, if_pos hjm] at h1
      obtain ⟨v, hv, hs⟩ := inv.res j o d r0 hjm h1 (hz j hjm) h2 h3
      refine ⟨v, hv, ?_⟩
      subst h4
      cases r0 with
      | own f' ob =>
        obtain ⟨b, o', hm⟩ := inv.als.all j f' ob hjm (hz j hjm) h3
        obtain ⟨_, _, oi, d', f2, ob2, g3, g4, g5, g6, _⟩ := inv.als.ok j b o' hm
        rw [h1] at g3
        cases g3
        rw [h2] at g4
        cases g4
        rw [h3] at g5
        cases g5
        rw [hv] at g6
        cases g6
        show f' b = f' (β (0 + j))
        rw [Nat.zero_add, hβ j b o' hm]
      | val _ => exact hs
      | pred _ => exact hs
      | upd _ _ => exact hs)
    have hH : Holds E' n a := ⟨inv.size, inv.defers, fun t v hv => by
      rcases hE t v hv with ⟨_, h⟩ | ⟨hn, h⟩
      · exact h
      · refine inv.base t v h fun i o hi ho _ hd => ?_
        obtain ⟨r, hr, _⟩ := vcs_get vcs (htk i o hi ho)
        obtain ⟨r', hr'⟩ := pairsB_mem β (i := 0) (htk i o hi ho) hd hr
        exact hn r' (by rw [List.append_nil, List.mem_reverse]; exact hr')⟩
    rw [Nat.zero_add]
    have := any_seqR (P := P) (ops := l.toArray) (Q := QF dls Q) (l.drop m) m listed (a.dfr dls) w (fun j => by simp [List.getElem?_drop]) (by rw [List.length_drop, hlisted]; exact hseq) (hk a hH).out
    rwa [List.length_drop] at this
  | succ f ih =>
    intro listed a w al hf inv
    rw [show f + 1 + (l.length - m) = (f + (l.length - m)) + 1 by omega]
    obtain ⟨i0, h1, h2, h3⟩ := rest_pos hf
    have hil : ∀ i, i < m → i < listed.size := fun i hi => by rw [inv.lsize]; omega
    obtain ⟨o0, ho0⟩ : ∃ o, l[i0]? = some o := ⟨l[i0]'(by omega), List.getElem?_eq_getElem (by omega)⟩
    have hready : i0 ∈ Region.ready .any l.toArray listed := by
      refine mem_ready.2 ⟨getD_false_of (hil i0 h1) h2, o0, by simpa using ho0, fun e he hb => ?_⟩
      exact h3 _ ((opOk_parts (List.all_eq_true.1 hop i0 (List.mem_range.2 h1)) ho0).2.1 e he hb)
    refine ⟨fun hn => (by rw [hn] at hready; cases hready), fun i hi => ?_⟩
    obtain ⟨hun, oi, hoi', hall⟩ := mem_ready.1 hi
    have hoi : l[i]? = some oi := by simpa using hoi'
    have hilt : i < l.length := (List.getElem?_eq_some_iff.1 hoi).1
    have him : i < m := by
      rcases Nat.lt_or_ge i m with h | h
      · exact h
      · exfalso
        simp only [Bool.or_eq_true, beq_iff_eq, Bool.and_eq_true] at hsc
        rcases hsc with hsc | ⟨hs, hc⟩
        · omega
        · by_cases hie : i = m
          · subst hie
            have := sink_no hs inv hilt hi _ i0 rfl h1
            rw [h2] at this
            cases this
          · have h4 := List.all_eq_true.1 hc i (List.mem_range.2 hilt)
            simp only [Bool.or_eq_true] at h4
            rcases h4 with h4 | h4
            · have := Nat.le_of_ble_eq_true h4; omega
            · obtain ⟨o', ho', e, he, hb, hon⟩ := waits_of h4
              obtain rfl : o' = oi := Option.some.inj (ho'.symm.trans hoi)
              have h5 := hall e he hb
              rw [hon, getD_true_of (inv.tail (i - 1) (by omega) (by omega))] at h5
              cases h5
    have hunf := getD_true_of hun
    obtain ⟨hsel, hon, hread, hguard⟩ := opOk_parts (List.all_eq_true.1 hop i (List.mem_range.2 him)) hoi
    obtain ⟨r, hr, hvc⟩ := vcs_get vcs (htk i oi him hoi)
    obtain ⟨E', hk, hE⟩ := dep_out a _ E0 (hvc w (hDC al w inv.dal)) (fun x hx => by
      obtain ⟨d, r'⟩ := x
      obtain ⟨e, he, hb, hd, hr'⟩ := mem_depsL.1 hx
      have he' := Array.mem_toList_iff.1 he
      cases hq : l[e.on]? with
      | none => simp [hq] at hd
      | some oe =>
        simp only [hq, Option.bind_some] at hd
        exact inv.res e.on oe d r' (by have := hon e he' hb; omega) hq (hall e he' hb) hd hr')
    have hdep : ∀ e ∈ oi.after, Region.binds .any e = true → ∀ t, (l[e.on]?).bind (·.dst) = some t → ∃ r', (t, r') ∈ depsL l rs oi.after.toList := fun e he hb t hd => by
      cases hq : l[e.on]? with
      | none => simp [hq] at hd
      | some oe =>
        obtain ⟨r', hr', _⟩ := vcs_get vcs (htk e.on oe (by have := hon e he hb; omega) hq)
        exact ⟨r', mem_depsL.2 ⟨e, Array.mem_toList_iff.2 he, hb, hd, hr'⟩⟩
    let ρ : Operand → Value := fun x => (ev E' x).getD (a.eval x)
    have hρ : Sat E' ρ := fun x v hx => by simp [ρ, hx]
    have hsame : ∀ x ∈ oi.op.operands, a.eval x = ρ x := by
      intro x hx
      cases x with
      | tmp t =>
        cases hv : Env.get E' t with
        | none => simp [ρ, ev, hv]
        | some v =>
          have hat : a.tmps[t]? = some v := by
            rcases hE t v hv with ⟨_, h⟩ | ⟨hn, h⟩
            · exact h
            · refine inv.base t v h fun j oj hj hoj hl hd => ?_
              have hro := hread t hx
              unfold readOk at hro
              simp only [Bool.or_eq_true] at hro
              rcases hro with hro | hro
              · obtain ⟨e, he, hb⟩ := List.any_eq_true.1 hro
                simp only [Bool.and_eq_true, beq_iff_eq] at hb
                obtain ⟨r', hr'⟩ := hdep e (Array.mem_toList_iff.1 he) hb.1 t hb.2
                exact hn r' hr'
              · have h6 := List.all_eq_true.1 hro j (List.mem_range.2 hj)
                simp only [Bool.or_eq_true, hoj, hd] at h6
                rcases h6 with (h6 | h6) | h6
                · simp at h6
                · have : j = i := by simpa using h6
                  subst this
                  rw [hunf] at hl
                  cases hl
                · obtain ⟨o', ho', e, he, hb, hon'⟩ := waits_of h6
                  obtain rfl : o' = oj := Option.some.inj (ho'.symm.trans hoj)
                  have := inv.closed j o' hoj hl e he hb
                  rw [hon', hunf] at this
                  cases this
          simp [ρ, ev, hv, Act.eval, hat]
      | const c => rfl
      | global g => rfl
      | func f => rfl
    have hex : execOp a.eval oi = execOp ρ oi := execOp_congr oi hsel hsame
    have hslot : ∀ j want t, oi.guard = some (j, want) → (l[j]?).bind (·.dst) = some t → ∀ v, Env.get E' t = some v → a.tmps[t]? = some v := fun j want t hg hd v hv => by
      obtain ⟨e, he, hb, hej⟩ := hguard j want hg
      obtain ⟨r', hr'⟩ := hdep e he hb t (by rw [hej]; exact hd)
      rcases hE t v hv with ⟨_, h⟩ | ⟨hn, _⟩
      · exact h
      · exact (hn r' hr').elim
    have hcount : rest_count (listed.setIfInBounds i true) m = f := by
      have := rest_set him (hil i him) hunf
      omega
    unfold wpOpIn
    simp only [List.getElem?_toArray, hoi]
    rcases hk.out with ⟨hw, hd⟩ | ⟨hw, hs, hp⟩
    · rw [show Region.wanted oi (yielded l.toArray (a.dfr dls).tmps) = true from wanted_of' rfl hslot hw, if_pos rfl]
      have plain : r.plain = true → Does P oi.op oi.type E' w (fun v w' => Ext w w' ∧ r.sat v w') → upon P (fun v w' => wpAnyIn (wideR ro) 0 P .any l.toArray (QF dls Q) (f + (l.length - m)) (listed.setIfInBounds i true) ((a.put oi.dst v).dfr dls) w') ((execOp ρ oi).run P w) := fun hp hd =>
        upon_mono (fun v w' hv => ih _ _ _ al hcount (inv.step hbd hD hmono him hml hoi hunf hall hr hv.2 (hSx _ _ hv.1) (alinv_plain hD him hoi hunf hr hp inv.als) (hDx _ _ _ inv.dal hv.1))) (hd.out ρ hρ)
      cases r with
      | val u => exact operIn_of_upon hex (plain rfl hd)
      | pred q => exact operIn_of_upon hex (plain rfl hd)
      | own f0 ob =>
        obtain ⟨d, hdst⟩ := ownDst_get hown (htk i oi him hoi) hr
        have hrun := hd ρ hρ w
        refine operIn_of_upon hex ?_
        show upon P _ ((execOp ρ (mk oi.op oi.type)).run P w)
        rw [hrun]
        exact ih _ _ _ _ hcount (inv.step hbd hD hmono him hml hoi hunf hall hr ⟨_, rfl⟩ (hSx _ _ (ext_alloc w ob)) (alinv_own hbd hD inv.size (hil i him) hup inv.closed him hoi hunf hr hdst rfl inv.als) (hDo _ _ _ _ inv.dal))
      | upd j o =>
        obtain ⟨d, b, f0, o0, h1, h2, h3, h4, h5⟩ := hd
        obtain ⟨hwj, _, huq⟩ := updB_waits hup hr
        rw [Nat.zero_add] at hwj
        obtain ⟨oi', hoi'', e, he, hb, hon'⟩ := waits_of hwj
        obtain rfl : oi' = oi := Option.some.inj (hoi''.symm.trans hoi)
        have hjl := hall e he hb
        rw [hon'] at hjl
        have hjm := hrm h2
        have htd : a.tmps[d]? = some (f0 b) := by
          rcases hE d _ h3 with ⟨_, h⟩ | ⟨hn, _⟩
          · exact h
          · obtain ⟨r', hr'⟩ := hdep e he hb d (by rw [hon']; exact h1)
            exact (hn r' hr').elim
        obtain ⟨b', o', hm⟩ := inv.als.all j f0 o0 hjm hjl h2
        obtain ⟨_, _, oj, d', f2, ob2, g3, g4, g5, g6, g7⟩ := inv.als.ok j b' o' hm
        rw [h2] at g5
        cases g5
        obtain rfl : d = d' := by
          rw [g3] at h1
          simp only [Option.bind_some, g4, Option.some.injEq] at h1
          exact h1.symm
        rw [htd] at g6
        obtain rfl := h4 _ _ (Option.some.inj g6)
        have ho' : o' = o0 := by
          rcases g7 with ⟨e, _⟩ | ⟨u, hu, hl, hru⟩
          · exact e
          · have := huq hru
            subst this
            rw [hunf] at hl
            cases hl
        subst ho'
        obtain ⟨q, hq⟩ := List.mem_iff_getElem?.1 hm
        refine operIn_of_upon hex (upon_mono (fun v w' hv => ih _ _ _ _ hcount (inv.step hbd hD hmono him hml hoi hunf hall hr hv.1 (hSu ⟨i, j, o, hr⟩ _ _) (alinv_upd hD (hil i him) him hoi hunf hr hq inv.als) hv.2)) ((h5 al q inv.dal hq).out ρ hρ))
    · rw [show Region.wanted oi (yielded l.toArray (a.dfr dls).tmps) = false from wanted_of' rfl hslot hw, if_neg (by simp)]
      refine ⟨fun _ _ => trivial, ?_⟩
      rw [dfr_put]
      exact ih _ _ _ _ hcount (inv.step hbd hD hmono him hml hoi hunf hall hr hs (hSx _ _ (ext_refl w)) (alinv_plain hD him hoi hunf hr hp inv.als) inv.dal)

theorem c_draw {S : World → World → Prop} {D : Al → World → Prop} {Q : QD} {ro : Option Nat} {dls : List Deferred} {id : Nat} {a : Act} {w : World} (m : Nat) (rs : List Rs) (hmix : P.follows .mixedOrders = true) (hB : drawB l m n = true) (hup : updB l rs 0 rs [] = true) (hown : ownDst (l.take m) rs = true) (hmono : ∀ r ∈ rs, r.mono S)
    (hSx : ∀ w w', Ext w w' → S w w') (hSu : (∃ (u j : Nat) (o : Obj), rs[u]? = some (Rs.upd j o)) → ∀ w w', S w w') (hDC : ∀ al w, D al w → C w) (hDx : ∀ al w w', D al w → Ext w w' → D al w')
    (hDo : ∀ al w i o, D al w → D ((i, w.heap.size, o) :: al) (w.alloc o)) (hDp : ∀ al al' w, D al w → al.Perm al' → D al' w)
    (h : Holds E0 n a) (hc : D [] w) (vcs : VCs P l rs E0 C D (l.take m) rs) (k : FinF rs (l.take m) rs 0 [] [] (fun al acc => ∀ w, D al w → Dep acc E0 w (fun E => ∀ a, Holds E n a → LW P ro dls l (Q dls) (l.drop m) a w))) :
    CW P ro dls (Code.region id l.toArray true) Q a w := by
  have hml : m ≤ l.length := by
    unfold drawB at hB
    simp only [Bool.and_eq_true] at hB
    exact Nat.le_of_ble_eq_true hB.1.1.1.1.1
  refine ⟨wpIn_mono (wpIn_region_any (Q := QF dls (Q dls)) hmix ?_) (fun e a w q => by obtain ⟨a0, rfl, hq⟩ := q; exact ⟨_, a0, rfl, hq⟩)⟩
  have hno : ∀ i, (Array.replicate l.length false).getD i false = true → False := fun i hl => by rw [replicate_getD] at hl; cases hl
  have := draw_key (Q := Q dls) (ro := ro) (dls := dls) hB hup hown hmono hSx hSu hDC hDx hDo hDp vcs k m (Array.replicate l.length false) a { w with drawn := w.drawn + 1 } [] (rest_all l m)
    ⟨by simp, h.size, h.defers, hDx _ w _ hc (ext_drew w), ⟨fun _ _ _ hm => by simp at hm, fun i _ _ _ hl => (hno i hl).elim, by simp⟩, fun t v hv _ => h.get t v hv,
      (by intro i o d r _ _ hl; exact (hno i hl).elim),
      (by intro j oj _ hl; exact (hno j hl).elim),
      (by intro t _ ht; simp [ht])⟩
  rw [show m + (l.length - m) = l.length by omega] at this
  simpa using this
end
theorem c_drawM {P : Program} {Q : QD} {ro : Option Nat} {dls : List Deferred} {l : List Oper} {n : Nat} {E0 : Env} {W0 : World} {X : List Nat} {B : Heap} {L : List Own} {id : Nat} {a : Act} {w : World} (m : Nat) (rs : List Rs) (hmix : P.follows .mixedOrders = true) (hB : drawB l m n = true) (hup : updB l rs 0 rs [] = true) (hown : ownDst (l.take m) rs = true) (hnp : noPred rs = true)
    (h : Holds E0 n a) (hm : Mem W0 X B L w) (vcs : VCs P l rs E0 (Mem W0 X B L) (memD W0 X B L) (l.take m) rs)
    (k : FinF rs (l.take m) rs 0 [] [] (fun al acc => ∀ w, Mem W0 X B (al.map (fun x => .blk x.2.1 x.2.2) ++ L) w → Dep acc E0 w (fun E => ∀ a, Holds E n a → LW P ro dls l (Q dls) (l.drop m) a w))) :
    CW P ro dls (Code.region id l.toArray true) Q a w :=
  c_draw (S := fun _ _ => True) (D := memD W0 X B L) m rs hmix hB hup hown (noPred_mono hnp) (fun _ _ _ => trivial) (fun _ _ _ => trivial) (fun _ _ hd => mem_front hd) (fun _ _ _ hd hx => Mem.ext hd hx) (fun _ _ _ o hd => Mem.alloc hd o) (fun _ _ _ hd hp => Mem.perm hd ((hp.map _).append_right L)) h hm vcs k

section
variable {P : Program} {l : List Oper} {W0 w : World} {X : List Nat} {B : Heap} {L : List Own}
end
section
variable {P : Program} {ro : Option Nat} {ds : List Deferred} {Q : Exit → Act → World → Prop} {a : Act} {w W0 : World} {X : List Nat} {B : Heap} {L : List Own} {l : List Oper} {E : Env} {n fuel : Nat} {listed : Array Bool} {i j k3 d : Nat} {op : Op} {ty : TypeId} {pos : String} {af : Array Edge} {g : Option (Nat × Bool)}
structure AW (P : Program) (ro : Option Nat) (ds : List Deferred) (l : List Oper) (Q : Exit → Act → World → Prop) (fuel : Nat) (listed : Array Bool) (a : Act) (w : World) : Prop where
  out : wpAnyIn (wideR ro) 0 P .any l.toArray (QF ds Q) fuel listed (a.dfr ds) w
structure AO (P : Program) (ro : Option Nat) (ds : List Deferred) (l : List Oper) (Q : Exit → Act → World → Prop) (fuel : Nat) (listed : Array Bool) (i : Nat) (a : Act) (w : World) : Prop where
  out : wpOpIn (wideR ro) 0 P l.toArray (QF ds Q) i (wpAnyIn (wideR ro) 0 P .any l.toArray (QF ds Q) fuel (listed.setIfInBounds i true)) (a.dfr ds) w
theorem aw_region {Q : QD} {id : Nat} (hmix : P.follows .mixedOrders = true) (hm : Mem W0 X B L w) (k : ∀ w', Mem W0 X B L w' → AW P ro ds l (Q ds) l.length (Array.replicate l.length false) a w') : CW P ro ds (Code.region id l.toArray true) Q a w := by
  refine ⟨wpIn_mono (wpIn_region_any (Q := QF ds (Q ds)) hmix ?_) (fun e a w q => by obtain ⟨a0, rfl, hq⟩ := q; exact ⟨_, a0, rfl, hq⟩)⟩
  have := (k _ (hm.ext (ext_drew w))).out
  simpa using this
theorem aw0 (hr : Region.ready .any l.toArray listed = []) (h : Cont Q .normal a w) : AW P ro ds l Q 0 listed a w := ⟨hr, _, rfl, h.out⟩
theorem aw1 (i : Nat) (hr : Region.ready .any l.toArray listed = [i]) (h : AO P ro ds l Q fuel listed i a w) : AW P ro ds l Q (fuel + 1) listed a w :=
  ⟨fun e => (by rw [hr] at e; cases e), fun x hx => (by rw [hr] at hx; simp only [List.mem_singleton] at hx; subst hx; exact h.out)⟩
theorem aw2 (i j : Nat) (hr : Region.ready .any l.toArray listed = [i, j]) (h : AO P ro ds l Q fuel listed i a w) (h' : AO P ro ds l Q fuel listed j a w) : AW P ro ds l Q (fuel + 1) listed a w :=
  ⟨fun e => (by rw [hr] at e; cases e), fun x hx => (by
    rw [hr] at hx
    rcases List.mem_cons.1 hx with rfl | hx
    · exact h.out
    · simp only [List.mem_singleton] at hx; subst hx; exact h'.out)⟩
theorem ao_op (hi : l[i]? = some ⟨some d, op, ty, pos, af, g⟩) (hg : wantedE l E g = some true) (hd : Nat.blt d n = true) (h : Holds E n a)
    (k : Does P op ty E w (fun v w' => ∀ a', Holds ((d, v) :: E) n a' → AW P ro ds l Q fuel (listed.setIfInBounds i true) a' w')) : AO P ro ds l Q fuel listed i a w := by
  refine ⟨wpOpIn_step (o := ⟨some d, op, ty, pos, af, g⟩) (by simpa using hi) fun K hK => ?_⟩
  rw [show Region.wanted (⟨some d, op, ty, pos, af, g⟩ : Oper) (yielded l.toArray (a.dfr ds).tmps) = true from wanted_of h hg, if_pos rfl]
  exact operIn_of_upon rfl (upon_mono (fun v w' hv => hK _ _ (hv _ (h.put hd v)).out) (k.out _ h.sat))
theorem ao_opn (hi : l[i]? = some ⟨none, op, ty, pos, af, g⟩) (hg : wantedE l E g = some true) (h : Holds E n a)
    (k : Does P op ty E w (fun _ w' => ∀ a', Holds E n a' → AW P ro ds l Q fuel (listed.setIfInBounds i true) a' w')) : AO P ro ds l Q fuel listed i a w := by
  refine ⟨wpOpIn_step (o := ⟨none, op, ty, pos, af, g⟩) (by simpa using hi) fun K hK => ?_⟩
  rw [show Region.wanted (⟨none, op, ty, pos, af, g⟩ : Oper) (yielded l.toArray (a.dfr ds).tmps) = true from wanted_of h hg, if_pos rfl]
  exact operIn_of_upon rfl (upon_mono (fun v w' hv => hK _ _ (hv _ (h.nop v)).out) (k.out _ h.sat))
end
end Go.Proofs.YtcbnegmmjflmcaaGreat.St.Rnd
