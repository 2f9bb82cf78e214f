/-
  A range over a function: the loop's law, from the iterator's contract and one round; functions that hold such a loop.
-/
import Derived.Test.YtcbnegmmjflmcaaGreatStRnd
set_option linter.unusedSimpArgs false
set_option linter.unusedVariables false
namespace Go.Proofs.YtcbnegmmjflmcaaGreat.St.Rnd
open Go.RowKit
theorem puts_eq (ps : List Nat) (vs : List Value) (tmps : Array Value) : (ps.toArray.zip vs.toArray).foldl (fun t (p, v) => t.setIfInBounds p v) tmps = (ps.zip vs).foldl (fun t (p, v) => t.setIfInBounds p v) tmps := by
  rw [← Array.foldl_toList]
  simp
theorem Holds.puts {n : Nat} : ∀ (ps : List Nat) (vs : List Value) {E : Env} {tmps : Array Value}, ps.all (fun p => Nat.blt p n) = true → ps.length = vs.length → Holds E n ⟨tmps, []⟩ →
    Holds ((ps.zip vs).reverse ++ E) n ⟨(ps.toArray.zip vs.toArray).foldl (fun t (p, v) => t.setIfInBounds p v) tmps, []⟩
  | [], [], E, tmps, _, _, h => by simpa using h
  | p :: ps, v :: vs, E, tmps, hp, hl, h => by
    simp only [List.all_cons, Bool.and_eq_true] at hp
    have := Holds.puts ps vs (E := (p, v) :: E) (tmps := tmps.setIfInBounds p v) hp.2 (by simpa using hl) (h.put hp.1 v)
    rw [puts_eq] at this ⊢
    simpa using this
  | [], _ :: _, _, _, _, hl, _ => by simp at hl
  | _ :: _, [], _, _, _, hl, _ => by simp at hl

/-- what a function achieves that may hold a range over a function -/
def PostM (P : Program) (fn : Func) (R : Value → World → Prop) : QD := fun ds e a w => (e = .ret ∨ e = .normal) ∧ a.defers = [] ∧
  ((ds = [] ∧ ∃ u, (results fn a.tmps).run P w = .ok u w ∧ R u w) ∨ ∃ D w', ds = [{ target := .collected D, args := #[] }] ∧ (Instr.takeDeferred D).run P w = .ok [] w' ∧ ∃ u, (results fn a.tmps).run P w' = .ok u w' ∧ R u w')
theorem enter {P : Program} {f : FuncId} {fn : Func} {c : Code} {vs : List Value} {w : World} {n : Nat} {R : Value → World → Prop} (hf : P.funcs[f]? = some fn) (hb : fn.body = some c) (hn : fn.ntmps = n) (hl : Nat.ble vs.length n = true)
    (h : ∀ a, Holds (enumE 0 vs) n a → CW P none [] c (PostM P fn R) a w) : Calls P f vs.toArray w fun e w' => ∃ v, e = .returned v ∧ R v w' := by
  refine (callsIn_wide (n := 0)).1 (show CallsIn (wideR none) 0 P f vs.toArray w _ from callsIn_of_wp_marks hf hb trivial ?_)
  have h1 := (h _ (Holds.enter vs n hl)).out
  rw [hn]
  refine wpIn_mono h1 (fun e a' w' q => ?_)
  obtain ⟨ds, a, rfl, he, hd, hq⟩ := q
  have key : LeavesInM (wideR none) 0 P fn (a.dfr ds).tmps (fun e w' => ∃ v, e = .returned v ∧ R v w') (a.dfr ds).defers .returning w' := by
    rcases hq with ⟨rfl, u, h1, h2⟩ | ⟨D, w2, rfl, h3, u, h1, h2⟩
    · have : (a.dfr []).defers = [] := by simp [Act.dfr, hd]
      rw [this]
      exact ⟨u, h1, u, rfl, h2⟩
    · have : (a.dfr [{ target := .collected D, args := #[] }]).defers = [{ target := .collected D, args := #[] }] := by simp [Act.dfr, hd]
      rw [this]
      exact ⟨by simp, .inl ⟨D, w2, rfl, h3, u, h1, u, rfl, h2⟩⟩
  rcases he with rfl | rfl <;> exact key
theorem enterFunG {P : Program} {f : FuncId} {fn : Func} {c : Code} {vs : List Value} {n : Nat} {pre : Heap → Prop} {R : Value → List Own → Prop} (hf : P.funcs[f]? = some fn) (hb : fn.body = some c) (hn : fn.ntmps = n) (hl : Nat.ble vs.length n = true)
    (h : ∀ W0 w a, pre (fun b => W0.heap[b]?) → Mem W0 [] (fun b => W0.heap[b]?) [] w → Holds (enumE 0 vs) n a → CW P none [] c (PostM P fn fun u w' => ∃ L', R u L' ∧ Mem W0 [] (fun b => W0.heap[b]?) L' w') a w) : FunG P f vs pre R := by
  refine ⟨fun w hp => ?_⟩
  refine (enter (R := fun u w' => ∃ L', R u L' ∧ Mem w [] (fun b => w.heap[b]?) L' w') hf hb hn hl (fun a ha => h w w a hp (Mem.start w) ha)).mono ?_
  rintro e w' ⟨u, rfl, L', hR, hm⟩
  exact ⟨u, L', rfl, hR, hm⟩

/-- ahead of the loop -/
theorem k_ret {P : Program} {fn : Func} {R : Value → World → Prop} {a : Act} {w : World} {E : Env} {n : Nat} {rs : List ResultVar} {vs : List Value} (hr : fn.results = rs.toArray) (h : Holds E n a) (hv : RVs P w E rs vs) (k : R (packed vs) w) : Cont (PostM P fn R []) .ret a w := by
  refine ⟨show (Exit.ret = .ret ∨ _) ∧ a.defers = [] ∧ _ from ⟨.inl rfl, h.defers, .inl ⟨rfl, packed vs, ?_, k⟩⟩⟩
  have := results_run (P := P) (w := w) h rs vs hv
  rw [results_eq, hr, Array.mapM_eq_mapM_toList]
  simp only [Sem.run_bind, Sem.run_map, this, Result.andThen_ok, Sem.run_pure]
  rcases vs with _ | ⟨v, _ | ⟨u, vs⟩⟩ <;> simp [packed]
/-- behind it -/
theorem k_retM {P : Program} {fn : Func} {R : Value → World → Prop} {a : Act} {w W0 : World} {X : List Nat} {B : Heap} {L : List Own} {E : Env} {n i D : Nat} {rs : List ResultVar} {vs : List Value} (hr : fn.results = rs.toArray) (h : Holds E n a)
    (hm : Mem W0 X B L w) (hL : L[i]? = some (.blk D (.deferred (some []))))
    (k : ∀ w', Mem W0 X B (L.set i (.blk D (.deferred none))) w' → RVs P w' E rs vs ∧ R (packed vs) w') : Cont (PostM P fn R [{ target := .collected D, args := #[] }]) .ret a w := by
  have hD : w.heap[D]? = some (.deferred (some [])) := mem_idx hm hL
  have hlt : D < w.heap.size := (Array.getElem?_eq_some_iff.1 hD).1
  have hm' := Mem.update i (o' := .deferred none) (w' := w.putObj D (.deferred none)) hm hL rfl rfl rfl (by simp) (World.putObj_heap_same hlt) (fun c hc _ => World.putObj_heap_other hc)
  obtain ⟨hv, hk⟩ := k _ hm'
  refine ⟨show (Exit.ret = .ret ∨ _) ∧ a.defers = [] ∧ _ from ⟨.inl rfl, h.defers, .inr ⟨D, w.putObj D (.deferred none), rfl, run_takeDeferred hD, packed vs, ?_, hk⟩⟩⟩
  have := results_run (P := P) (w := w.putObj D (.deferred none)) h rs vs hv
  rw [results_eq, hr, Array.mapM_eq_mapM_toList]
  simp only [Sem.run_bind, Sem.run_map, this, Result.andThen_ok, Sem.run_pure]
  rcases vs with _ | ⟨v, _ | ⟨u, vs⟩⟩ <;> simp [packed]

/-- f, called with yield, calls it just N times, the k-th time with us k, and returns -/
structure Iter (P : Program) (f : FuncId) (first cap : List Value) (N : Nat) (us : Nat → List Value) (pre : World → Prop) : Prop where
  out : ∀ (lp : Nat) (J : Nat → World → Prop) (w : World), (∀ k w, J k w → pre w) → (∀ k w w', J k w → Ext w w' → J k w') →
    (∀ k w, k < N → J k w → ∃ fn tmps assign body, (Instr.yield lp (us k).toArray).run P w = .ok (.round lp fn tmps assign body) w ∧ RoundIn (wideR none) 0 P lp fn tmps assign body w (fun e w' => ∃ v, e = .returned v ∧ v = .bool true ∧ J (k + 1) w')) →
    J 0 w → CallsIn (wideR none) 0 P f (first ++ [Value.func (.yield lp) #[] #[]] ++ cap).toArray w (fun e w' => ∃ v, e = .returned v ∧ J N w')

theorem mem_put (i : Nat) {W0 w : World} {X : List Nat} {B : Heap} {L : List Own} {b : Nat} {o o' : Obj} (hm : Mem W0 X B L w) (hL : L[i]? = some (.blk b o)) : Mem W0 X B (L.set i (.blk b o')) (w.putObj b o') := by
  have hD : w.heap[b]? = some o := mem_idx hm hL
  exact Mem.update i (o' := o') (w' := w.putObj b o') hm hL rfl rfl rfl (by simp) (World.putObj_heap_same (Array.getElem?_eq_some_iff.1 hD).1) (fun c hc _ => World.putObj_heap_other hc)

theorem c_rangeFunc {P : Program} {g : Operand} {ps : List Nat} {assign body : Code} {Q : QD} {a : Act} {w W0 : World} {X : List Nat} {B : Heap} {L : List Own} {E : Env} {n N : Nat} {f : FuncId} {first cap : List Value} {us : Nat → List Value} {pre : World → Prop}
    (h : Holds E n a) (hm : Mem W0 X B L w) (hg : ev E g = some (.func (.func f) first.toArray cap.toArray)) (hen : Enters P f) (it : Iter P f first cap N us pre)
    (hlen : ∀ k, ps.length = (us k).length) (hlt : ps.all (fun p => Nat.blt p n) = true) (E' : Nat → Env) (K : Nat → List Own → Prop) (h0 : K 0 L)
    (hpre : ∀ k Lk Y w, K k Lk → Mem W0 X B (Lk ++ Y) w → pre w)
    (hasg : ∀ lp k w a, k < N → Holds ((ps.zip (us k)).reverse ++ E) n a → CW P (some lp) [] assign (fun ds e a' w' => ds = [] ∧ e = .normal ∧ w' = w ∧ Holds (E' k) n a') a w)
    (hbody : ∀ lp D o k Lk w a, k < N → K k Lk → Mem W0 X B (Lk ++ [.blk lp o, .blk D (.deferred (some []))]) w → Holds (E' k) n a →
      CW P (some lp) [] body (fun ds e _ w' => ds = [] ∧ e = .normal ∧ ∃ L', K (k + 1) L' ∧ Mem W0 X B (L' ++ [.blk lp o, .blk D (.deferred (some []))]) w') a w)
    (done : ∀ lp D o Lk w a, K N Lk → Mem W0 X B (Lk ++ [.blk lp o, .blk D (.deferred (some []))]) w → Holds E n a → Cont (Q [{ target := .collected D, args := #[] }]) .normal a w) :
    CW P none [] (Code.rangeFunc g ps.toArray assign body) Q a w := by
  refine ⟨wpIn_rangeFunc (fun fn _ => ?_)⟩
  have hd := h.defers
  have hev : (a.dfr []).eval g = .func (.func f) first.toArray cap.toArray := by rw [dfr_eval]; exact h.sat _ _ hg
  obtain ⟨rec, hrec⟩ : ∃ rec : LoopState → Option Code → Loop, rec = fun st pe => { state := st, pending := pe, fn, tmps := (a.dfr []).tmps, params := ps.toArray, assign, body, defers := w.heap.size } := ⟨_, rfl⟩
  obtain ⟨W1, hW1⟩ : ∃ W1, (w.alloc (.deferred (some []))).alloc (.loop (rec .ready none)) = W1 := ⟨_, rfl⟩
  have hm1 : Mem W0 X B (L ++ [.blk (w.heap.size + 1) (.loop (rec .ready none)), .blk w.heap.size (.deferred (some []))]) W1 := by
    have h1 := (hm.alloc (.deferred (some []))).alloc (.loop (rec .ready none))
    rw [hW1, World.size_alloc] at h1
    exact h1.perm (by
      show List.Perm ([_, _] ++ L) (L ++ [_, _])
      exact List.perm_append_comm)
  have idx0 : ∀ (Lk : List Own) (x y : Own), (Lk ++ [x, y])[Lk.length]? = some x := fun Lk x y => by simp
  have idx1 : ∀ (Lk : List Own) (x y z : Own), (Lk ++ [x, y]).set Lk.length z = Lk ++ [z, y] := fun Lk x y z => by simp
  refine ⟨w.heap.size + 1, [{ target := .collected w.heap.size, args := #[] }], W1, { target := .fn (.func f) cap.toArray, args := first.toArray ++ #[Value.func (.yield (w.heap.size + 1)) #[] #[]] }, W1, f,
    first.toArray ++ #[Value.func (.yield (w.heap.size + 1)) #[] #[]] ++ cap.toArray, W1, ?_, ?_, fun _ _ => trivial, ?_, fun e => (by cases e), ?_⟩
  · rw [← hW1, hrec]
    exact run_enterLoop_outer _ _ _ _ _
  · simp only [resolve, hev]
    simp [go_sem]
  · simp [invoke, go_sem, hen.out]
  · have hcall := it.out (w.heap.size + 1) (fun k w' => ∃ Lk, K k Lk ∧ Mem W0 X B (Lk ++ [.blk (w.heap.size + 1) (.loop (rec .ready none)), .blk w.heap.size (.deferred (some []))]) w') W1
      (fun k w' ⟨Lk, hk, hmk⟩ => hpre k Lk _ w' hk hmk) (fun k w' w2 ⟨Lk, hk, hmk⟩ hx => ⟨Lk, hk, hmk.ext hx⟩) ?_ ⟨L, h0, hm1⟩
    · have hargs : (first ++ [Value.func (.yield (w.heap.size + 1)) #[] #[]] ++ cap).toArray = first.toArray ++ #[Value.func (.yield (w.heap.size + 1)) #[] #[]] ++ cap.toArray := by simp
      rw [hargs] at hcall
      refine CallsIn.mono (show CallsIn (wideR none) (0 - 1) P f _ W1 _ from hcall) ?_
      rintro e w2 ⟨v, rfl, Lk, hk, hmk⟩
      have hl : w2.heap[w.heap.size + 1]? = some (.loop (rec .ready none)) := mem_idx hmk (idx0 _ _ _)
      have hrun := run_endLoop (P := P) hl (by rw [hrec]; simp)
      have hm2 := mem_put Lk.length (o' := .loop { rec .ready none with state := .exhausted }) hmk (idx0 _ _ _)
      rw [idx1] at hm2
      refine ⟨none, _, by rw [hrec] at hrun; exact hrun, ?_⟩
      refine ⟨[{ target := .collected w.heap.size, args := #[] }], a, ?_, (done _ _ _ Lk _ a hk (by rw [hrec] at hm2; exact hm2) h).out⟩
      simp [Act.dfr, hd]
    · rintro k w' hkN ⟨Lk, hk, hmk⟩
      have hl : w'.heap[w.heap.size + 1]? = some (.loop (rec .ready none)) := mem_idx hmk (idx0 _ _ _)
      have hy := run_yield (P := P) (args := (us k).toArray) hl (by rw [hrec]; simp [hlen k])
      rw [hrec] at hy
      refine ⟨fn, _, assign, body, hy, roundIn_of_wpIn trivial ?_⟩
      have ha := (hasg (w.heap.size + 1) k w' _ hkN (Holds.puts ps (us k) hlt (hlen k) (show Holds E n ⟨(a.dfr []).tmps, []⟩ from ⟨h.size, rfl, h.get⟩))).out
      refine wpIn_mono (show assign.wpIn ((wideR none).inRound (w.heap.size + 1)) 0 P _ _ w' from ha) (fun e a1 w1 q => ?_)
      obtain ⟨ds, a2, rfl, rfl, rfl, rfl, h2⟩ := q
      have hm2 := mem_put Lk.length (o' := .loop { rec .ready none with state := .busy }) hmk (idx0 _ _ _)
      rw [idx1] at hm2
      refine ⟨_, run_beginRound hl (by rw [hrec]), ?_⟩
      refine wpIn_mono (show body.wpIn ((wideR none).inRound (w.heap.size + 1)) 0 P _ _ _ from (hbody _ _ _ k Lk _ a2 hkN hk hm2 h2).out) (fun e a3 w3 q => ?_)
      obtain ⟨ds, a4, rfl, rfl, rfl, L', hk', hm3⟩ := q
      have hl3 : w3.heap[w.heap.size + 1]? = some (.loop { rec .ready none with state := .busy }) := mem_idx hm3 (idx0 _ _ _)
      have hend := run_endRound (P := P) none hl3
      have hm4 := mem_put L'.length (o' := .loop (rec .ready none)) hm3 (idx0 _ _ _)
      rw [idx1] at hm4
      refine ⟨_, _, hend, _, rfl, rfl, L', hk', ?_⟩
      have he : ({ (({ rec .ready none with state := .busy } : Loop)) with state := if (none : Option Code).isNone then .ready else .done, pending := none } : Loop) = rec .ready none := by rw [hrec]; rfl
      rw [he]
      exact hm4
end Go.Proofs.YtcbnegmmjflmcaaGreat.St.Rnd
