/-
  Drawn regions with what only reads taken first, inside rounds and functions that range over a function.
-/
import Derived.Test.YtcbnegmmjflmcaaGreatStRfn
import Derived.Test.YtcbnegmmjflmcaaGreatJ7
import Derived.Test.YtcbnegmmjflmcaaGreatLVec

section
set_option linter.unusedSimpArgs false
set_option linter.unusedVariables false
namespace Go.Proofs.YtcbnegmmjflmcaaGreat.St.Rnd
open Go.RowKit
def noDef : Oper → Bool
  | ⟨_, .defer _, _, _, _, _⟩ => false
  | _ => true
theorem noDef_spec {o : Oper} (h : noDef o = true) : ∀ c, o.op ≠ .defer c := by
  intro c hc
  obtain ⟨d, op, ty, pos, af, g⟩ := o
  simp only at hc
  subst hc
  cases h
theorem rowsIn_wideR {P : Program} {ro : Option Nat} {n : Nat} {row : String} {args : Array Value} {w : World} {R : Value → World → Prop} (h : Go.Rows P row args w R) : RowsIn (wideR ro) n P row args w R := fun c cs _ => by
  obtain ⟨v, w', r, s⟩ := h c cs
  exact ⟨v, w', r, stepsIn_wide.2 s⟩
theorem op_fence {P : Program} {ops : Array Oper} {Q Q' : Exit → Act → World → Prop} {ro : Option Nat} {ds : List Deferred} {i : Nat} {K K' : Act → World → Prop} {a : Act} {w : World} (hnd : ∀ (i : Nat) (o : Oper), ops[i]? = some o → noDef o = true)
    (hno : ∀ a w, ¬ Q .outgrown a w) (hnp : ∀ c a w, ¬ Q (.panic c) a w) (hK : ∀ a w, K a w → K' (a.dfr ds) w) (h : wpOp P ops Q i K a w) : wpOpIn (wideR ro) 0 P ops Q' i K' (a.dfr ds) w := by
  unfold wpOp at h
  unfold wpOpIn
  cases ho : ops[i]? with
  | none => rw [ho] at h; exact hK _ _ h
  | some o =>
    rw [ho] at h
    simp only at h ⊢
    by_cases hw : Region.wanted o (yielded ops a.tmps) = true
    · rw [if_pos hw] at h
      rw [show Region.wanted o (yielded ops (a.dfr ds).tmps) = true from hw, if_pos rfl]
      rcases h with h | ⟨_, a0, w0, h⟩
      · refine ⟨fun _ _ => trivial, ?_⟩
        rw [Oper.semAt_eq _ _ _ (noDef_spec (hnd i o ho)), dfr_eval]
        unfold Oper.wp at h
        generalize (execOp a.eval o).run P w = r at h
        cases r with
        | ok n w' =>
          cases n <;> simp only [Oper.upon] at h <;> simp only [Oper.uponIn]
          case value v => rw [dfr_put]; exact hK _ _ h
          case skip => rw [dfr_put]; exact hK _ _ h
          case defer d => have := hK _ _ h; rw [← dfr_put] at this; exact this
          case enter f args =>
            refine ⟨fun e => (by cases e), calls_wideR (h.mono fun e w2 he => ?_)⟩
            cases e with
            | returned v => show K' ((a.dfr ds).put o.dst v) w2; rw [dfr_put]; exact hK _ _ he
            | panicked c => exact (hnp _ _ _ he).elim
            | outgrown => obtain ⟨a0, w0, h0⟩ := he; exact (hno _ _ h0).elim
          case row row args =>
            refine ⟨fun e => (by cases e), rowsIn_wideR (h.mono fun v w2 he => ?_)⟩
            rw [dfr_put]
            exact hK _ _ he
        | halt x w' =>
          cases x <;> simp only [Oper.upon] at h
          case panic v => exact (hnp _ _ _ h).elim
      · exact (hno _ _ h).elim
    · have hw' : Region.wanted o (yielded ops a.tmps) = false := by simpa using hw
      rw [if_neg hw] at h
      rw [show Region.wanted o (yielded ops (a.dfr ds).tmps) = false from hw', if_neg (by simp)]
      refine ⟨fun _ _ => trivial, ?_⟩
      rw [dfr_put]
      exact hK _ _ h
theorem any_fence {P : Program} {ops : Array Oper} {Q : Exit → Act → World → Prop} {ro : Option Nat} {ds : List Deferred} (hnd : ∀ (i : Nat) (o : Oper), ops[i]? = some o → noDef o = true) (hno : ∀ a w, ¬ Q .outgrown a w) (hnp : ∀ c a w, ¬ Q (.panic c) a w) :
    ∀ (fuel : Nat) (listed : Array Bool) (a : Act) (w : World), wpAny P .any ops Q fuel listed a w → wpAnyIn (wideR ro) 0 P .any ops (QF ds Q) fuel listed (a.dfr ds) w
  | 0, _, a, _, h => ⟨h.1, a, rfl, h.2⟩
  | fuel + 1, _, a, _, h => ⟨fun hr => ⟨a, rfl, h.1 hr⟩, fun i hi => op_fence hnd hno hnp (fun a w hk => any_fence hnd hno hnp fuel _ a w hk) (h.2 i hi)⟩
theorem hw_region {P : Program} {ro : Option Nat} {ds : List Deferred} {a : Act} {w W0 : World} {X : List Nat} {B : Heap} {L : List Own} {l : List Oper} {Q : QD} {id : Nat} (Ls : List Own) (hmix : P.follows .mixedOrders = true) (hm : Mem W0 X B L w)
    (k : ∀ w', Mem W0 X B L w' → HW P l (fun a w => Cont (Q ds) .normal a w) (Mem W0 X B Ls) l.length (Array.replicate l.length false) a w') (hnd : l.all noDef = true) : CW P ro ds (Code.region id l.toArray true) Q a w := by
  refine ⟨wpIn_mono (wpIn_region_any (Q := QF ds (nQ (fun a w => Cont (Q ds) .normal a w))) hmix ?_) (fun e a w q => by obtain ⟨a0, rfl, rfl, hq⟩ := q; exact ⟨_, a0, rfl, hq.out⟩)⟩
  have := wpAny_of_held _ _ _ _ (k _ (hm.ext (ext_drew w))).out
  have h2 := any_fence (ro := ro) (ds := ds) (ops := l.toArray) (fun i o ho => List.all_eq_true.1 hnd o (List.mem_of_getElem? (by simpa using ho))) (fun a w h => by cases h.1) (fun c a w h => by cases h.1) _ _ _ _ this
  simpa using h2
end Go.Proofs.YtcbnegmmjflmcaaGreat.St.Rnd
end

section
/-
  The cells of a grid, as a function that is ranged over.
-/
set_option linter.unusedSimpArgs false
set_option linter.unusedVariables false
namespace Go.Proofs.YtcbnegmmjflmcaaGreat.St.Rnd
open Go.RowKit
theorem k_norm {P : Program} {fn : Func} {R : Value → World → Prop} {ds : List Deferred} {a : Act} {w : World} (h : Cont (PostM P fn R ds) .ret a w) : Cont (PostM P fn R ds) .normal a w := by
  obtain ⟨_, h2, h3⟩ := h.out
  exact ⟨.inr rfl, h2, h3⟩
def cellsU (n k : Nat) : List Value := [I ((k % n : Nat) : Int), I ((k / n : Nat) : Int)]
set_option maxHeartbeats 8000000 in
theorem cells1_iter (n b : Nat) (hn : 1 ≤ n ∧ n ≤ 4096) : Iter Tryz.prog 59 [] [.pointer (some ⟨b, 0, none⟩)] (n * n) (cellsU n) (fun w => w.heap[b]? = some (.cells [I n].toArray 3)) := by
  refine ⟨fun lp J W hpre hst hround h0 => calls_wideR ?_⟩
  refine (enter (vs := [.func (.yield lp) #[] #[], .pointer (some ⟨b, 0, none⟩)]) (R := fun _ w' => J (n * n) w') Tryz.func59 rfl Tryz.ntmps59 rfl (fun a h => ?_))
  have hsq : ((n * n : Nat) : Int) = (n : Int) * n := by simp
  have hsm : n * n ≤ 16777216 := Nat.mul_le_mul hn.2 hn.2
  have hm := Mem.start W
  repeat' (first | refine c_seq ?_ | refine c_region ?_ | refine c_nil ?_ | refine k_then ?_ | refine c_block ?_ | ((refine st_op rfl rfl h ?_); clear h a; ((show Does _ (.assign _) _ _ _ _; refine does_assign rfl ?_)); intro a h))
  clear hm
  refine c_loop (σ := Nat) (fun k a w => k ≤ n * n ∧ J k w ∧ Holds [(0, .func (.yield lp) #[] #[]), (1, .pointer (some ⟨b, 0, none⟩)), (3, .int .i64 k)] _ a) (fun k => n * n - k) 0 ⟨Nat.zero_le _, h0, h.keep ⟨rfl, rfl, rfl, trivial⟩⟩ ?_
  clear h h0 a
  rintro k a w ⟨hk, hJ, h⟩
  have hm := Mem.start w
  have hat : At (fun b => w.heap[b]?) ⟨b, 0, none⟩ [I n] := ⟨rfl, _, _, _, hpre k w hJ, fun j v hv => by simpa using hv⟩
  by_cases hlt : k < n * n
  · have hlt' : (k : Int) < (n : Int) * n := by omega
    repeat' (first | refine c_seq ?_ | refine c_region ?_ | refine c_nil ?_ | refine k_then ?_ | refine c_skip ?_ | refine c_block ?_ | refine c_condT h rfl ?_ | ((refine st_op rfl rfl h ?_); clear h a; (first | (show Does _ (.move _) _ _ _ _; refine does_move rfl ?_) | (show Does _ (.load _ _) _ _ _ _; (refine does_loadB hm rfl (by assumption) rfl ?_)) | (show Does _ (.binOp _ _ _ _ _) _ _ _ _; (first | refine does_lssT rfl rfl (by omega) ?_ | refine does_mul rfl rfl (mul_in (by omega) (by omega)) ?_))); intro a h) | (apply c_drawM (id := 3) 7 [.val _, .val _, .val _, .val _, .val _, .val _, .val _] mixed (by kernel_rfl) (h := h) (hm := hm); (case vcs => (repeat' (first | exact vcs_nil | refine vcs_cons ?_ ?_ | (intro w hm; (repeat (first | refine dep_val ?_ | refine dep_nil ?_)); first | exact vc_skip rfl | exact vc_alloc rfl | exact vc_box rfl rfl rfl | exact vc_buildSlice rfl rfl rfl rfl | exact vc_makeSlice (by omega) (by omega) rfl rfl rfl | exact vc_store rfl rfl rfl rfl rfl rfl rfl rfl rfl rfl | (apply vc_run rfl; (first | (show Does _ (.move _) _ _ _ _; refine does_move rfl ?_) | (show Does _ (.load _ _) _ _ _ _; (refine does_loadB hm rfl (by assumption) rfl ?_)) | (show Does _ (.binOp _ _ _ _ _) _ _ _ _; (first | refine does_rem rfl rfl (by omega) ?_ | refine does_quo rfl rfl (by omega) ?_))); (exact ⟨ext_refl _, rfl⟩)))))); (case hup => kernel_rfl); (case hown => kernel_rfl); (case hnp => kernel_rfl); clear h hm a; intro  w hm; (simp only [List.map_nil, List.nil_append] at hm); (repeat (first | refine dep_val ?_ | refine dep_nil ?_)); intro a h))
    refine st_yield (Rr := fun v w' => v = .bool true ∧ J (k + 1) w') rfl rfl h rfl rfl ?_ ?_
    · have hr := hround k w (by omega) (hst k _ _ hJ hm.below)
      have hu : (cellsU n k) = [.int .i64 ((k : Int).tmod n), .int .i64 ((k : Int).tdiv n)] := by
        simp only [cellsU, Int.ofNat_tmod, Int.ofNat_tdiv, Int.natCast_emod, Int.natCast_ediv, Int.tmod_eq_emod_of_nonneg (Int.natCast_nonneg k), Int.tdiv_eq_ediv_of_nonneg (Int.natCast_nonneg k)]
      rw [hu] at hr
      exact hr
    rintro v w ⟨rfl, hJ⟩ a h
    repeat' (first | refine c_region ?_ | refine c_nil ?_ | refine k_then ?_ | refine k_inN ?_ | refine c_skip ?_ | refine c_condF h rfl ?_ | ((refine st_op rfl rfl h ?_); clear h a; (first | (show Does _ (.move _) _ _ _ _; refine does_move rfl ?_) | (show Does _ (.assign _) _ _ _ _; refine does_assign rfl ?_) | (show Does _ (.binOp _ _ _ _ _) _ _ _ _; (refine does_add rfl rfl (by omega) ?_)) | (show Does _ (.unOp _ _ _) _ _ _ _; (refine does_not rfl ?_))); intro a h))
    exact k_thenN ⟨rfl, k + 1, ⟨by omega, hJ, h.keep ⟨rfl, rfl, rfl, trivial⟩⟩, by omega⟩
  · obtain rfl : k = n * n := by omega
    have hlt' : ¬ ((n * n : Nat) : Int) < (n : Int) * n := by omega
    repeat' (first | refine c_seq ?_ | refine c_region ?_ | refine c_nil ?_ | refine k_then ?_ | refine k_thenE ?_ | refine k_inE ?_ | refine c_exit ?_ | refine c_condF h rfl ?_ | ((refine st_op rfl rfl h ?_); clear h a; (first | (show Does _ (.move _) _ _ _ _; refine does_move rfl ?_) | (show Does _ (.load _ _) _ _ _ _; (refine does_loadB hm rfl (by assumption) rfl ?_)) | (show Does _ (.binOp _ _ _ _ _) _ _ _ _; (first | refine does_lssF rfl rfl (by omega) ?_ | refine does_mul rfl rfl (mul_in (by omega) (by omega)) ?_))); intro a h))
    exact k_norm (k_ret (rs := []) (vs := []) rfl h trivial hJ)
end Go.Proofs.YtcbnegmmjflmcaaGreat.St.Rnd
namespace Go.Proofs.YtcbnegmmjflmcaaGreat.St
open Go.RowKit
set_option maxHeartbeats 2000000 in
theorem cells_ok (n : Nat) : FunG Tryz.prog 41 [I n] (fun _ => True) (fun v L' => ∃ b, v = .func (.func 59) #[] #[.pointer (some ⟨b, 0, none⟩)] ∧ L' = [.blk b (.cells [I n].toArray 3)]) := by
  refine enterFunG Tryz.func41 rfl Tryz.ntmps41 rfl (fun W0 w a _ hm h => ?_)
  repeat' (first | refine c_seq ?_ | refine c_region ?_ | refine c_nil ?_ | refine k_then ?_ | refine c_ret ?_ | ((refine st_op rfl rfl h ?_); clear h a; (first | (show Does _ (.box _ _) _ _ _ _; (refine does_box hm rfl rfl ?_; clear hm; intro b w hm)) | (show Does _ (.assign _) _ _ _ _; refine does_assign rfl ?_) | (show Does _ (.makeFunc _ _ _) _ _ _ _; refine does_makeFunc rfl rfl ?_)); intro a h))
  exact k_ret1 rfl h rfl ⟨_, ⟨_, rfl, rfl⟩, hm⟩
end Go.Proofs.YtcbnegmmjflmcaaGreat.St
end

section
/-
  A range over a function whose rounds may return out of the function that holds it.
-/
set_option linter.unusedSimpArgs false
set_option linter.unusedVariables false
namespace Go.Proofs.YtcbnegmmjflmcaaGreat.St.Rnd
open Go.RowKit
/-- f, called with yield, calls it N times, the k-th time with us k, unless a round says false; and returns -/
structure IterS (P : Program) (f : FuncId) (first cap : List Value) (N : Nat) (us : Nat → List Value) (pre : World → Prop) : Prop where
  out : ∀ (lp : Nat) (J : Nat → World → Prop) (S : World → Prop) (w : World), (∀ k w, J k w → pre w) → (∀ k w w', J k w → Ext w w' → J k w') → (∀ w w', S w → Ext w w' → S w') →
    (∀ k w, k < N → J k w → ∃ fn tmps assign body, (Instr.yield lp (us k).toArray).run P w = .ok (.round lp fn tmps assign body) w ∧ RoundIn (wideR none) 0 P lp fn tmps assign body w (fun e w' => ∃ v, e = .returned v ∧ ((v = .bool true ∧ J (k + 1) w') ∨ (v = .bool false ∧ S w')))) →
    J 0 w → CallsIn (wideR none) 0 P f (first ++ [Value.func (.yield lp) #[] #[]] ++ cap).toArray w (fun e w' => ∃ v, e = .returned v ∧ (J N w' ∨ S w'))
theorem c_rangeFuncS {P : Program} {g : Operand} {ps : List Nat} {assign body : Code} {Q : QD} {a : Act} {w W0 : World} {X : List Nat} {B : Heap} {L : List Own} {E : Env} {n N : Nat} {f : FuncId} {first cap : List Value} {us : Nat → List Value} {pre : World → Prop}
    (h : Holds E n a) (hm : Mem W0 X B L w) (hg : ev E g = some (.func (.func f) first.toArray cap.toArray)) (hen : Enters P f) (it : IterS P f first cap N us pre)
    (hlen : ∀ k, ps.length = (us k).length) (hlt : ps.all (fun p => Nat.blt p n) = true) (E' : Nat → Env) (K : Nat → List Own → Prop) (KS : List Own → Prop) (h0 : K 0 L)
    (hpre : ∀ k Lk Y w, K k Lk → Mem W0 X B (Lk ++ Y) w → pre w)
    (hasg : ∀ lp k w a, k < N → Holds ((ps.zip (us k)).reverse ++ E) n a → CW P (some lp) [] assign (fun ds e a' w' => ds = [] ∧ e = .normal ∧ w' = w ∧ Holds (E' k) n a') a w)
    (hbody : ∀ lp D o k Lk w a, k < N → K k Lk → Mem W0 X B (Lk ++ [.blk lp o, .blk D (.deferred (some []))]) w → Holds (E' k) n a →
      CW P (some lp) [] body (fun ds e _ w' => ds = [] ∧ ((e = .normal ∧ ∃ L', K (k + 1) L' ∧ Mem W0 X B (L' ++ [.blk lp o, .blk D (.deferred (some []))]) w') ∨ (e = .ret ∧ ∃ L', KS L' ∧ Mem W0 X B (L' ++ [.blk lp o, .blk D (.deferred (some []))]) w'))) a w)
    (stop : ∀ lp D o Lk w a, KS Lk → Mem W0 X B (Lk ++ [.blk lp o, .blk D (.deferred (some []))]) w → Holds E n a → Cont (Q [{ target := .collected D, args := #[] }]) .ret a w)
    (done : ∀ lp D o Lk w a, K N Lk → Mem W0 X B (Lk ++ [.blk lp o, .blk D (.deferred (some []))]) w → Holds E n a → Cont (Q [{ target := .collected D, args := #[] }]) .normal a w) :
    CW P none [] (Code.rangeFunc g ps.toArray assign body) Q a w := by
  refine ⟨wpIn_rangeFunc (fun fn _ => ?_)⟩
  have hd := h.defers
  have hev : (a.dfr []).eval g = .func (.func f) first.toArray cap.toArray := by rw [dfr_eval]; exact h.sat _ _ hg
  obtain ⟨rec, hrec⟩ : ∃ rec : LoopState → Option Code → Loop, rec = fun st pe => { state := st, pending := pe, fn, tmps := (a.dfr []).tmps, params := ps.toArray, assign, body, defers := w.heap.size } := ⟨_, rfl⟩
  obtain ⟨W1, hW1⟩ : ∃ W1, (w.alloc (.deferred (some []))).alloc (.loop (rec .ready none)) = W1 := ⟨_, rfl⟩
  have hm1 : Mem W0 X B (L ++ [.blk (w.heap.size + 1) (.loop (rec .ready none)), .blk w.heap.size (.deferred (some []))]) W1 := by
    have h1 := (hm.alloc (.deferred (some []))).alloc (.loop (rec .ready none))
    rw [hW1, World.size_alloc] at h1
    exact h1.perm (by
      show List.Perm ([_, _] ++ L) (L ++ [_, _])
      exact List.perm_append_comm)
  have idx0 : ∀ (Lk : List Own) (x y : Own), (Lk ++ [x, y])[Lk.length]? = some x := fun Lk x y => by simp
  have idx1 : ∀ (Lk : List Own) (x y z : Own), (Lk ++ [x, y]).set Lk.length z = Lk ++ [z, y] := fun Lk x y z => by simp
  refine ⟨w.heap.size + 1, [{ target := .collected w.heap.size, args := #[] }], W1, { target := .fn (.func f) cap.toArray, args := first.toArray ++ #[Value.func (.yield (w.heap.size + 1)) #[] #[]] }, W1, f,
    first.toArray ++ #[Value.func (.yield (w.heap.size + 1)) #[] #[]] ++ cap.toArray, W1, ?_, ?_, fun _ _ => trivial, ?_, fun e => (by cases e), ?_⟩
  · rw [← hW1, hrec]
    exact run_enterLoop_outer _ _ _ _ _
  · simp only [resolve, hev]
    simp [go_sem]
  · simp [invoke, go_sem, hen.out]
  · have hcall := it.out (w.heap.size + 1) (fun k w' => ∃ Lk, K k Lk ∧ Mem W0 X B (Lk ++ [.blk (w.heap.size + 1) (.loop (rec .ready none)), .blk w.heap.size (.deferred (some []))]) w')
      (fun w' => ∃ Lk, KS Lk ∧ Mem W0 X B (Lk ++ [.blk (w.heap.size + 1) (.loop (rec .done (some .ret))), .blk w.heap.size (.deferred (some []))]) w') W1
      (fun k w' ⟨Lk, hk, hmk⟩ => hpre k Lk _ w' hk hmk) (fun k w' w2 ⟨Lk, hk, hmk⟩ hx => ⟨Lk, hk, hmk.ext hx⟩) (fun w' w2 ⟨Lk, hk, hmk⟩ hx => ⟨Lk, hk, hmk.ext hx⟩) ?_ ⟨L, h0, hm1⟩
    · have hargs : (first ++ [Value.func (.yield (w.heap.size + 1)) #[] #[]] ++ cap).toArray = first.toArray ++ #[Value.func (.yield (w.heap.size + 1)) #[] #[]] ++ cap.toArray := by simp
      rw [hargs] at hcall
      refine CallsIn.mono (show CallsIn (wideR none) (0 - 1) P f _ W1 _ from hcall) ?_
      rintro e w2 ⟨v, rfl, ⟨Lk, hk, hmk⟩ | ⟨Lk, hk, hmk⟩⟩
      · have hl : w2.heap[w.heap.size + 1]? = some (.loop (rec .ready none)) := mem_idx hmk (idx0 _ _ _)
        have hrun := run_endLoop (P := P) hl (by rw [hrec]; simp)
        have hm2 := mem_put Lk.length (o' := .loop { rec .ready none with state := .exhausted }) hmk (idx0 _ _ _)
        rw [idx1] at hm2
        refine ⟨none, _, by rw [hrec] at hrun; exact hrun, ?_⟩
        refine ⟨[{ target := .collected w.heap.size, args := #[] }], a, ?_, (done _ _ _ Lk _ a hk (by rw [hrec] at hm2; exact hm2) h).out⟩
        simp [Act.dfr, hd]
      · have hl : w2.heap[w.heap.size + 1]? = some (.loop (rec .done (some .ret))) := mem_idx hmk (idx0 _ _ _)
        have hrun := run_endLoop (P := P) hl (by rw [hrec]; simp)
        have hm2 := mem_put Lk.length (o' := .loop { rec .done (some .ret) with state := .exhausted }) hmk (idx0 _ _ _)
        rw [idx1] at hm2
        refine ⟨some .ret, _, by rw [hrec] at hrun; exact hrun, ?_⟩
        have hr := (c_ret (P := P) (ro := none) (ds := [{ target := .collected w.heap.size, args := #[] }]) (Q := Q) (stop _ _ _ Lk _ a hk (by rw [hrec] at hm2; exact hm2) h)).out
        have he : a.dfr [{ target := .collected w.heap.size, args := #[] }] = { a.dfr [] with defers := [{ target := .collected w.heap.size, args := #[] }] ++ (a.dfr []).defers } := by simp [Act.dfr, hd]
        rw [he] at hr
        exact hr
    · rintro k w' hkN ⟨Lk, hk, hmk⟩
      have hl : w'.heap[w.heap.size + 1]? = some (.loop (rec .ready none)) := mem_idx hmk (idx0 _ _ _)
      have hy := run_yield (P := P) (args := (us k).toArray) hl (by rw [hrec]; simp [hlen k])
      rw [hrec] at hy
      refine ⟨fn, _, assign, body, hy, roundIn_of_wpIn trivial ?_⟩
      have ha := (hasg (w.heap.size + 1) k w' _ hkN (Holds.puts ps (us k) hlt (hlen k) (show Holds E n ⟨(a.dfr []).tmps, []⟩ from ⟨h.size, rfl, h.get⟩))).out
      refine wpIn_mono (show assign.wpIn ((wideR none).inRound (w.heap.size + 1)) 0 P _ _ w' from ha) (fun e a1 w1 q => ?_)
      obtain ⟨ds, a2, rfl, rfl, rfl, rfl, h2⟩ := q
      have hm2 := mem_put Lk.length (o' := .loop { rec .ready none with state := .busy }) hmk (idx0 _ _ _)
      rw [idx1] at hm2
      refine ⟨_, run_beginRound hl (by rw [hrec]), ?_⟩
      refine wpIn_mono (show body.wpIn ((wideR none).inRound (w.heap.size + 1)) 0 P _ _ _ from (hbody _ _ _ k Lk _ a2 hkN hk hm2 h2).out) (fun e a3 w3 q => ?_)
      obtain ⟨ds, a4, rfl, rfl, ⟨rfl, L', hk', hm3⟩ | ⟨rfl, L', hk', hm3⟩⟩ := q
      · have hl3 : w3.heap[w.heap.size + 1]? = some (.loop { rec .ready none with state := .busy }) := mem_idx hm3 (idx0 _ _ _)
        have hend := run_endRound (P := P) none hl3
        have hm4 := mem_put L'.length (o' := .loop (rec .ready none)) hm3 (idx0 _ _ _)
        rw [idx1] at hm4
        refine ⟨_, _, hend, _, rfl, .inl ⟨rfl, L', hk', ?_⟩⟩
        have he : ({ (({ rec .ready none with state := .busy } : Loop)) with state := if (none : Option Code).isNone then .ready else .done, pending := none } : Loop) = rec .ready none := by rw [hrec]; rfl
        rw [he]
        exact hm4
      · have hl3 : w3.heap[w.heap.size + 1]? = some (.loop { rec .ready none with state := .busy }) := mem_idx hm3 (idx0 _ _ _)
        have hend := run_endRound (P := P) (some .ret) hl3
        have hm4 := mem_put L'.length (o' := .loop (rec .done (some .ret))) hm3 (idx0 _ _ _)
        rw [idx1] at hm4
        refine ⟨_, _, hend, _, rfl, .inr ⟨rfl, L', hk', ?_⟩⟩
        have he : ({ (({ rec .ready none with state := .busy } : Loop)) with state := if (some Code.ret : Option Code).isNone then .ready else .done, pending := some .ret } : Loop) = rec .done (some .ret) := by rw [hrec]; rfl
        rw [he]
        exact hm4
end Go.Proofs.YtcbnegmmjflmcaaGreat.St.Rnd
end

section
/-
  The cells of a grid, as a function that is ranged over by rounds that may return.
-/
set_option linter.unusedSimpArgs false
set_option linter.unusedVariables false
namespace Go.Proofs.YtcbnegmmjflmcaaGreat.St.Rnd
open Go.RowKit
set_option maxHeartbeats 8000000 in
theorem cells1_iterS (n b : Nat) (hn : 1 ≤ n ∧ n ≤ 4096) : IterS Tryz.prog 59 [] [.pointer (some ⟨b, 0, none⟩)] (n * n) (cellsU n) (fun w => w.heap[b]? = some (.cells [I n].toArray 3)) := by
  refine ⟨fun lp J S W hpre hst hsS hround h0 => calls_wideR ?_⟩
  refine (enter (vs := [.func (.yield lp) #[] #[], .pointer (some ⟨b, 0, none⟩)]) (R := fun _ w' => J (n * n) w' ∨ S w') Tryz.func59 rfl Tryz.ntmps59 rfl (fun a h => ?_))
  have hsq : ((n * n : Nat) : Int) = (n : Int) * n := by simp
  have hsm : n * n ≤ 16777216 := Nat.mul_le_mul hn.2 hn.2
  have hm := Mem.start W
  repeat' (first | refine c_seq ?_ | refine c_region ?_ | refine c_nil ?_ | refine k_then ?_ | refine c_block ?_ | ((refine st_op rfl rfl h ?_); clear h a; ((show Does _ (.assign _) _ _ _ _; refine does_assign rfl ?_)); intro a h))
  clear hm
  refine c_loop (σ := Nat) (fun k a w => k ≤ n * n ∧ J k w ∧ Holds [(0, .func (.yield lp) #[] #[]), (1, .pointer (some ⟨b, 0, none⟩)), (3, .int .i64 k)] _ a) (fun k => n * n - k) 0 ⟨Nat.zero_le _, h0, h.keep ⟨rfl, rfl, rfl, trivial⟩⟩ ?_
  clear h h0 a
  rintro k a w ⟨hk, hJ, h⟩
  have hm := Mem.start w
  have hat : At (fun b => w.heap[b]?) ⟨b, 0, none⟩ [I n] := ⟨rfl, _, _, _, hpre k w hJ, fun j v hv => by simpa using hv⟩
  by_cases hlt : k < n * n
  · have hlt' : (k : Int) < (n : Int) * n := by omega
    repeat' (first | refine c_seq ?_ | refine c_region ?_ | refine c_nil ?_ | refine k_then ?_ | refine c_skip ?_ | refine c_block ?_ | refine c_condT h rfl ?_ | ((refine st_op rfl rfl h ?_); clear h a; (first | (show Does _ (.move _) _ _ _ _; refine does_move rfl ?_) | (show Does _ (.load _ _) _ _ _ _; (refine does_loadB hm rfl (by assumption) rfl ?_)) | (show Does _ (.binOp _ _ _ _ _) _ _ _ _; (first | refine does_lssT rfl rfl (by omega) ?_ | refine does_mul rfl rfl (mul_in (by omega) (by omega)) ?_))); intro a h) | (apply c_drawM (id := 3) 7 [.val _, .val _, .val _, .val _, .val _, .val _, .val _] mixed (by kernel_rfl) (h := h) (hm := hm); (case vcs => (repeat' (first | exact vcs_nil | refine vcs_cons ?_ ?_ | (intro w hm; (repeat (first | refine dep_val ?_ | refine dep_nil ?_)); first | exact vc_skip rfl | exact vc_alloc rfl | exact vc_box rfl rfl rfl | exact vc_buildSlice rfl rfl rfl rfl | exact vc_makeSlice (by omega) (by omega) rfl rfl rfl | exact vc_store rfl rfl rfl rfl rfl rfl rfl rfl rfl rfl | (apply vc_run rfl; (first | (show Does _ (.move _) _ _ _ _; refine does_move rfl ?_) | (show Does _ (.load _ _) _ _ _ _; (refine does_loadB hm rfl (by assumption) rfl ?_)) | (show Does _ (.binOp _ _ _ _ _) _ _ _ _; (first | refine does_rem rfl rfl (by omega) ?_ | refine does_quo rfl rfl (by omega) ?_))); (exact ⟨ext_refl _, rfl⟩)))))); (case hup => kernel_rfl); (case hown => kernel_rfl); (case hnp => kernel_rfl); clear h hm a; intro  w hm; (simp only [List.map_nil, List.nil_append] at hm); (repeat (first | refine dep_val ?_ | refine dep_nil ?_)); intro a h))
    refine st_yield (Rr := fun v w' => (v = .bool true ∧ J (k + 1) w') ∨ (v = .bool false ∧ S w')) rfl rfl h rfl rfl ?_ ?_
    · have hr := hround k w (by omega) (hst k _ _ hJ hm.below)
      have hu : (cellsU n k) = [.int .i64 ((k : Int).tmod n), .int .i64 ((k : Int).tdiv n)] := by
        simp only [cellsU, Int.ofNat_tmod, Int.ofNat_tdiv, Int.natCast_emod, Int.natCast_ediv, Int.tmod_eq_emod_of_nonneg (Int.natCast_nonneg k), Int.tdiv_eq_ediv_of_nonneg (Int.natCast_nonneg k)]
      rw [hu] at hr
      exact hr
    rintro v w (⟨rfl, hJ⟩ | ⟨rfl, hS⟩) a h
    · repeat' (first | refine c_region ?_ | refine c_nil ?_ | refine k_then ?_ | refine k_inN ?_ | refine c_skip ?_ | refine c_condF h rfl ?_ | ((refine st_op rfl rfl h ?_); clear h a; (first | (show Does _ (.move _) _ _ _ _; refine does_move rfl ?_) | (show Does _ (.assign _) _ _ _ _; refine does_assign rfl ?_) | (show Does _ (.binOp _ _ _ _ _) _ _ _ _; (refine does_add rfl rfl (by omega) ?_)) | (show Does _ (.unOp _ _ _) _ _ _ _; (refine does_not rfl ?_))); intro a h))
      exact k_thenN ⟨rfl, k + 1, ⟨by omega, hJ, h.keep ⟨rfl, rfl, rfl, trivial⟩⟩, by omega⟩
    · repeat' (first | refine c_nil ?_ | refine k_then ?_ | refine k_thenR ?_ | refine k_inR ?_ | refine c_ret ?_ | refine c_condT h rfl ?_ | ((refine st_op rfl rfl h ?_); clear h a; ((show Does _ (.unOp _ _ _) _ _ _ _; (refine does_not rfl ?_))); intro a h))
      exact k_ret (rs := []) (vs := []) rfl h trivial (.inr hS)
  · obtain rfl : k = n * n := by omega
    have hlt' : ¬ ((n * n : Nat) : Int) < (n : Int) * n := by omega
    repeat' (first | refine c_seq ?_ | refine c_region ?_ | refine c_nil ?_ | refine k_then ?_ | refine k_thenE ?_ | refine k_inE ?_ | refine c_exit ?_ | refine c_condF h rfl ?_ | ((refine st_op rfl rfl h ?_); clear h a; (first | (show Does _ (.move _) _ _ _ _; refine does_move rfl ?_) | (show Does _ (.load _ _) _ _ _ _; (refine does_loadB hm rfl (by assumption) rfl ?_)) | (show Does _ (.binOp _ _ _ _ _) _ _ _ _; (first | refine does_lssF rfl rfl (by omega) ?_ | refine does_mul rfl rfl (mul_in (by omega) (by omega)) ?_))); intro a h))
    exact k_norm (k_ret (rs := []) (vs := []) rfl h trivial (.inl hJ))
end Go.Proofs.YtcbnegmmjflmcaaGreat.St.Rnd
end
