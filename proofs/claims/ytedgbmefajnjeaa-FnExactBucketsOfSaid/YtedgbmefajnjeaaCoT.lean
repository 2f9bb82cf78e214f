/-
  A sender's first steps, its deferred close, its leaving.
-/
import Derived.Test.YtedgbmefajnjeaaCoS
import Derived.Conc.DeferLaws
import Derived.Conc.Own2
set_option linter.unusedSimpArgs false
set_option linter.unusedVariables false
namespace Go.Proofs.Ytedgbmefajnjeaa.St
open Go.RowKit Go.Proofs.Ytedgbmefajnjeaa.Co

/-- the call of close that is put off -/
def closeD (c : Nat) (ats : Array TypeId) (ty : TypeId) : Deferred := ⟨.builtin .close ats ty #[false], #[.chan (some c)]⟩
/-- the frame beneath a goroutine's first call -/
def botF (P : Program) : Frame := { (default : Frame) with fn := P.funcs.size, defers := [], mode := .panicking [goexitEntry] }

section
variable {P : Program} {B : Heap} {c : Nat} {vs : List Value} {b : Frame} {a : Act} {k : List Item} {cs : List Frame} {l rest : List Oper} {ds : List Deferred} {E : Env} {n d t c' : Nat} {op : Op} {ty : TypeId} {pos : String} {af : Array Edge} {g : Option (Nat × Bool)} {ats : Array TypeId}

theorem sl_defer (hk : b.kind ≠ .early) (hg : wantedE l E g = some true) (h : HD ds E n a) (hx : ev E (.tmp t) = some (.chan (some c'))) (kn : ∀ a', HD (closeD c' ats ty :: ds) E n a' → SL P B c vs b k cs l rest a') :
    SL P B c vs b k cs l (⟨none, .defer { callee := .builtin .close, args := #[.tmp t], argTypes := ats }, ty, pos, af, g⟩ :: rest) a := by
  refine ⟨fun pre hl => ?_⟩
  have ho : l.toArray[pre.length]? = some ⟨none, .defer { callee := .builtin .close, args := #[.tmp t], argTypes := ats }, ty, pos, af, g⟩ := by simp [hl]
  have hw := wanted_of (o := ⟨none, .defer { callee := .builtin .close, args := #[.tmp t], argTypes := ats }, ty, pos, af, g⟩) h.holds hg
  have ha : HD (closeD c' ats ty :: ds) E n ⟨a.tmps, closeD c' ats ty :: a.defers⟩ := ⟨by rw [h.defers], h.holds⟩
  have hn := (kn _ ha).out (pre ++ [⟨none, .defer { callee := .builtin .close, args := #[.tmp t], argTypes := ats }, ty, pos, af, g⟩]) (by rw [hl]; simp)
  simp only [List.length_append, List.length_cons, List.length_nil, Nat.zero_add] at hn
  simp only [List.length_cons, List.range'_succ]
  have hv := h.sat _ _ hx
  refine sd_ctl rfl (fun w => ?_) hn
  have hr : ∀ o : Oper, o.op = .defer { callee := .builtin .close, args := #[.tmp t], argTypes := ats } → o.type = ty → (execOp a.eval o).run P w = .ok (.defer (closeD c' ats ty)) w := by
    intro o h1 h2
    unfold execOp
    simp [h1, h2, resolve, hv, closeD]
  have he : ∀ o : Oper, o.op = .defer { callee := .builtin .close, args := #[.tmp t], argTypes := ats } → (execOp a.eval o).events P w #[] = #[] := by
    intro o h1
    unfold execOp
    simp [h1, resolve]
  have hr1 := hr ⟨none, .defer { callee := .builtin .close, args := #[.tmp t], argTypes := ats }, ty, pos, af, g⟩ rfl rfl
  have he1 := he ⟨none, .defer { callee := .builtin .close, args := #[.tmp t], argTypes := ats }, ty, pos, af, g⟩ rfl
  have hfin : (b.at ⟨a.tmps, closeD c' ats ty :: a.defers⟩ (.inRegion l.toArray (pre.length :: List.range' (pre.length + 1) rest.length) :: k)).finish undef = b.at ⟨a.tmps, closeD c' ats ty :: a.defers⟩ (.inRegion l.toArray (List.range' (pre.length + 1) rest.length) :: k) := by
    rw [Frame.finish_at, ho]; rfl
  have hk' : (b.kind == CallKind.early) = false := by simpa using hk
  rw [Conc.stepG_oper (a := a) ho hw, ← hfin]
  simp [stepG.apply, hr1, he1, Conc.G, Frame.at, hk', GStep.after, Conc.seen_none]

/-- A loop, its state a ghost. -/
theorem sd_rounds {σ : Type} {x : Code} (I : σ → List Value → Act → Prop) (μ : σ → Nat) (s₀ : σ) (h₀ : I s₀ vs a)
    (round : ∀ s vs a, I s vs a → (∀ s' vs' a', I s' vs' a' → μ s' < μ s → SD P B c vs' (Conc.G (b.at a' (.inLoop x :: k)) cs)) → SD P B c vs (Conc.G (b.at a (.code x :: .inLoop x :: k)) cs)) :
    SD P B c vs (Conc.G (b.at a (.code (.loop x) :: k)) cs) := by
  have key : ∀ n s vs a, μ s = n → I s vs a → SD P B c vs (Conc.G (b.at a (.code x :: .inLoop x :: k)) cs) := by
    intro n
    induction n using Nat.strongRecOn with
    | _ n ih => exact fun s vs a hn hI => round s vs a hI fun s' vs' a' hI' hlt => sd_inLoop (ih _ (hn ▸ hlt) s' vs' a' rfl hI')
  exact sd_loop (key _ s₀ _ _ rfl h₀)

/-- it closes the channel and leaves -/
theorem sd_close {fn : Func} {todo : List Item} (hf : P.funcs[b.fn]? = some fn) (hkind : b.kind = .deferred) (hr : fn.results = #[]) (hnr : fn.norace = false) (h : HD [closeD c ats ty] E n a) :
    SD P B c [] (Conc.G { b.at a todo with mode := .returning } [botF P]) := by
  refine ⟨⟨0, Conc.Goes.stop fun w₁ _ => ?_⟩⟩
  refine ⟨rfl, by simp [mayWake, Conc.G, Frame.at], Conc.G { b.at ⟨a.tmps, []⟩ todo with mode := .returning } [botF P], #[⟨.obj c, false, true⟩], 2, fun w s r tm _ hc => ?_, ?_, ?_⟩
  · have h1 := run_close_open (P := P) ats ty hc
    have h2 := events_close_open (P := P) (es := #[]) ats ty hc
    have hrun : (Builtin.close_ ats ty #[.chan (some c)]).run P w = .ok (.tuple #[]) (w.shut c s r tm) := h1
    have hi : invoke (closeD c ats ty).target (closeD c ats ty).args = (do pure (.value (← Builtin.close_ ats ty #[.chan (some c)])) : Sem Next) := rfl
    have hir : (invoke (closeD c ats ty).target (closeD c ats ty).args).run P w = .ok (.value (.tuple #[])) (w.shut c s r tm) := by rw [hi, Sem.run_bind, hrun]; rfl
    have hie : (invoke (closeD c ats ty).target (closeD c ats ty).args).events P w #[] = #[⟨.obj c, false, true⟩, ⟨.obj c, true, true⟩] := by
      rw [hi, Sem.events_bind, h2, hrun]; rfl
    have hs : ∀ es : Array Event, (∀ e ∈ es, ∀ f, e.loc ≠ .mark (.extern f)) → seen P b.fn es = es := fun es he => Conc.seen_eq (by simp [hf, hnr]) he
    have hl : seen P b.fn #[⟨.obj c, false, true⟩, ⟨.obj c, true, true⟩] = #[⟨.obj c, false, true⟩, ⟨.obj c, true, true⟩] := hs _ (by simp)
    have ht : (invoke (closeD c ats ty).target (closeD c ats ty).args).runT P w #[] = (.ok (.value (.tuple #[])) (w.shut c s r tm), #[⟨.obj c, false, true⟩, ⟨.obj c, true, true⟩]) := by
      rw [← hir, ← hie, ← Sem.runT_fst]; rfl
    simp only [stepG, Conc.G, Frame.at, unwind, h.defers]
    have e : (closeD c ats ty).target = .builtin .close ats ty #[false] := rfl
    simp only [closeD] at ht ⊢
    simp only [callDeferred, ht]
    simp [GStep.after, hl]
  · intro e he
    simp at he
    subst he
    exact ⟨fun m => by simp, rfl, fun ⟨x, hx, _⟩ => by simp at hx⟩
  · refine .inr ⟨rfl, Conc.G (botF P) [], fun w => ?_, .inr ⟨rfl, { Conc.G (botF P) [] with status := .finished }, fun w => ?_, rfl⟩⟩
    · simp [stepG, Conc.G, Frame.at, unwind, hf, results, hr, doReturn, hkind, botF, goexitEntry, GStep.after, seen, Sem.runT]
    · simp [stepG, Conc.G, botF, unwind, Frame.catches, goexitEntry, List.head?, show (default : Frame).todo = [] from rfl]

/-- its first step -/
theorem sends_born {f : FuncId} {fn : Func} {body : Code} {xs : List Value} (hf : P.funcs[f]? = some fn) (hname : (fn.name == "runtime.NumGoroutine") = false) (hb : fn.body = some body) (hn : fn.ntmps = n) (hl : Nat.ble xs.length n = true)
    (h : ∀ a, HD [] (enumE 0 xs) n a → SD P B c vs (Conc.G ((Conc.baseD f).at a [.code body]) [botF P])) :
    SD P B c vs (Conc.born P ⟨.fn (.func f) xs.toArray, #[]⟩) := by
  have h1 : ¬ fn.name = "runtime.NumGoroutine" := by simpa using hname
  have h2 := h { tmps := xs.toArray ++ Array.replicate (n - xs.toArray.size) undef, defers := [] } ⟨rfl, Holds.enter xs n hl⟩
  rw [← hn] at h2
  refine sd_ctl rfl (fun w => ?_) h2
  rw [← Conc.enter_atD xs.toArray hf hb]
  simp [Conc.born, stepG, unwind, callDeferred, invoke, callFunc, hf, h1, hb, GStep.after, Conc.seen_none, Conc.G, botF]
end
end Go.Proofs.Ytedgbmefajnjeaa.St
