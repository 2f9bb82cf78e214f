/-
  Slices with both bounds; copies, clearings and appends within a block; comparison with nil.
-/
import Derived.Test.YtaiiiendfcglmaaStIns
import Derived.Test.YtaiiiendfcglmaaStZip
import Derived.Laws.Cover3
set_option linter.unusedSimpArgs false
set_option linter.unusedVariables false
namespace Go.Proofs.Ytaiiiendfcglmaa.St
open Go.RowKit
section
variable {P : Program} {E : Env} {w W0 : World} {X : List Nat} {B : Heap} {L : List Own} {Φ : Value → World → Prop} {ty t t' : TypeId} {x y : Operand}
theorem does_eqlNil {e : TypeId} {n c : Nat} {p : Option Addr} [hs : SliceT P t e] (hx : ev E x = some (.slice p n c)) (hy : ev E y = some (.slice none 0 0)) (k : Φ (.bool p.isNone) w) : Does P (.binOp .eql t x y t') ty E w Φ :=
  does_bin hx hy rfl (by
    have := run_equal_slice_nil (P := P) w t e p n c hs.out
    simp [binOp, this]) k
theorem does_sliceLH {lo hi : Operand} {e n c s b_ : Nat} {z : Value} {p : Option Addr} {j j' : IntKind} {m m' : Int} (h0 : (0 ≤ m ∧ m ≤ m') ∧ m' ≤ c) [hs : SliceT P t e] [Sz P e z s b_] (hx : ev E x = some (.slice p n c)) (hy : ev E lo = some (.int j m)) (hz : ev E hi = some (.int j' m'))
    (k : ∀ v, Φ v w) : Does P (.slice t x (some lo) (some hi) none) ty E w Φ := by
  obtain ⟨⟨h1, h2⟩, h3⟩ := h0
  refine ⟨fun ρ hρ => ?_⟩
  have h4 : 0 ≤ m' := by omega
  have h5 : m.toNat ≤ m'.toNat := by omega
  have : (execOp ρ (mk (.slice t x (some lo) (some hi) none) ty)).run P w = .ok (.value (.slice (if c = m.toNat then p else p.map (·.add (m.toNat * s))) (m'.toNat - m.toNat) (c - m.toNat))) w := by
    simp only [execOp, mk, Instr.sliceAt, hρ _ _ hx, hρ _ _ hy, hρ _ _ hz, Sem.run_bind, run_underlying hs.out, Result.andThen_ok, Option.map_none, Option.map_some, Instr.slice, Instr.sliceBounds, Instr.sliceBound, asIntOf, Sem.run_pure, Option.isSome_none, run_size (P := P) (t := e)]
    have h6 : m ≤ (m'.toNat : Int) := by omega
    simp [h1, h3, h4, h6, run_size (P := P) (t := e)]
    intro hlt
    exact absurd hlt (by omega)
  rw [this]; exact k _
/-- into a block, from wherever -/
theorem does_copyIn (i : Nat) {e b o dl dc sl sc b_ s m : Nat} {z : Value} {cs news : List Value} {T : TypeId} {q : Addr} [hs : SliceT P t e] [Sz P e z s b_] (hm : Mem W0 X B L w) (hx : ev E x = some (.slice (some ⟨b, o, none⟩) dl dc)) (hy : ev E y = some (.slice (some q) sl sc))
    (hL : L[i]? = some (.blk b (.cells cs.toArray T (0, 0)))) (hmin : Nat.min sl dl = m) (hat : At (fun b => w.heap[b]?) q news) (hl : news.length = m * s) (hfit : o + news.length ≤ cs.length) (ones : ∀ u ∈ news, u.oneCell' = true)
    (k : ∀ w', Mem W0 X B (L.set i (.blk b (.cells (splice cs o news).toArray T (0, 0)))) w' → Φ (.int .i64 m) w') :
    Does P (.call { callee := .builtin .copy, args := [x, y].toArray, argTypes := [t, t].toArray }) ty E w Φ := by
  obtain ⟨w', hr, hg, hos, ht, hu, hsz, hc⟩ := run_storeCells (P := P) news _ o 0 (mem_idx hm hL) (by omega) ones
  rw [Nat.add_zero] at hg
  have hload : (loadCells q (m * s)).run P w = .ok news.toArray w := by
    have := run_loadCells_list (P := P) w q news (fun j v hj => hat.cell (fun _ _ h => h) hj)
    rwa [hl] at this
  have hz : (Builtin.copy_ #[t, t] ty #[.slice (some ⟨b, o, none⟩) dl dc, .slice (some q) sl sc]).run P w = .ok (.int .i64 m) w' := by
    simp [Builtin.copy_, run_underlying hs.out, run_size (P := P) (t := e), Builtin.lenOf, Builtin.firstCells, hmin, hload, hr, goInt]
  refine does_builtin (vs := [.slice (some ⟨b, o, none⟩) dl dc, .slice (some q) sl sc]) (w' := w') (by simp [evs, hx, hy]) (fun consts => ?_) (k w' (hm.update i hL hos ht hu (Nat.le_of_eq hsz.symm) hg (fun c hcb _ => hc c hcb)))
  simp [builtin, hz]
theorem zeroCells_one {zs : List Value} (h1 : oneCells zs = true) (n : Nat) : ∀ v ∈ (Builtin.zeroCells zs.toArray n).toList, v.oneCell' = true := by
  intro v hv
  simp only [Builtin.zeroCells, Array.toList_map, List.mem_map] at hv
  obtain ⟨i, hi, rfl⟩ := hv
  simp only [Array.toList_range, List.mem_range, List.size_toArray] at hi
  have h0 : 0 < zs.length := by
    rcases Nat.eq_zero_or_pos zs.length with h | h
    · rw [h] at hi; omega
    · exact h
  have hlt : i % zs.length < zs.length := Nat.mod_lt _ h0
  have : (zs.toArray[i % zs.toArray.size]!) = zs[i % zs.length] := by simp [hlt]
  rw [this]
  exact oneCells_mem h1 _ (List.getElem_mem hlt)
theorem does_clearIn (i : Nat) {e b o n c s b_ : Nat} {z : Value} {zs cs : List Value} {T : TypeId} [hs : SliceT P t e] [hz : ZeroC P e zs] [hb : Sz P e z s b_] (hm : Mem W0 X B L w) (hx : ev E x = some (.slice (some ⟨b, o, none⟩) n c))
    (hL : L[i]? = some (.blk b (.cells cs.toArray T (0, 0)))) (hfit : o + n * s ≤ cs.length) (hzl : zs.length = s) (ones : oneCells zs = true)
    (k : ∀ vs w', vs.length = n * s → Mem W0 X B (L.set i (.blk b (.cells (splice cs o vs).toArray T (0, 0)))) w' → Φ (.tuple #[]) w') :
    Does P (.call { callee := .builtin .clear, args := [x].toArray, argTypes := [t].toArray }) ty E w Φ := by
  obtain ⟨inf, hi, z', hz0, hz1, hz2⟩ := hz.out
  have hlen : (Builtin.zeroCells zs.toArray n).toList.length = n * s := by simp [Builtin.zeroCells, hzl]
  have hzero : (zeroValue e).run P w = .ok z' w := by
    simp [zeroValue, typeInfo, hi, hz0]
  obtain ⟨w', hr, hg, hos, ht, hu, hsz, hc⟩ := run_storeCells (P := P) (Builtin.zeroCells zs.toArray n).toList _ o 0 (mem_idx hm hL) (by rw [hlen]; omega) (zeroCells_one ones n)
  rw [Nat.add_zero] at hg
  have hrun : (Builtin.clear_ #[t] ty #[.slice (some ⟨b, o, none⟩) n c]).run P w = .ok (.tuple #[]) w' := by
    cases n with
    | zero =>
      have : w' = w := by
        have e0 : (Builtin.zeroCells zs.toArray 0).toList = [] := by simp [Builtin.zeroCells]
        rw [e0] at hr
        simp [storeCells] at hr
        exact hr.symm
      subst this
      simp [Builtin.clear_, run_underlying hs.out]
    | succ n =>
      simp [Builtin.clear_, run_underlying hs.out, hzero, hz1, hr]
  refine does_builtin (vs := [.slice (some ⟨b, o, none⟩) n c]) (w' := w') (by simp [evs, hx]) (fun consts => ?_) (k _ w' hlen (hm.update i hL hos ht hu (Nat.le_of_eq hsz.symm) hg (fun c hcb _ => hc c hcb)))
  simp [builtin, hrun]
theorem does_appIn (i : Nat) {e b n m c c' b_ s : Nat} {z : Value} {cs news : List Value} {T : TypeId} {q : Addr} [hs : SliceT P t e] [Sz P e z s b_] (hm : Mem W0 X B L w) (hx : ev E x = some (.slice (some ⟨b, 0, none⟩) n c)) (hy : ev E y = some (.slice (some q) m c'))
    (hL : L[i]? = some (.blk b (.cells cs.toArray T (0, 0)))) (hroom : n + m ≤ c) (hat : At (fun b => w.heap[b]?) q news) (hl : news.length = m * s) (hfit : n * s + news.length ≤ cs.length) (ones : ∀ u ∈ news, u.oneCell' = true)
    (k : ∀ w', Mem W0 X B (L.set i (.blk b (.cells (splice cs (n * s) news).toArray T (0, 0)))) w' → Φ (.slice (some ⟨b, 0, none⟩) (n + m) c) w') :
    Does P (.call { callee := .builtin .append, args := [x, y].toArray, argTypes := [t, t].toArray }) ty E w Φ := by
  obtain ⟨w', hr, hg, hos, ht, hu, hsz, hc⟩ := run_storeCells (P := P) news _ (n * s) 0 (mem_idx hm hL) (by omega) ones
  rw [Nat.add_zero] at hg
  have hload : (loadCells q (m * s)).run P w = .ok news.toArray w := by
    have := run_loadCells_list (P := P) w q news (fun j v hj => hat.cell (fun _ _ h => h) hj)
    rwa [hl] at this
  have hadd : (⟨b, 0, none⟩ : Addr).add (n * s) = ⟨b, n * s, none⟩ := by rw [add_add _ 0 _ rfl]; simp
  have hz : (Builtin.append_ #[t, t] ty #[.slice (some ⟨b, 0, none⟩) n c, .slice (some q) m c']).run P w = .ok (.slice (some ⟨b, 0, none⟩) (n + m) c) w' := by
    simp [Builtin.append_, run_underlying hs.out, run_size (P := P) (t := e), Builtin.lenOf, Builtin.firstCells, hroom, hload, hadd, hr]
  refine does_builtin (vs := [.slice (some ⟨b, 0, none⟩) n c, .slice (some q) m c']) (w' := w') (by simp [evs, hx, hy]) (fun consts => ?_) (k w' (hm.update i hL hos ht hu (Nat.le_of_eq hsz.symm) hg (fun c hcb _ => hc c hcb)))
  simp [builtin, hz]
theorem does_capS {e : TypeId} {a : Option Addr} {n c : Nat} (hu : P.underlying t = some (.slice e)) (hx : ev E x = some (.slice a n c)) (k : Φ (.int .i64 c) w) :
    Does P (.call { callee := .builtin .cap, args := [x].toArray, argTypes := [t].toArray }) ty E w Φ :=
  does_builtin (vs := [.slice a n c]) (by simp [evs, hx]) (by intro _; simp [builtin, Builtin.cap_, underlying, hu, goInt]) k
end
end Go.Proofs.Ytaiiiendfcglmaa.St
