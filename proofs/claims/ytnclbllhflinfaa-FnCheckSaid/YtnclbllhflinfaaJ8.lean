/-
  Regions that draw their order, walked with what only reads taken first, in the worlds in which named blocks hold.
-/
import Derived.Test.YtnclbllhflinfaaStOwn
import Derived.Test.YtnclbllhflinfaaJ5
import Derived.OrdersHeld
import Derived.RegionTactic
import Derived.Test.YtnclbllhflinfaaStIns
import Derived.Test.YtnclbllhflinfaaJ2
import Derived.Laws.Cover3

section
set_option linter.unusedSimpArgs false
set_option linter.unusedVariables false
namespace Go.Proofs.Ytnclbllhflinfaa.St
open Go.RowKit
/-- an operation that hands over a value or stops, and calls nothing -/
def quietOp : Op → Bool
  | .move _ | .assign _ | .pick _ _ _ | .load _ _ | .fieldAddr _ _ _ | .field _ _ _ | .binOp _ _ _ _ _ | .unOp _ _ _ | .index _ _ _ | .indexAddr _ _ _ | .convert _ _ _ | .build _ _ | .extract _ _ | .slice _ _ _ _ _ | .makeFunc _ _ _ | .lookup _ _ _ _ => true
  | _ => false
theorem val_of {P : Program} {s : Sem Value} {w : World} {n : Next} {w' : World} (h : (do pure (.value (← s)) : Sem Next).run P w = .ok n w') : ∃ v, n = .value v := by
  simp only [Sem.run_bind] at h
  cases hs : Sem.run P s w with
  | ok v w2 =>
    rw [hs] at h
    simp only [Result.andThen_ok, Sem.run_pure, Result.ok.injEq] at h
    exact ⟨v, h.1.symm⟩
  | halt x w2 =>
    rw [hs] at h
    simp only [Result.andThen] at h
    cases h
theorem quiet_val {P : Program} {op : Op} {ty : TypeId} {ρ : Operand → Value} {w w' : World} {n : Next} (hq : quietOp op = true) (h : (execOp ρ (mk op ty)).run P w = .ok n w') : ∃ v, n = .value v := by
  cases op <;> first | cases hq | skip
  all_goals
    simp only [execOp, mk] at h
    first
      | exact val_of h
      | (simp only [Sem.run_pure, Result.ok.injEq] at h; exact ⟨_, h.1.symm⟩)
      | (simp only [Sem.run_bind, Sem.run_pure] at h
         generalize Sem.run P _ w = r at h
         cases r with
         | ok b w2 => simp only [Result.andThen_ok, Result.ok.injEq] at h; exact ⟨_, h.1.symm⟩
         | halt x w2 => simp only [Result.andThen] at h; cases h)
theorem does_quiet {P : Program} {op : Op} {ty : TypeId} {E : Env} {w : World} {v : Value} {ρ : Operand → Value} (hq : quietOp op = true) (hρ : Sat E ρ) (h : Does P op ty E w (fun v' w' => v' = v ∧ w' = w)) : (execOp ρ (mk op ty)).run P w = .ok (.value v) w := by
  have := h.out ρ hρ
  cases hr : (execOp ρ (mk op ty)).run P w with
  | ok n w' =>
    rw [hr] at this
    obtain ⟨u, rfl⟩ := quiet_val hq hr
    obtain ⟨rfl, rfl⟩ := this
    rfl
  | halt x w' => rw [hr] at this; simp only [upon] at this
section
variable {P : Program} {K : Act → World → Prop} {a : Act} {w W0 : World} {X : List Nat} {B : Heap} {L Ls : List Own} {l : List Oper} {E : Env} {n fuel : Nat} {listed : Array Bool} {d : Nat} {op : Op} {ty : TypeId} {pos : String} {af : Array Edge} {g : Option (Nat × Bool)} {S : World → Prop}
theorem Mem.pull1 {a x : Own} {L : List Own} (hm : Mem W0 X B (a :: x :: L) w) : Mem W0 X B (x :: a :: L) w := hm.perm (List.Perm.swap _ _ _)
theorem Mem.pull2 {a b x : Own} {L : List Own} (hm : Mem W0 X B (a :: b :: x :: L) w) : Mem W0 X B (x :: a :: b :: L) w := hm.perm (List.perm_middle (l₁ := [a, b]))
theorem Mem.pull3 {a b c x : Own} {L : List Own} (hm : Mem W0 X B (a :: b :: c :: x :: L) w) : Mem W0 X B (x :: a :: b :: c :: L) w := hm.perm (List.perm_middle (l₁ := [a, b, c]))
theorem Mem.pull4 {a b c d x : Own} {L : List Own} (hm : Mem W0 X B (a :: b :: c :: d :: x :: L) w) : Mem W0 X B (x :: a :: b :: c :: d :: L) w := hm.perm (List.perm_middle (l₁ := [a, b, c, d]))
abbrev nQ (K : Act → World → Prop) : Exit → Act → World → Prop := fun e a w => e = .normal ∧ K a w
structure HW (P : Program) (l : List Oper) (K : Act → World → Prop) (S : World → Prop) (fuel : Nat) (listed : Array Bool) (a : Act) (w : World) : Prop where
  out : wpAnyH P .any l.toArray (nQ K) S fuel listed a w
structure HO (P : Program) (l : List Oper) (K : Act → World → Prop) (S : World → Prop) (fuel : Nat) (listed : Array Bool) (i : Nat) (a : Act) (w : World) : Prop where
  out : wpOp P l.toArray (nQ K) i (fun a' w' => S w' ∧ wpAnyH P .any l.toArray (nQ K) S fuel (listed.setIfInBounds i true) a' w') a w
theorem hw_region {Q : Exit → Act → World → Prop} {id : Nat} (Ls : List Own) (hmix : P.follows .mixedOrders = true) (hm : Mem W0 X B L w) (k : ∀ w', Mem W0 X B L w' → HW P l (fun a w => Cont Q .normal a w) (Mem W0 X B Ls) l.length (Array.replicate l.length false) a w') : CW P (Code.region id l.toArray true) Q a w := by
  refine ⟨Code.wp_mono (fun e a w q => by obtain ⟨rfl, hs⟩ := q; exact hs.out) (wp_region_any (Q := nQ (fun a w => Cont Q .normal a w)) hmix ?_)⟩
  have := wpAny_of_held _ _ _ _ (k _ (hm.ext (ext_drew w))).out
  simpa using this
theorem hw_take {v : Value} (i : Nat) (hi : l[i]? = some ⟨some d, op, ty, pos, af, g⟩) (hs : Region.noSelect l.toArray = true) (hf : Region.free .any l.toArray listed i = true) (hr : (Region.ready .any l.toArray listed).contains i = true)
    (hq : quietOp op = true) (hg : wantedE l E g = some true) (hd : Nat.blt d n = true) (h : Holds E n a) (hS : S w) (hy : ∀ w, S w → Does P op ty E w (fun v' w' => v' = v ∧ w' = w))
    (k : ∀ a', Holds ((d, v) :: E) n a' → HW P l K S fuel (listed.setIfInBounds i true) a' w) : HW P l K S (fuel + 1) listed a w := by
  refine ⟨wpAnyH_take (i := i) (oi := ⟨some d, op, ty, pos, af, g⟩) (v := v) (by simpa using hi) hs hf hr (fun _ _ _ q => by cases q.1) (.inl ⟨wanted_of h hg, fun w hw => ?_⟩) hS (k _ (h.put hd v)).out⟩
  rw [execOp_mk]
  exact does_quiet hq h.sat (hy w hw)
theorem hw_skip (i : Nat) (hi : l[i]? = some ⟨some d, op, ty, pos, af, g⟩) (hs : Region.noSelect l.toArray = true) (hf : Region.free .any l.toArray listed i = true) (hr : (Region.ready .any l.toArray listed).contains i = true)
    (hg : wantedE l E g = some false) (hd : Nat.blt d n = true) (h : Holds E n a) (hS : S w)
    (k : ∀ a', Holds ((d, undef) :: E) n a' → HW P l K S fuel (listed.setIfInBounds i true) a' w) : HW P l K S (fuel + 1) listed a w :=
  ⟨wpAnyH_take (i := i) (oi := ⟨some d, op, ty, pos, af, g⟩) (v := undef) (by simpa using hi) hs hf hr (fun _ _ _ q => by cases q.1) (.inr ⟨wanted_of h hg, rfl⟩) hS (k _ (h.put hd undef)).out⟩
theorem hw0 (hr : Region.ready .any l.toArray listed = []) (h : K a w) : HW P l K S 0 listed a w := ⟨hr, rfl, h⟩
theorem hw1 (i : Nat) (hr : Region.ready .any l.toArray listed = [i]) (h : HO P l K S fuel listed i a w) : HW P l K S (fuel + 1) listed a w :=
  ⟨wpAnyH_all hr (by simp) (fun x hx => by simp only [List.mem_singleton] at hx; subst hx; exact h.out)⟩
theorem hw2 (i j : Nat) (hr : Region.ready .any l.toArray listed = [i, j]) (h : HO P l K S fuel listed i a w) (h' : HO P l K S fuel listed j a w) : HW P l K S (fuel + 1) listed a w :=
  ⟨wpAnyH_all hr (by simp) (fun x hx => by
    rcases List.mem_cons.1 hx with rfl | hx
    · exact h.out
    · simp only [List.mem_singleton] at hx; subst hx; exact h'.out)⟩
theorem hw3 (i j k : Nat) (hr : Region.ready .any l.toArray listed = [i, j, k]) (h : HO P l K S fuel listed i a w) (h' : HO P l K S fuel listed j a w) (h'' : HO P l K S fuel listed k a w) : HW P l K S (fuel + 1) listed a w :=
  ⟨wpAnyH_all hr (by simp) (fun x hx => by
    rcases List.mem_cons.1 hx with rfl | hx
    · exact h.out
    · rcases List.mem_cons.1 hx with rfl | hx
      · exact h'.out
      · simp only [List.mem_singleton] at hx; subst hx; exact h''.out)⟩
theorem hw4 (i j k m : Nat) (hr : Region.ready .any l.toArray listed = [i, j, k, m]) (h : HO P l K S fuel listed i a w) (h' : HO P l K S fuel listed j a w) (h'' : HO P l K S fuel listed k a w) (h3 : HO P l K S fuel listed m a w) : HW P l K S (fuel + 1) listed a w :=
  ⟨wpAnyH_all hr (by simp) (fun x hx => by
    rcases List.mem_cons.1 hx with rfl | hx
    · exact h.out
    · rcases List.mem_cons.1 hx with rfl | hx
      · exact h'.out
      · rcases List.mem_cons.1 hx with rfl | hx
        · exact h''.out
        · simp only [List.mem_singleton] at hx; subst hx; exact h3.out)⟩
theorem ho_op {i : Nat} (hi : l[i]? = some ⟨some d, op, ty, pos, af, g⟩) (hg : wantedE l E g = some true) (hd : Nat.blt d n = true) (h : Holds E n a)
    (k : Does P op ty E w (fun v w' => ∀ a', Holds ((d, v) :: E) n a' → S w' ∧ HW P l K S fuel (listed.setIfInBounds i true) a' w')) : HO P l K S fuel listed i a w := by
  refine ⟨wpOp_step (o := ⟨some d, op, ty, pos, af, g⟩) (by simpa using hi) fun K hK => ?_⟩
  rw [wanted_of (o := ⟨some d, op, ty, pos, af, g⟩) h hg, if_pos rfl]
  exact oper_of_upon (upon_mono (fun v w' hv => hK _ _ ⟨(hv _ (h.put hd v)).1, (hv _ (h.put hd v)).2.out⟩) (k.out _ h.sat))
theorem ho_opn {i : Nat} (hi : l[i]? = some ⟨none, op, ty, pos, af, g⟩) (hg : wantedE l E g = some true) (h : Holds E n a)
    (k : Does P op ty E w (fun _ w' => ∀ a', Holds E n a' → S w' ∧ HW P l K S fuel (listed.setIfInBounds i true) a' w')) : HO P l K S fuel listed i a w := by
  refine ⟨wpOp_step (o := ⟨none, op, ty, pos, af, g⟩) (by simpa using hi) fun K hK => ?_⟩
  rw [wanted_of (o := ⟨none, op, ty, pos, af, g⟩) h hg, if_pos rfl]
  exact oper_of_upon (upon_mono (fun v w' hv => hK _ _ ⟨(hv _ (h.nop v)).1, (hv _ (h.nop v)).2.out⟩) (k.out _ h.sat))
end
end Go.Proofs.Ytnclbllhflinfaa.St
end

section
/-
  Slices with both bounds; copies, clearings and appends within a block; comparison with nil.
-/
set_option linter.unusedSimpArgs false
set_option linter.unusedVariables false
namespace Go.Proofs.Ytnclbllhflinfaa.St
open Go.RowKit
section
variable {P : Program} {E : Env} {w W0 : World} {X : List Nat} {B : Heap} {L : List Own} {Φ : Value → World → Prop} {ty t t' : TypeId} {x y : Operand}
theorem does_eqlNil {e : TypeId} {n c : Nat} {p : Option Addr} [hs : SliceT P t e] (hx : ev E x = some (.slice p n c)) (hy : ev E y = some (.slice none 0 0)) (k : Φ (.bool p.isNone) w) : Does P (.binOp .eql t x y t') ty E w Φ :=
  does_bin hx hy rfl (by
    have := run_equal_slice_nil (P := P) w t e p n c hs.out
    simp [binOp, this]) k
theorem does_sliceLH {lo hi : Operand} {e n c s b_ : Nat} {z : Value} {p : Option Addr} {j j' : IntKind} {m m' : Int} (h0 : (0 ≤ m ∧ m ≤ m') ∧ m' ≤ c) [hs : SliceT P t e] [Sz P e z s b_] (hx : ev E x = some (.slice p n c)) (hy : ev E lo = some (.int j m)) (hz : ev E hi = some (.int j' m'))
    (k : ∀ v, Φ v w) : Does P (.slice t x (some lo) (some hi) none) ty E w Φ := by
  obtain ⟨⟨h1, h2⟩, h3⟩ := h0
  refine ⟨fun ρ hρ => ?_⟩
  have h4 : 0 ≤ m' := by omega
  have h5 : m.toNat ≤ m'.toNat := by omega
  have : (execOp ρ (mk (.slice t x (some lo) (some hi) none) ty)).run P w = .ok (.value (.slice (if c = m.toNat then p else p.map (·.add (m.toNat * s))) (m'.toNat - m.toNat) (c - m.toNat))) w := by
    simp only [execOp, mk, Instr.sliceAt, hρ _ _ hx, hρ _ _ hy, hρ _ _ hz, Sem.run_bind, run_underlying hs.out, Result.andThen_ok, Option.map_none, Option.map_some, Instr.slice, Instr.sliceBounds, Instr.sliceBound, asIntOf, Sem.run_pure, Option.isSome_none, run_size (P := P) (t := e)]
    have h6 : m ≤ (m'.toNat : Int) := by omega
    simp [h1, h3, h4, h6, run_size (P := P) (t := e)]
    intro hlt
    exact absurd hlt (by omega)
  rw [this]; exact k _
/-- into a block, from wherever -/
theorem does_copyIn (i : Nat) {e b o dl dc sl sc b_ s m : Nat} {z : Value} {cs news : List Value} {T : TypeId} {q : Addr} [hs : SliceT P t e] [Sz P e z s b_] (hm : Mem W0 X B L w) (hx : ev E x = some (.slice (some ⟨b, o, none⟩) dl dc)) (hy : ev E y = some (.slice (some q) sl sc))
    (hL : L[i]? = some (.blk b (.cells cs.toArray T (0, 0)))) (hmin : Nat.min sl dl = m) (hat : At (fun b => w.heap[b]?) q news) (hl : news.length = m * s) (hfit : o + news.length ≤ cs.length) (ones : ∀ u ∈ news, u.oneCell' = true)
    (k : ∀ w', Mem W0 X B (L.set i (.blk b (.cells (splice cs o news).toArray T (0, 0)))) w' → Φ (.int .i64 m) w') :
    Does P (.call { callee := .builtin .copy, args := [x, y].toArray, argTypes := [t, t].toArray }) ty E w Φ := by
  obtain ⟨w', hr, hg, hos, ht, hu, hsz, hc⟩ := run_storeCells (P := P) news _ o 0 (mem_idx hm hL) (by omega) ones
  rw [Nat.add_zero] at hg
  have hload : (loadCells q (m * s)).run P w = .ok news.toArray w := by
    have := run_loadCells_list (P := P) w q news (fun j v hj => hat.cell (fun _ _ h => h) hj)
    rwa [hl] at this
  have hz : (Builtin.copy_ #[t, t] ty #[.slice (some ⟨b, o, none⟩) dl dc, .slice (some q) sl sc]).run P w = .ok (.int .i64 m) w' := by
    simp [Builtin.copy_, run_underlying hs.out, run_size (P := P) (t := e), Builtin.lenOf, Builtin.firstCells, hmin, hload, hr, goInt]
  refine does_builtin (vs := [.slice (some ⟨b, o, none⟩) dl dc, .slice (some q) sl sc]) (w' := w') (by simp [evs, hx, hy]) (fun consts => ?_) (k w' (hm.update i hL hos ht hu (Nat.le_of_eq hsz.symm) hg (fun c hcb _ => hc c hcb)))
  simp [builtin, hz]
theorem zeroCells_one {zs : List Value} (h1 : oneCells zs = true) (n : Nat) : ∀ v ∈ (Builtin.zeroCells zs.toArray n).toList, v.oneCell' = true := by
  intro v hv
  simp only [Builtin.zeroCells, Array.toList_map, List.mem_map] at hv
  obtain ⟨i, hi, rfl⟩ := hv
  simp only [Array.toList_range, List.mem_range, List.size_toArray] at hi
  have h0 : 0 < zs.length := by
    rcases Nat.eq_zero_or_pos zs.length with h | h
    · rw [h] at hi; omega
    · exact h
  have hlt : i % zs.length < zs.length := Nat.mod_lt _ h0
  have : (zs.toArray[i % zs.toArray.size]!) = zs[i % zs.length] := by simp [hlt]
  rw [this]
  exact oneCells_mem h1 _ (List.getElem_mem hlt)
theorem does_clearIn (i : Nat) {e b o n c s b_ : Nat} {z : Value} {zs cs : List Value} {T : TypeId} [hs : SliceT P t e] [hz : ZeroC P e zs] [hb : Sz P e z s b_] (hm : Mem W0 X B L w) (hx : ev E x = some (.slice (some ⟨b, o, none⟩) n c))
    (hL : L[i]? = some (.blk b (.cells cs.toArray T (0, 0)))) (hfit : o + n * s ≤ cs.length) (hzl : zs.length = s) (ones : oneCells zs = true)
    (k : ∀ vs w', vs.length = n * s → Mem W0 X B (L.set i (.blk b (.cells (splice cs o vs).toArray T (0, 0)))) w' → Φ (.tuple #[]) w') :
    Does P (.call { callee := .builtin .clear, args := [x].toArray, argTypes := [t].toArray }) ty E w Φ := by
  obtain ⟨inf, hi, z', hz0, hz1, hz2⟩ := hz.out
  have hlen : (Builtin.zeroCells zs.toArray n).toList.length = n * s := by simp [Builtin.zeroCells, hzl]
  have hzero : (zeroValue e).run P w = .ok z' w := by
    simp [zeroValue, typeInfo, hi, hz0]
  obtain ⟨w', hr, hg, hos, ht, hu, hsz, hc⟩ := run_storeCells (P := P) (Builtin.zeroCells zs.toArray n).toList _ o 0 (mem_idx hm hL) (by rw [hlen]; omega) (zeroCells_one ones n)
  rw [Nat.add_zero] at hg
  have hrun : (Builtin.clear_ #[t] ty #[.slice (some ⟨b, o, none⟩) n c]).run P w = .ok (.tuple #[]) w' := by
    cases n with
    | zero =>
      have : w' = w := by
        have e0 : (Builtin.zeroCells zs.toArray 0).toList = [] := by simp [Builtin.zeroCells]
        rw [e0] at hr
        simp [storeCells] at hr
        exact hr.symm
      subst this
      simp [Builtin.clear_, run_underlying hs.out]
    | succ n =>
      simp [Builtin.clear_, run_underlying hs.out, hzero, hz1, hr]
  refine does_builtin (vs := [.slice (some ⟨b, o, none⟩) n c]) (w' := w') (by simp [evs, hx]) (fun consts => ?_) (k _ w' hlen (hm.update i hL hos ht hu (Nat.le_of_eq hsz.symm) hg (fun c hcb _ => hc c hcb)))
  simp [builtin, hrun]
theorem does_appIn (i : Nat) {e b n m c c' b_ s : Nat} {z : Value} {cs news : List Value} {T : TypeId} {q : Addr} [hs : SliceT P t e] [Sz P e z s b_] (hm : Mem W0 X B L w) (hx : ev E x = some (.slice (some ⟨b, 0, none⟩) n c)) (hy : ev E y = some (.slice (some q) m c'))
    (hL : L[i]? = some (.blk b (.cells cs.toArray T (0, 0)))) (hroom : n + m ≤ c) (hat : At (fun b => w.heap[b]?) q news) (hl : news.length = m * s) (hfit : n * s + news.length ≤ cs.length) (ones : ∀ u ∈ news, u.oneCell' = true)
    (k : ∀ w', Mem W0 X B (L.set i (.blk b (.cells (splice cs (n * s) news).toArray T (0, 0)))) w' → Φ (.slice (some ⟨b, 0, none⟩) (n + m) c) w') :
    Does P (.call { callee := .builtin .append, args := [x, y].toArray, argTypes := [t, t].toArray }) ty E w Φ := by
  obtain ⟨w', hr, hg, hos, ht, hu, hsz, hc⟩ := run_storeCells (P := P) news _ (n * s) 0 (mem_idx hm hL) (by omega) ones
  rw [Nat.add_zero] at hg
  have hload : (loadCells q (m * s)).run P w = .ok news.toArray w := by
    have := run_loadCells_list (P := P) w q news (fun j v hj => hat.cell (fun _ _ h => h) hj)
    rwa [hl] at this
  have hadd : (⟨b, 0, none⟩ : Addr).add (n * s) = ⟨b, n * s, none⟩ := by rw [add_add _ 0 _ rfl]; simp
  have hz : (Builtin.append_ #[t, t] ty #[.slice (some ⟨b, 0, none⟩) n c, .slice (some q) m c']).run P w = .ok (.slice (some ⟨b, 0, none⟩) (n + m) c) w' := by
    simp [Builtin.append_, run_underlying hs.out, run_size (P := P) (t := e), Builtin.lenOf, Builtin.firstCells, hroom, hload, hadd, hr]
  refine does_builtin (vs := [.slice (some ⟨b, 0, none⟩) n c, .slice (some q) m c']) (w' := w') (by simp [evs, hx, hy]) (fun consts => ?_) (k w' (hm.update i hL hos ht hu (Nat.le_of_eq hsz.symm) hg (fun c hcb _ => hc c hcb)))
  simp [builtin, hz]
theorem does_capS {e : TypeId} {a : Option Addr} {n c : Nat} (hu : P.underlying t = some (.slice e)) (hx : ev E x = some (.slice a n c)) (k : Φ (.int .i64 c) w) :
    Does P (.call { callee := .builtin .cap, args := [x].toArray, argTypes := [t].toArray }) ty E w Φ :=
  does_builtin (vs := [.slice a n c]) (by simp [evs, hx]) (by intro _; simp [builtin, Builtin.cap_, underlying, hu, goInt]) k
end
end Go.Proofs.Ytnclbllhflinfaa.St
end
