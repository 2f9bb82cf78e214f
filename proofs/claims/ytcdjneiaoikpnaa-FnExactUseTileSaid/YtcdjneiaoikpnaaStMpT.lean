/-
  Maps whose keys are structs, from keys to integers, as a list of entries: look-ups, updates, deletions, ranges.
-/
import Derived.Test.YtcdjneiaoikpnaaStMap
import Derived.Test.YtcdjneiaoikpnaaStEq
import Derived.Maps.RangeRun
set_option linter.unusedSimpArgs false
set_option linter.unusedVariables false
namespace Go.Proofs.Ytcdjneiaoikpnaa.St
open Go.RowKit
abbrev MEnt (α : Type) : Type := α × Int × Nat
def mE {α : Type} (enc : α → List Value) (x : MEnt α) : MapEntry := ⟨.agg (enc x.1).toArray, .int .i64 x.2.1, x.2.2⟩
abbrev mObj {α : Type} (enc : α → List Value) (l : List (MEnt α)) (clk : Nat) : Obj := .map (l.map (mE enc)).toArray clk
class KeyE (P : Program) (kt : TypeId) {α : Type} (enc : α → List Value) : Prop where
  eq : ∀ (x y : α) (w : World), (Op.equal kt (.agg (enc x).toArray) (.agg (enc y).toArray)).run P w = .ok (dB (x = y)) w
  chk : ∀ (e : Bool) (x : α) (w : World), (Instr.checkKey e 10000 kt (.agg (enc x).toArray)).run P w = .ok () w
  bits : ∀ (x : α), Instr.sameBits 10000 (.agg (enc x).toArray) (.agg (enc x).toArray) = true
  und : ∃ fs, P.underlying kt = some (.struct fs)
section
variable {α : Type} [DecidableEq α]
/-- where a key stands, and its value -/
def fnd : List (MEnt α) → α → Nat → Option (Nat × Int)
  | [], _, _ => none
  | e :: l, x, i => if x = e.1 then some (i, e.2.1) else fnd l x (i + 1)
def lkT (l : List (MEnt α)) (x : α) : Option Int := (fnd l x 0).map (·.2)
theorem fnd_some : ∀ {l : List (MEnt α)} {x : α} {i j : Nat} {v : Int}, fnd l x i = some (j, v) → ∃ m b, j = i + m ∧ l[m]? = some (x, v, b)
  | [], _, _, _, _, h => by simp [fnd] at h
  | e :: l, x, i, j, v, h => by
    simp only [fnd] at h
    split at h
    · rename_i hx
      cases h
      exact ⟨0, e.2.2, rfl, by rw [hx]; rfl⟩
    · obtain ⟨m, b, h1, h2⟩ := fnd_some h
      exact ⟨m + 1, b, by omega, by simpa using h2⟩
theorem fnd_none : ∀ {l : List (MEnt α)} {x : α} {i : Nat}, fnd l x i = none ↔ ∀ e ∈ l, e.1 ≠ x
  | [], _, _ => by simp [fnd]
  | e :: l, x, i => by
    simp only [fnd]
    split
    · rename_i hx
      simp [hx]
    · rename_i hx
      rw [fnd_none]
      simp only [List.mem_cons, forall_eq_or_imp]
      exact ⟨fun h => ⟨fun e => hx e.symm, h⟩, fun h => h.2⟩
theorem lkT_of_mem {l : List (MEnt α)} (hk : (l.map (·.1)).Nodup) {e : MEnt α} (h : e ∈ l) : lkT l e.1 = some e.2.1 := by
  unfold lkT
  cases hf : fnd l e.1 0 with
  | none => exact absurd rfl (fnd_none.1 hf e h)
  | some q =>
    obtain ⟨j, v⟩ := q
    obtain ⟨m, b, _, h2⟩ := fnd_some hf
    obtain ⟨m', hm'⟩ := List.mem_iff_getElem?.1 h
    have e1 : (l.map (·.1))[m]? = some e.1 := by rw [List.getElem?_map, h2]; rfl
    have e2 : (l.map (·.1))[m']? = some e.1 := by rw [List.getElem?_map, hm']; rfl
    have hlt := (List.getElem?_eq_some_iff.1 e1).1
    have : m = m' := (List.getElem?_inj hlt hk).1 (e1.trans e2.symm)
    subst this
    have h5 : e.2.1 = v := congrArg (fun q : MEnt α => q.2.1) (Option.some.inj (hm'.symm.trans h2))
    simp [h5]
variable {P : Program} {E : Env} {w W0 : World} {X : List Nat} {B : Heap} {L : List Own} {Φ : Value → World → Prop} {ty t kt et : TypeId} {x y z : Operand} {enc : α → List Value}
theorem run_findAsking [hk : KeyE P kt enc] (s : α) : ∀ (l : List (MEnt α)) (i : Nat), (Instr.findAsking kt (.agg (enc s).toArray) (l.map (mE enc)) i).run P w = .ok ((fnd l s i).map fun q => (q.1, .int .i64 q.2)) w
  | [], i => by simp [Instr.findAsking, fnd]
  | e :: l, i => by
    have ih := run_findAsking s l (i + 1)
    simp only [List.map_cons, Instr.findAsking, mE, Sem.run_bind, hk.eq, Result.andThen_ok, fnd]
    by_cases hse : s = e.1
    · rw [bT hse, if_pos hse]
      simp
    · rw [bF hse, if_neg hse]
      simpa using ih
theorem run_findKeyT [hk : KeyE P kt enc] (s : α) (l : List (MEnt α)) : (Instr.findKey kt (.agg (enc s).toArray) (l.map (mE enc))).run P w = .ok ((fnd l s 0).map fun q => (q.1, .int .i64 q.2)) w := by
  obtain ⟨fs, hu⟩ := hk.und
  simp only [Instr.findKey, Sem.run_bind, run_underlying hu, Result.andThen_ok]
  cases l with
  | nil => simp [Instr.findNow, fnd]
  | cons e l =>
    have : Instr.findNow (.struct fs) (.agg (enc s).toArray) ((e :: l).map (mE enc)) 0 = none := by simp [Instr.findNow, Instr.sameNow]
    rw [this]
    exact run_findAsking s (e :: l) 0
theorem run_lookupT {s : α} {b clk s_ b_ : Nat} {l : List (MEnt α)} (hu : P.underlying t = some (.map kt et)) [hk : KeyE P kt enc] [hz : Sz P et (.int .i64 0) s_ b_] (hb : w.heap[b]? = some (mObj enc l clk)) (c : Bool) :
    (Instr.lookup t (.map (some b)) (.agg (enc s).toArray) c).run P w = .ok (if c then .tuple #[.int .i64 ((lkT l s).getD 0), .bool (lkT l s).isSome] else .int .i64 ((lkT l s).getD 0)) w := by
  have hz' : (zeroValue et).run P w = .ok (.int .i64 0) w := run_zero (P := P) (t := et)
  unfold lkT
  have hf := run_findKeyT (P := P) (w := w) (kt := kt) (enc := enc) s l
  cases hl : fnd l s 0 with
  | some q =>
    rw [hl] at hf
    simp only [Instr.lookup, Sem.run_bind, run_underlying hu, Result.andThen_ok, run_get hb rfl, Sem.run_pure, hk.chk, hf, Option.map_some]
    cases c <;> rfl
  | none =>
    rw [hl] at hf
    simp only [Instr.lookup, Sem.run_bind, run_underlying hu, Result.andThen_ok, run_get hb rfl, Sem.run_pure, hk.chk, hf, Option.map_none, hz']
    cases c <;> rfl
theorem does_lookupT {s : α} {b clk s_ b_ : Nat} {l : List (MEnt α)} (hu : P.underlying t = some (.map kt et)) [hk : KeyE P kt enc] [hz : Sz P et (.int .i64 0) s_ b_] (hb : w.heap[b]? = some (mObj enc l clk))
    (hx : ev E x = some (.map (some b))) (hy : ev E y = some (.agg (enc s).toArray)) (k : Φ (.tuple [.int .i64 ((lkT l s).getD 0), .bool (lkT l s).isSome].toArray) w) : Does P (.lookup t x y true) ty E w Φ := by
  refine ⟨fun ρ hρ => ?_⟩
  have : (execOp ρ (mk (.lookup t x y true) ty)).run P w = .ok (.value (.tuple [.int .i64 ((lkT l s).getD 0), .bool (lkT l s).isSome].toArray)) w := by
    simp only [execOp, mk, hρ _ _ hx, hρ _ _ hy, Sem.run_bind, run_lookupT hu hb, Result.andThen_ok, Sem.run_pure, if_true]
  rw [this]; exact k
theorem does_lookupT1 {s : α} {b clk s_ b_ : Nat} {l : List (MEnt α)} (hu : P.underlying t = some (.map kt et)) [hk : KeyE P kt enc] [hz : Sz P et (.int .i64 0) s_ b_] (hb : w.heap[b]? = some (mObj enc l clk))
    (hx : ev E x = some (.map (some b))) (hy : ev E y = some (.agg (enc s).toArray)) (k : Φ (.int .i64 ((lkT l s).getD 0)) w) : Does P (.lookup t x y false) ty E w Φ := by
  refine ⟨fun ρ hρ => ?_⟩
  have : (execOp ρ (mk (.lookup t x y false) ty)).run P w = .ok (.value (.int .i64 ((lkT l s).getD 0))) w := by
    simp only [execOp, mk, hρ _ _ hx, hρ _ _ hy, Sem.run_bind, run_lookupT hu hb, Result.andThen_ok, Sem.run_pure]
    rfl
  rw [this]; exact k
/-- a new key -/
theorem does_mapNewT (i : Nat) {s : α} {v : Int} {b clk : Nat} {l : List (MEnt α)} (hm : Mem W0 X B L w) (hu : P.underlying t = some (.map kt et)) [hk : KeyE P kt enc] (hx : ev E x = some (.map (some b))) (hy : ev E y = some (.agg (enc s).toArray)) (hz : ev E z = some (.int .i64 v))
    (hL : L[i]? = some (.blk b (mObj enc l clk))) (hf : fnd l s 0 = none) (k : ∀ w', Mem W0 X B (L.set i (.blk b (mObj enc (l ++ [(s, v, clk)]) (clk + 1)))) w' → Φ undef w') : Does P (.mapUpdate t x y z) ty E w Φ := by
  refine ⟨fun ρ hρ => ?_⟩
  have hb := mem_idx hm hL
  have h := run_findKeyT (P := P) (w := w) (kt := kt) (enc := enc) s l
  rw [hf] at h
  simp only [Own.holds] at hb
  have : (execOp ρ (mk (.mapUpdate t x y z) ty)).run P w = .ok .skip { w with heap := w.heap.setIfInBounds b (mObj enc (l ++ [(s, v, clk)]) (clk + 1)) } := by
    simp only [execOp, mk, hρ _ _ hx, hρ _ _ hy, hρ _ _ hz, Instr.mapUpdate, Sem.run_bind, run_underlying hu, Result.andThen_ok, run_get hb rfl, hk.chk, h, Option.map_none, run_set _ hb rfl, Sem.run_pure]
    simp [mE, mObj]
  rw [this]
  exact k _ (next_mem i hm hL)
/-- a key that is there -/
theorem does_mapOldT (i : Nat) {s : α} {v u : Int} {b clk j : Nat} {l : List (MEnt α)} (hm : Mem W0 X B L w) (hu : P.underlying t = some (.map kt et)) [hk : KeyE P kt enc] (hx : ev E x = some (.map (some b))) (hy : ev E y = some (.agg (enc s).toArray)) (hz : ev E z = some (.int .i64 v))
    (hL : L[i]? = some (.blk b (mObj enc l clk))) (hf : fnd l s 0 = some (j, u)) (k : ∀ w', Mem W0 X B (L.set i (.blk b (mObj enc (l.modify j fun e => (s, v, e.2.2)) clk))) w' → Φ undef w') : Does P (.mapUpdate t x y z) ty E w Φ := by
  refine ⟨fun ρ hρ => ?_⟩
  have hb := mem_idx hm hL
  have h := run_findKeyT (P := P) (w := w) (kt := kt) (enc := enc) s l
  rw [hf] at h
  obtain ⟨m, bn, hj, hlm⟩ := fnd_some hf
  rw [Nat.zero_add] at hj
  subst hj
  simp only [Own.holds] at hb
  have hold : (((((l.map (mE enc)).toArray)[j]?).map (·.key)).getD (.agg (enc s).toArray)) = .agg (enc s).toArray := by
    simp [hlm, mE]
  have hstay : (Instr.keyThatStays (((((l.map (mE enc)).toArray)[j]?).map (·.key)).getD (.agg (enc s).toArray)) (.agg (enc s).toArray)).run P w = .ok (.agg (enc s).toArray) w := by
    rw [hold]
    simp [Instr.keyThatStays, hk.bits]
  have hmod : ((l.map (mE enc)).toArray).modify j (fun e => { e with key := .agg (enc s).toArray, val := .int .i64 v }) = ((l.modify j fun e => (s, v, e.2.2)).map (mE enc)).toArray := by
    apply Array.ext_getElem?
    intro q
    simp only [Array.getElem?_modify, List.getElem?_toArray, List.getElem?_map, List.getElem?_modify]
    by_cases hjq : j = q
    · subst hjq
      simp [hlm, mE]
    · simp [hjq]
  have : (execOp ρ (mk (.mapUpdate t x y z) ty)).run P w = .ok .skip { w with heap := w.heap.setIfInBounds b (mObj enc (l.modify j fun e => (s, v, e.2.2)) clk) } := by
    simp only [execOp, mk, hρ _ _ hx, hρ _ _ hy, hρ _ _ hz, Instr.mapUpdate, Sem.run_bind, run_underlying hu, Result.andThen_ok, run_get hb rfl, hk.chk, h, Option.map_some, hstay, run_set _ hb rfl, Sem.run_pure, hmod]
  rw [this]
  exact k _ (next_mem i hm hL)
theorem does_deleteT (i : Nat) {s : α} {u : Int} {b clk j : Nat} {ats : Array TypeId} {l : List (MEnt α)} (hm : Mem W0 X B L w) (hu : P.underlying t = some (.map kt et)) [hk : KeyE P kt enc] (hx : ev E x = some (.map (some b))) (hy : ev E y = some (.agg (enc s).toArray)) (h0 : ats[0]? = some t)
    (hL : L[i]? = some (.blk b (mObj enc l clk))) (hf : fnd l s 0 = some (j, u)) (k : ∀ w', Mem W0 X B (L.set i (.blk b (mObj enc (l.eraseIdx j) clk))) w' → Φ (.tuple #[]) w') : Does P (.call { callee := .builtin .delete, args := [x, y].toArray, argTypes := ats }) ty E w Φ := by
  have hb := mem_idx hm hL
  have h := run_findKeyT (P := P) (w := w) (kt := kt) (enc := enc) s l
  rw [hf] at h
  obtain ⟨m, bn, hj, hlm⟩ := fnd_some hf
  rw [Nat.zero_add] at hj
  subst hj
  have hlt := (List.getElem?_eq_some_iff.1 hlm).1
  simp only [Own.holds] at hb
  have her : ((l.map (mE enc)).toArray).eraseIdxIfInBounds j = ((l.eraseIdx j).map (mE enc)).toArray := by
    unfold Array.eraseIdxIfInBounds
    rw [dif_pos (by simpa using hlt)]
    apply Array.ext'
    rw [Array.toList_eraseIdx]
    apply List.ext_getElem?
    intro q
    simp only [List.getElem?_map, List.getElem?_eraseIdx]
    split <;> rfl
  refine does_builtin (vs := [.map (some b), .agg (enc s).toArray]) (w' := { w with heap := w.heap.setIfInBounds b (mObj enc (l.eraseIdx j) clk) }) (by simp [evs, hx, hy]) (fun consts => ?_) (k _ (next_mem i hm hL))
  simp only [builtin, Builtin.delete_, h0, List.getElem?_toArray, List.getElem?_cons_zero, List.getElem?_cons_succ, Sem.run_bind, run_underlying hu, Result.andThen_ok, run_get hb rfl, hk.chk, h, Option.map_some, run_set _ hb rfl, Sem.run_pure, her]
end
section
variable {α : Type} {P : Program} {E : Env} {w W0 : World} {X : List Nat} {B : Heap} {L : List Own} {Φ : Value → World → Prop} {ty t kt et : TypeId} {x y z : Operand} {enc : α → List Value}
theorem does_lenMap {b clk : Nat} {ats : Array TypeId} {l : List (MEnt α)} (hu : P.underlying t = some (.map kt et)) (hb : w.heap[b]? = some (mObj enc l clk)) (hx : ev E x = some (.map (some b))) (hat : ats = [t].toArray) (k : Φ (.int .i64 l.length) w) :
    Does P (.call { callee := .builtin .len, args := [x].toArray, argTypes := ats }) ty E w Φ := by
  subst hat
  exact does_builtin (vs := [.map (some b)]) (by simp [evs, hx]) (by intro _; simp [builtin, Builtin.len_, run_underlying hu, run_get hb rfl, goInt]) k
theorem does_rangeT {b clk : Nat} {l : List (MEnt α)} (hm : Mem W0 X B L w) (hu : P.underlying t = some (.map kt et)) (hb : w.heap[b]? = some (mObj enc l clk)) (hx : ev E x = some (.map (some b))) (k : ∀ r w', Mem W0 X B (.blk r (.mapIter (some b) clk #[] clk) :: L) w' → Φ (.pointer (some ⟨r, 0, none⟩)) w') :
    Does P (.range t x) ty E w Φ := by
  refine ⟨fun ρ hρ => ?_⟩
  have : (execOp ρ (mk (.range t x) ty)).run P w = .ok (.value (.pointer (some ⟨w.heap.size, 0, none⟩))) (w.alloc (.mapIter (some b) clk #[] clk)) := by
    simp only [execOp, mk, hρ _ _ hx, Instr.range, Sem.run_bind, run_underlying hu, Result.andThen_ok, run_get hb rfl, Sem.run_pure, run_newObj_alloc]
  rw [this]
  exact k _ _ (hm.alloc _)
theorem next_memD (i : Nat) {b : Nat} {o o' : Obj} {w1 : World} (hm : Mem W0 X B L w) (hw : w1 = w ∨ w1 = w.drew) (hL : L[i]? = some (.blk b o)) : Mem W0 X B (L.set i (.blk b o')) (ChangeMaps.setBlock w1 b o') := by
  rcases hw with rfl | rfl
  · exact next_mem i hm hL
  · exact next_mem i (hm.ext (ext_drew w)) hL
theorem does_nextT (i : Nat) {b r clk : Nat} {seen : Array Nat} {l : List (MEnt α)} (hm : Mem W0 X B L w) (hb : w.heap[b]? = some (mObj enc l clk)) (hx : ev E x = some (.pointer (some ⟨r, 0, none⟩))) (hL : L[i]? = some (.blk r (.mapIter (some b) clk seen clk))) (hlt : ∀ e ∈ l, e.2.2 < clk)
    (k0 : (∀ e ∈ l, e.2.2 ∈ seen) → Φ (.tuple [.bool false].toArray) w) (k1 : ∀ e ∈ l, e.2.2 ∉ seen → ∀ w', Mem W0 X B (L.set i (.blk r (.mapIter (some b) clk (seen.push e.2.2) clk))) w' → Φ (.tuple [.bool true, .agg (enc e.1).toArray, .int .i64 e.2.1].toArray) w') :
    Does P (.next x false) ty E w Φ := by
  have hr := mem_idx hm hL
  simp only [Own.holds] at hr
  refine ⟨fun ρ hρ => ?_⟩
  have hex : execOp ρ (mk (.next x false) ty) = (do pure (.value (← Instr.next (.pointer (some ⟨r, 0, none⟩)) false ty))) := by
    simp only [execOp, mk, hρ _ _ hx]
  rw [hex]
  rcases run_next_at (P := P) w ty r b clk clk seen _ clk hr hb (fun e he => by
    simp only [List.mem_map] at he
    obtain ⟨q, hq, rfl⟩ := he
    exact hlt q hq) (Nat.le_refl _) with ⟨h0, hrun⟩ | ⟨e, he, w1, hw1, hrun⟩
  · simp only [Sem.run_bind, hrun, Result.andThen_ok, Sem.run_pure]
    refine k0 fun e he => ?_
    have h1 : leftOf ((l.map (mE enc)).toArray) seen = #[] := Array.eq_empty_of_size_eq_zero h0
    unfold leftOf at h1
    rw [Array.filter_eq_empty_iff] at h1
    have := h1 (a := mE enc e) (by simp only [List.mem_toArray, List.mem_map]; exact ⟨e, he, rfl⟩)
    simpa [mE] using this
  · simp only [Sem.run_bind, hrun, Result.andThen_ok, Sem.run_pure]
    unfold leftOf at he
    simp only [Array.toList_filter, List.mem_filter, List.mem_map] at he
    obtain ⟨⟨q, hq, rfl⟩, hns⟩ := he
    exact k1 q hq (by simpa [mE] using hns) _ (next_memD i hm hw1 hL)
theorem does_entryT {b r clk : Nat} {seen : Array Nat} {l : List (MEnt α)} {e : MEnt α} (hb : w.heap[b]? = some (mObj enc l clk)) (hx : ev E x = some (.pointer (some ⟨r, 0, none⟩))) (hr : w.heap[r]? = some (.mapIter (some b) clk (seen.push e.2.2) clk)) (he : e ∈ l) (hn : (l.map (·.2.2)).Nodup)
    (k : Φ (.tuple [.agg (enc e.1).toArray, .int .i64 e.2.1].toArray) w) : Does P (.entry x) ty E w Φ := by
  refine ⟨fun ρ hρ => ?_⟩
  have hrun := run_entry_at (P := P) w r b clk seen _ clk (mE enc e) hr hb (by simp only [List.mem_map]; exact ⟨e, he, rfl⟩) (by
    have : ((l.map (mE enc)).toArray.toList.map (·.born)) = l.map (·.2.2) := by simp [mE, Function.comp_def]
    rw [this]; exact hn)
  have : (execOp ρ (mk (.entry x) ty)).run P w = .ok (.value (.tuple [.agg (enc e.1).toArray, .int .i64 e.2.1].toArray)) w := by
    simp only [execOp, mk, hρ _ _ hx, Sem.run_bind, hrun, Result.andThen_ok, Sem.run_pure]
    rfl
  rw [this]; exact k
end
end Go.Proofs.Ytcdjneiaoikpnaa.St
