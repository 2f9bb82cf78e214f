/-
  Maps from strings to integers; values of interface types.
-/
import Derived.Test.YtnclbllhflinfaaJ3
import Derived.Test.YtnclbllhflinfaaStNew
import Derived.MapKept
set_option linter.unusedSimpArgs false
set_option linter.unusedVariables false
namespace Go.Proofs.Ytnclbllhflinfaa.St
open Go.RowKit
def allStr (es : List MapEntry) : Prop := ∀ e ∈ es, ∃ t v, e.key = .string t ∧ e.val = .int .i64 v
def lk : List MapEntry → ByteArray → Option Int
  | [], _ => none
  | e :: es, s => match e.key, e.val with
    | .string t, .int _ v => if t = s then some v else lk es s
    | _, _ => lk es s
theorem sameNow_str (s t : ByteArray) : Instr.sameNow .string (.string s) (.string t) = some (decide (s = t)) := by
  have h : (s == t) = decide (s = t) := by
    rw [Bool.eq_iff_iff, MapKept.bytes_beq]
    simp
  simp only [Instr.sameNow, h]
theorem findNow_lk {s : ByteArray} : ∀ (es : List MapEntry) (i : Nat), allStr es → match lk es s with
    | some v => ∃ j, Instr.findNow .string (.string s) es i = some (some (j, .int .i64 v))
    | none => Instr.findNow .string (.string s) es i = some none
  | [], i, _ => by simp [lk, Instr.findNow]
  | e :: es, i, h => by
    obtain ⟨t, v, hk, hv⟩ := h e (List.mem_cons_self ..)
    have ih := findNow_lk es (i + 1) (s := s) fun e' he' => h e' (List.mem_cons_of_mem _ he')
    simp only [lk, hk, hv, Instr.findNow, sameNow_str]
    by_cases hts : t = s
    · subst hts
      simp
    · have : ¬ s = t := fun e => hts e.symm
      simpa [hts, this] using ih
theorem lk_push : ∀ (es : List MapEntry) (t : ByteArray) (v : Int) (b : Nat) (s : ByteArray), allStr es → lk (es ++ [⟨.string t, .int .i64 v, b⟩]) s = match lk es s with | some u => some u | none => if t = s then some v else none
  | [], t, v, b, s, _ => by simp [lk]
  | e :: es, t, v, b, s, h => by
    obtain ⟨t', v', hk, hv⟩ := h e (List.mem_cons_self ..)
    have ih := lk_push es t v b s fun e' he' => h e' (List.mem_cons_of_mem _ he')
    simp only [List.cons_append, lk, hk, hv, ih]
    split
    · rename_i hts
      simp
    · rfl
/-- an object that is a map of strings, read as a function -/
structure MapS (o : Obj) (f : ByteArray → Option Int) : Prop where
  out : ∃ es clk, o = .map es clk ∧ allStr es.toList ∧ ∀ s, lk es.toList s = f s
theorem MapS.new : MapS (.map #[] 0) (fun _ => none) := ⟨#[], 0, rfl, fun e he => by simp at he, fun s => rfl⟩
section
variable {P : Program} {E : Env} {w W0 : World} {X : List Nat} {B : Heap} {L : List Own} {Φ : Value → World → Prop} {ty t kt et : TypeId} {x y z : Operand}
theorem run_checkStr (hk : P.underlying kt = some .string) (e : Bool) (s : ByteArray) : (Instr.checkKey e 10000 kt (.string s)).run P w = .ok () w :=
  MapKept.run_checkKey (d := .string) (k := .string s) hk (by simp [MapKept.IsKey]) e 9999
theorem run_lookup {s : ByteArray} {b s_ b_ : Nat} {o : Obj} {f : ByteArray → Option Int} (hu : P.underlying t = some (.map kt et)) (hk : P.underlying kt = some .string) [hz : Sz P et (.int .i64 0) s_ b_] (hb : w.heap[b]? = some o) (hM : MapS o f) (c : Bool) :
    (Instr.lookup t (.map (some b)) (.string s) c).run P w = .ok (if c then .tuple #[.int .i64 ((f s).getD 0), .bool (f s).isSome] else .int .i64 ((f s).getD 0)) w := by
  obtain ⟨es, clk, rfl, ha, hf⟩ := hM.out
  have h := findNow_lk es.toList 0 (s := s) ha
  have hf' := hf s
  have hz' : (zeroValue et).run P w = .ok (.int .i64 0) w := run_zero (P := P) (t := et)
  cases hl : lk es.toList s with
  | some v =>
    rw [hl] at h hf'
    obtain ⟨j, hj⟩ := h
    rw [← hf']
    simp only [Instr.lookup, Sem.run_bind, run_underlying hu, Result.andThen_ok, run_get hb rfl, Sem.run_pure, run_checkStr hk, Instr.findKey, run_underlying hk, hj]
    cases c <;> rfl
  | none =>
    rw [hl] at h hf'
    simp only at h
    rw [← hf']
    simp only [Instr.lookup, Sem.run_bind, run_underlying hu, Result.andThen_ok, run_get hb rfl, Sem.run_pure, run_checkStr hk, Instr.findKey, run_underlying hk, h, hz']
    cases c <;> rfl
theorem does_lookupY {s : ByteArray} {b s_ b_ : Nat} {o : Obj} {f : ByteArray → Option Int} (hu : P.underlying t = some (.map kt et)) (hk : P.underlying kt = some .string) [hz : Sz P et (.int .i64 0) s_ b_] (hb : w.heap[b]? = some o) (hM : MapS o f)
    (hx : ev E x = some (.map (some b))) (hy : ev E y = some (.string s)) (k : Φ (.tuple [.int .i64 ((f s).getD 0), .bool (f s).isSome].toArray) w) : Does P (.lookup t x y true) ty E w Φ := by
  refine ⟨fun ρ hρ => ?_⟩
  have : (execOp ρ (mk (.lookup t x y true) ty)).run P w = .ok (.value (.tuple [.int .i64 ((f s).getD 0), .bool (f s).isSome].toArray)) w := by
    simp only [execOp, mk, hρ _ _ hx, hρ _ _ hy, Sem.run_bind, run_lookup hu hk hb hM, Result.andThen_ok, Sem.run_pure, if_true]
  rw [this]; exact k
theorem does_lookupN {s : ByteArray} {b s_ b_ : Nat} {o : Obj} {f : ByteArray → Option Int} (hu : P.underlying t = some (.map kt et)) (hk : P.underlying kt = some .string) [hz : Sz P et (.int .i64 0) s_ b_] (hb : w.heap[b]? = some o) (hM : MapS o f)
    (hx : ev E x = some (.map (some b))) (hy : ev E y = some (.string s)) (k : Φ (.int .i64 ((f s).getD 0)) w) : Does P (.lookup t x y false) ty E w Φ := by
  refine ⟨fun ρ hρ => ?_⟩
  have : (execOp ρ (mk (.lookup t x y false) ty)).run P w = .ok (.value (.int .i64 ((f s).getD 0))) w := by
    simp only [execOp, mk, hρ _ _ hx, hρ _ _ hy, Sem.run_bind, run_lookup hu hk hb hM, Result.andThen_ok, Sem.run_pure]
    rfl
  rw [this]; exact k
theorem does_lookupYs {s : ByteArray} {v : Int} {b s_ b_ : Nat} {o : Obj} {f : ByteArray → Option Int} (hf : f s = some v) (hu : P.underlying t = some (.map kt et)) (hk : P.underlying kt = some .string) [hz : Sz P et (.int .i64 0) s_ b_] (hb : w.heap[b]? = some o) (hM : MapS o f)
    (hx : ev E x = some (.map (some b))) (hy : ev E y = some (.string s)) (k : Φ (.tuple [.int .i64 v, .bool true].toArray) w) : Does P (.lookup t x y true) ty E w Φ :=
  does_lookupY hu hk hb hM hx hy (by rw [hf]; exact k)
theorem does_lookupYn {s : ByteArray} {b s_ b_ : Nat} {o : Obj} {f : ByteArray → Option Int} (hf : f s = none) (hu : P.underlying t = some (.map kt et)) (hk : P.underlying kt = some .string) [hz : Sz P et (.int .i64 0) s_ b_] (hb : w.heap[b]? = some o) (hM : MapS o f)
    (hx : ev E x = some (.map (some b))) (hy : ev E y = some (.string s)) (k : Φ (.tuple [.int .i64 0, .bool false].toArray) w) : Does P (.lookup t x y true) ty E w Φ :=
  does_lookupY hu hk hb hM hx hy (by rw [hf]; exact k)
theorem does_lookupNs {s : ByteArray} {v : Int} {b s_ b_ : Nat} {o : Obj} {f : ByteArray → Option Int} (hf : f s = some v) (hu : P.underlying t = some (.map kt et)) (hk : P.underlying kt = some .string) [hz : Sz P et (.int .i64 0) s_ b_] (hb : w.heap[b]? = some o) (hM : MapS o f)
    (hx : ev E x = some (.map (some b))) (hy : ev E y = some (.string s)) (k : Φ (.int .i64 v) w) : Does P (.lookup t x y false) ty E w Φ :=
  does_lookupN hu hk hb hM hx hy (by rw [hf]; exact k)
theorem does_makeMap (hm : Mem W0 X B L w) (k : ∀ b w', Mem W0 X B (.blk b (.map #[] 0) :: L) w' → Φ (.map (some b)) w') : Does P (.makeMap t none) ty E w Φ := by
  refine ⟨fun ρ hρ => ?_⟩
  have : (execOp ρ (mk (.makeMap t none) ty)).run P w = .ok (.value (.map (some w.heap.size))) (w.alloc (.map #[] 0)) := by
    simp [execOp, mk, Instr.makeMap]
  rw [this]; exact k _ _ (hm.alloc _)
/-- a new key -/
theorem does_mapNew (i : Nat) {s : ByteArray} {v : Int} {b : Nat} {o : Obj} {f : ByteArray → Option Int} (hm : Mem W0 X B L w) (hu : P.underlying t = some (.map kt et)) (hk : P.underlying kt = some .string) (hx : ev E x = some (.map (some b))) (hy : ev E y = some (.string s)) (hz : ev E z = some (.int .i64 v))
    (hL : L[i]? = some (.blk b o)) (hM : MapS o f) (hf : f s = none) (k : ∀ o' w', MapS o' (fun s' => if s' = s then some v else f s') → Mem W0 X B (L.set i (.blk b o')) w' → Φ undef w') : Does P (.mapUpdate t x y z) ty E w Φ := by
  refine ⟨fun ρ hρ => ?_⟩
  have hb := mem_idx hm hL
  obtain ⟨es, clk, rfl, ha, hfs⟩ := hM.out
  have h := findNow_lk es.toList 0 (s := s) ha
  rw [hfs, hf] at h
  simp only at h
  simp only [Own.holds] at hb
  have : (execOp ρ (mk (.mapUpdate t x y z) ty)).run P w = .ok .skip { w with heap := w.heap.setIfInBounds b (.map (es.push ⟨.string s, .int .i64 v, clk⟩) (clk + 1)) } := by
    simp only [execOp, mk, hρ _ _ hx, hρ _ _ hy, hρ _ _ hz, Instr.mapUpdate, Sem.run_bind, run_underlying hu, Result.andThen_ok, run_get hb rfl, run_checkStr hk, Instr.findKey, run_underlying hk, h, Sem.run_pure, run_set _ hb rfl]
  rw [this]
  refine k _ _ ⟨_, _, rfl, ?_, fun s' => ?_⟩ (next_mem i hm hL)
  · intro e he
    rw [Array.toList_push] at he
    rcases List.mem_append.1 he with he | he
    · exact ha e he
    · obtain rfl := List.mem_singleton.1 he
      exact ⟨s, v, rfl, rfl⟩
  · rw [Array.toList_push, lk_push _ _ _ _ _ ha, hfs]
    by_cases hs : s' = s
    · subst hs; simp [hf]
    · have : ¬ s = s' := fun e => hs e.symm
      simp only [this, hs, if_false]
      cases f s' <;> rfl
/-- a block of one's own that is only read from now on -/
theorem Mem.freezeB {b : Nat} {o : Obj} (hm : Mem W0 X B (.blk b o :: L) w) : ∃ B', Heap.le B B' ∧ B' b = some o ∧ Mem W0 X B' L w := by
  have hb := hm.own _ (List.mem_cons_self ..)
  have hB0 := hm.apart _ (List.mem_cons_self ..) b rfl
  have hd := hm.drop
  have hnd := hm.nodup
  let N : Heap := fun k => if k = b then some o else none
  refine ⟨joinH B N, le_joinL B N, by simp [joinH, hB0, N], ⟨hd.os, hd.tape, hd.output, hd.size, hd.block, fun k o' h => ?_, hd.own, hd.fresh, fun x hx k hk => ?_, hd.nodup⟩⟩
  · unfold joinH at h
    split at h
    · rename_i o2 ho2
      cases h
      exact hd.base k _ ho2
    · simp only [N] at h
      split at h
      · subst_vars; cases h; exact hb
      · cases h
  · have hne : k ≠ b := fun e => by
      subst e
      simp only [List.filterMap_cons, Own.dom] at hnd
      exact (List.nodup_cons.1 hnd).1 (List.mem_filterMap.2 ⟨x, hx, hk⟩)
    simp [joinH, hd.apart x hx k hk, N, hne]
theorem Mem.newB {b i : Nat} {o : Obj} (hm : Mem W0 [] B L w) (hL : L[i]? = some (.blk b o)) : newHeap W0 w b = some o := by
  have hb := mem_idx hm hL
  have h1 : W0.heap.size ≤ b := by
    rcases hm.fresh _ (List.mem_of_getElem? hL) b rfl with h | h
    · exact h
    · simp at h
  have : ¬ b < W0.heap.size := by omega
  simp only [newHeap, this, if_false]
  exact hb
/-! ### Values of interface types -/
theorem does_mkIface {v : Value} {d : TypeDesc} (hu : P.underlying t = some d) (hd : (match d with | .interface _ => true | _ => false) = false) (hx : ev E x = some v) (k : Φ (.iface t v) w) : Does P (.makeInterface t x) ty E w Φ := by
  refine ⟨fun ρ hρ => ?_⟩
  have : (execOp ρ (mk (.makeInterface t x) ty)).run P w = .ok (.value (.iface t v)) w := by
    cases d <;> first | (cases hd; done) | simp [execOp, mk, Instr.makeInterface, hρ _ _ hx, run_underlying hu]
  rw [this]; exact k
theorem does_assertY {v : Value} {d : TypeDesc} {xt : TypeId} (hu : P.underlying t = some d) (hd : (match d with | .interface _ => true | _ => false) = false) (hx : ev E x = some (.iface t v)) (k : Φ (.tuple [v, .bool true].toArray) w) : Does P (.typeAssert x xt t true) ty E w Φ := by
  refine ⟨fun ρ hρ => ?_⟩
  have : (execOp ρ (mk (.typeAssert x xt t true) ty)).run P w = .ok (.value (.tuple [v, .bool true].toArray)) w := by
    cases d <;> first | (cases hd; done) | simp [execOp, mk, Instr.typeAssert, hρ _ _ hx, run_underlying hu]
  rw [this]; exact k
theorem does_assertN {v z : Value} {d : TypeDesc} {xt u s_ b_ : Nat} (hu : P.underlying t = some d) (hd : (match d with | .interface _ => true | _ => false) = false) (hx : ev E x = some (.iface u v)) (hne : Nat.beq u t = false) [hz : Sz P t z s_ b_] (k : Φ (.tuple [z, .bool false].toArray) w) : Does P (.typeAssert x xt t true) ty E w Φ := by
  have hut : ¬ u = t := fun e => by rw [e, Nat.beq_refl] at hne; cases hne
  refine ⟨fun ρ hρ => ?_⟩
  have : (execOp ρ (mk (.typeAssert x xt t true) ty)).run P w = .ok (.value (.tuple [z, .bool false].toArray)) w := by
    cases d <;> first | (cases hd; done) | simp [execOp, mk, Instr.typeAssert, hρ _ _ hx, run_underlying hu, hut, run_zero (P := P) (t := t)]
  rw [this]; exact k
end
end Go.Proofs.Ytnclbllhflinfaa.St
