/-
  Maps from strings to integers; values of interface types.
-/
import Derived.Test.YtgmonjghbjaadaaGreatDoorJ4
import Derived.Test.YtgmonjghbjaadaaGreatDoorJ10
import Derived.MapKept
import Derived.Test.YtgmonjghbjaadaaGreatDoorLOws
import Derived.Test.YtgmonjghbjaadaaGreatDoorJ3

section
set_option linter.unusedSimpArgs false
set_option linter.unusedVariables false
namespace Go.Proofs.YtgmonjghbjaadaaGreatDoor.St
open Go.RowKit
def allStr (es : List MapEntry) : Prop := ∀ e ∈ es, ∃ t v, e.key = .string t ∧ e.val = .int .i64 v
def lk : List MapEntry → ByteArray → Option Int
  | [], _ => none
  | e :: es, s => match e.key, e.val with
    | .string t, .int _ v => if t = s then some v else lk es s
    | _, _ => lk es s
theorem sameNow_str (s t : ByteArray) : Instr.sameNow .string (.string s) (.string t) = some (decide (s = t)) := by
  have h : (s == t) = decide (s = t) := by
    rw [Bool.eq_iff_iff, MapKept.bytes_beq]
    simp
  simp only [Instr.sameNow, h]
theorem findNow_lk {s : ByteArray} : ∀ (es : List MapEntry) (i : Nat), allStr es → match lk es s with
    | some v => ∃ j, Instr.findNow .string (.string s) es i = some (some (j, .int .i64 v))
    | none => Instr.findNow .string (.string s) es i = some none
  | [], i, _ => by simp [lk, Instr.findNow]
  | e :: es, i, h => by
    obtain ⟨t, v, hk, hv⟩ := h e (List.mem_cons_self ..)
    have ih := findNow_lk es (i + 1) (s := s) fun e' he' => h e' (List.mem_cons_of_mem _ he')
    simp only [lk, hk, hv, Instr.findNow, sameNow_str]
    by_cases hts : t = s
    · subst hts
      simp
    · have : ¬ s = t := fun e => hts e.symm
      simpa [hts, this] using ih
theorem lk_push : ∀ (es : List MapEntry) (t : ByteArray) (v : Int) (b : Nat) (s : ByteArray), allStr es → lk (es ++ [⟨.string t, .int .i64 v, b⟩]) s = match lk es s with | some u => some u | none => if t = s then some v else none
  | [], t, v, b, s, _ => by simp [lk]
  | e :: es, t, v, b, s, h => by
    obtain ⟨t', v', hk, hv⟩ := h e (List.mem_cons_self ..)
    have ih := lk_push es t v b s fun e' he' => h e' (List.mem_cons_of_mem _ he')
    simp only [List.cons_append, lk, hk, hv, ih]
    split
    · rename_i hts
      simp
    · rfl
/-- an object that is a map of strings, read as a function -/
structure MapS (o : Obj) (f : ByteArray → Option Int) : Prop where
  out : ∃ es clk, o = .map es clk ∧ allStr es.toList ∧ ∀ s, lk es.toList s = f s
theorem MapS.new : MapS (.map #[] 0) (fun _ => none) := ⟨#[], 0, rfl, fun e he => by simp at he, fun s => rfl⟩
section
variable {P : Program} {E : Env} {w W0 : World} {X : List Nat} {B : Heap} {L : List Own} {Φ : Value → World → Prop} {ty t kt et : TypeId} {x y z : Operand}
theorem run_checkStr (hk : P.underlying kt = some .string) (e : Bool) (s : ByteArray) : (Instr.checkKey e 10000 kt (.string s)).run P w = .ok () w :=
  MapKept.run_checkKey (d := .string) (k := .string s) hk (by simp [MapKept.IsKey]) e 9999
theorem run_lookup {s : ByteArray} {b s_ b_ : Nat} {o : Obj} {f : ByteArray → Option Int} (hu : P.underlying t = some (.map kt et)) (hk : P.underlying kt = some .string) [hz : Sz P et (.int .i64 0) s_ b_] (hb : w.heap[b]? = some o) (hM : MapS o f) (c : Bool) :
    (Instr.lookup t (.map (some b)) (.string s) c).run P w = .ok (if c then .tuple #[.int .i64 ((f s).getD 0), .bool (f s).isSome] else .int .i64 ((f s).getD 0)) w := by
  obtain ⟨es, clk, rfl, ha, hf⟩ := hM.out
  have h := findNow_lk es.toList 0 (s := s) ha
  have hf' := hf s
  have hz' : (zeroValue et).run P w = .ok (.int .i64 0) w := run_zero (P := P) (t := et)
  cases hl : lk es.toList s with
  | some v =>
    rw [hl] at h hf'
    obtain ⟨j, hj⟩ := h
    rw [← hf']
    simp only [Instr.lookup, Sem.run_bind, run_underlying hu, Result.andThen_ok, run_get hb rfl, Sem.run_pure, run_checkStr hk, Instr.findKey, run_underlying hk, hj]
    cases c <;> rfl
  | none =>
    rw [hl] at h hf'
    simp only at h
    rw [← hf']
    simp only [Instr.lookup, Sem.run_bind, run_underlying hu, Result.andThen_ok, run_get hb rfl, Sem.run_pure, run_checkStr hk, Instr.findKey, run_underlying hk, h, hz']
    cases c <;> rfl
theorem does_lookupY {s : ByteArray} {b s_ b_ : Nat} {o : Obj} {f : ByteArray → Option Int} (hu : P.underlying t = some (.map kt et)) (hk : P.underlying kt = some .string) [hz : Sz P et (.int .i64 0) s_ b_] (hb : w.heap[b]? = some o) (hM : MapS o f)
    (hx : ev E x = some (.map (some b))) (hy : ev E y = some (.string s)) (k : Φ (.tuple [.int .i64 ((f s).getD 0), .bool (f s).isSome].toArray) w) : Does P (.lookup t x y true) ty E w Φ := by
  refine ⟨fun ρ hρ => ?_⟩
  have : (execOp ρ (mk (.lookup t x y true) ty)).run P w = .ok (.value (.tuple [.int .i64 ((f s).getD 0), .bool (f s).isSome].toArray)) w := by
    simp only [execOp, mk, hρ _ _ hx, hρ _ _ hy, Sem.run_bind, run_lookup hu hk hb hM, Result.andThen_ok, Sem.run_pure, if_true]
  rw [this]; exact k
theorem does_lookupN {s : ByteArray} {b s_ b_ : Nat} {o : Obj} {f : ByteArray → Option Int} (hu : P.underlying t = some (.map kt et)) (hk : P.underlying kt = some .string) [hz : Sz P et (.int .i64 0) s_ b_] (hb : w.heap[b]? = some o) (hM : MapS o f)
    (hx : ev E x = some (.map (some b))) (hy : ev E y = some (.string s)) (k : Φ (.int .i64 ((f s).getD 0)) w) : Does P (.lookup t x y false) ty E w Φ := by
  refine ⟨fun ρ hρ => ?_⟩
  have : (execOp ρ (mk (.lookup t x y false) ty)).run P w = .ok (.value (.int .i64 ((f s).getD 0))) w := by
    simp only [execOp, mk, hρ _ _ hx, hρ _ _ hy, Sem.run_bind, run_lookup hu hk hb hM, Result.andThen_ok, Sem.run_pure]
    rfl
  rw [this]; exact k
theorem does_lookupYs {s : ByteArray} {v : Int} {b s_ b_ : Nat} {o : Obj} {f : ByteArray → Option Int} (hf : f s = some v) (hu : P.underlying t = some (.map kt et)) (hk : P.underlying kt = some .string) [hz : Sz P et (.int .i64 0) s_ b_] (hb : w.heap[b]? = some o) (hM : MapS o f)
    (hx : ev E x = some (.map (some b))) (hy : ev E y = some (.string s)) (k : Φ (.tuple [.int .i64 v, .bool true].toArray) w) : Does P (.lookup t x y true) ty E w Φ :=
  does_lookupY hu hk hb hM hx hy (by rw [hf]; exact k)
theorem does_lookupYn {s : ByteArray} {b s_ b_ : Nat} {o : Obj} {f : ByteArray → Option Int} (hf : f s = none) (hu : P.underlying t = some (.map kt et)) (hk : P.underlying kt = some .string) [hz : Sz P et (.int .i64 0) s_ b_] (hb : w.heap[b]? = some o) (hM : MapS o f)
    (hx : ev E x = some (.map (some b))) (hy : ev E y = some (.string s)) (k : Φ (.tuple [.int .i64 0, .bool false].toArray) w) : Does P (.lookup t x y true) ty E w Φ :=
  does_lookupY hu hk hb hM hx hy (by rw [hf]; exact k)
theorem does_lookupNs {s : ByteArray} {v : Int} {b s_ b_ : Nat} {o : Obj} {f : ByteArray → Option Int} (hf : f s = some v) (hu : P.underlying t = some (.map kt et)) (hk : P.underlying kt = some .string) [hz : Sz P et (.int .i64 0) s_ b_] (hb : w.heap[b]? = some o) (hM : MapS o f)
    (hx : ev E x = some (.map (some b))) (hy : ev E y = some (.string s)) (k : Φ (.int .i64 v) w) : Does P (.lookup t x y false) ty E w Φ :=
  does_lookupN hu hk hb hM hx hy (by rw [hf]; exact k)
theorem does_makeMap (hm : Mem W0 X B L w) (k : ∀ b w', Mem W0 X B (.blk b (.map #[] 0) :: L) w' → Φ (.map (some b)) w') : Does P (.makeMap t none) ty E w Φ := by
  refine ⟨fun ρ hρ => ?_⟩
  have : (execOp ρ (mk (.makeMap t none) ty)).run P w = .ok (.value (.map (some w.heap.size))) (w.alloc (.map #[] 0)) := by
    simp [execOp, mk, Instr.makeMap]
  rw [this]; exact k _ _ (hm.alloc _)
/-- a new key -/
theorem does_mapNew (i : Nat) {s : ByteArray} {v : Int} {b : Nat} {o : Obj} {f : ByteArray → Option Int} (hm : Mem W0 X B L w) (hu : P.underlying t = some (.map kt et)) (hk : P.underlying kt = some .string) (hx : ev E x = some (.map (some b))) (hy : ev E y = some (.string s)) (hz : ev E z = some (.int .i64 v))
    (hL : L[i]? = some (.blk b o)) (hM : MapS o f) (hf : f s = none) (k : ∀ o' w', MapS o' (fun s' => if s' = s then some v else f s') → Mem W0 X B (L.set i (.blk b o')) w' → Φ undef w') : Does P (.mapUpdate t x y z) ty E w Φ := by
  refine ⟨fun ρ hρ => ?_⟩
  have hb := mem_idx hm hL
  obtain ⟨es, clk, rfl, ha, hfs⟩ := hM.out
  have h := findNow_lk es.toList 0 (s := s) ha
  rw [hfs, hf] at h
  simp only at h
  simp only [Own.holds] at hb
  have : (execOp ρ (mk (.mapUpdate t x y z) ty)).run P w = .ok .skip { w with heap := w.heap.setIfInBounds b (.map (es.push ⟨.string s, .int .i64 v, clk⟩) (clk + 1)) } := by
    simp only [execOp, mk, hρ _ _ hx, hρ _ _ hy, hρ _ _ hz, Instr.mapUpdate, Sem.run_bind, run_underlying hu, Result.andThen_ok, run_get hb rfl, run_checkStr hk, Instr.findKey, run_underlying hk, h, Sem.run_pure, run_set _ hb rfl]
  rw [this]
  refine k _ _ ⟨_, _, rfl, ?_, fun s' => ?_⟩ (next_mem i hm hL)
  · intro e he
    rw [Array.toList_push] at he
    rcases List.mem_append.1 he with he | he
    · exact ha e he
    · obtain rfl := List.mem_singleton.1 he
      exact ⟨s, v, rfl, rfl⟩
  · rw [Array.toList_push, lk_push _ _ _ _ _ ha, hfs]
    by_cases hs : s' = s
    · subst hs; simp [hf]
    · have : ¬ s = s' := fun e => hs e.symm
      simp only [this, hs, if_false]
      cases f s' <;> rfl
theorem Mem.newB {b i : Nat} {o : Obj} (hm : Mem W0 [] B L w) (hL : L[i]? = some (.blk b o)) : newHeap W0 w b = some o := by
  have hb := mem_idx hm hL
  have h1 : W0.heap.size ≤ b := by
    rcases hm.fresh _ (List.mem_of_getElem? hL) b rfl with h | h
    · exact h
    · simp at h
  have : ¬ b < W0.heap.size := by omega
  simp only [newHeap, this, if_false]
  exact hb
/-! ### Values of interface types -/
theorem does_mkIface {v : Value} {d : TypeDesc} (hu : P.underlying t = some d) (hd : (match d with | .interface _ => true | _ => false) = false) (hx : ev E x = some v) (k : Φ (.iface t v) w) : Does P (.makeInterface t x) ty E w Φ := by
  refine ⟨fun ρ hρ => ?_⟩
  have : (execOp ρ (mk (.makeInterface t x) ty)).run P w = .ok (.value (.iface t v)) w := by
    cases d <;> first | (cases hd; done) | simp [execOp, mk, Instr.makeInterface, hρ _ _ hx, run_underlying hu]
  rw [this]; exact k
theorem does_assertY {v : Value} {d : TypeDesc} {xt : TypeId} (hu : P.underlying t = some d) (hd : (match d with | .interface _ => true | _ => false) = false) (hx : ev E x = some (.iface t v)) (k : Φ (.tuple [v, .bool true].toArray) w) : Does P (.typeAssert x xt t true) ty E w Φ := by
  refine ⟨fun ρ hρ => ?_⟩
  have : (execOp ρ (mk (.typeAssert x xt t true) ty)).run P w = .ok (.value (.tuple [v, .bool true].toArray)) w := by
    cases d <;> first | (cases hd; done) | simp [execOp, mk, Instr.typeAssert, hρ _ _ hx, run_underlying hu]
  rw [this]; exact k
theorem does_assertN {v z : Value} {d : TypeDesc} {xt u s_ b_ : Nat} (hu : P.underlying t = some d) (hd : (match d with | .interface _ => true | _ => false) = false) (hx : ev E x = some (.iface u v)) (hne : Nat.beq u t = false) [hz : Sz P t z s_ b_] (k : Φ (.tuple [z, .bool false].toArray) w) : Does P (.typeAssert x xt t true) ty E w Φ := by
  have hut : ¬ u = t := fun e => by rw [e, Nat.beq_refl] at hne; cases hne
  refine ⟨fun ρ hρ => ?_⟩
  have : (execOp ρ (mk (.typeAssert x xt t true) ty)).run P w = .ok (.value (.tuple [z, .bool false].toArray)) w := by
    cases d <;> first | (cases hd; done) | simp [execOp, mk, Instr.typeAssert, hρ _ _ hx, run_underlying hu, hut, run_zero (P := P) (t := t)]
  rw [this]; exact k
end
end Go.Proofs.YtgmonjghbjaadaaGreatDoor.St
end

section
/-
  The first assignment to each name, as a map; nodes as values of their own types.
-/
set_option linter.unusedSimpArgs false
set_option linter.unusedVariables false
namespace Go.Proofs.YtgmonjghbjaadaaGreatDoor.St
open Go.RowKit
/-- the first of k assignments to a name -/
def firstA (ys : List TAssignment) : Nat → ByteArray → Option Int
  | 0, _ => none
  | k + 1, s => match firstA ys k s with
    | some v => some v
    | none => if (ys[k]?.map Prod.fst) = some s then some (k : Int) else none
theorem firstA_bd {ys : List TAssignment} : ∀ {k : Nat} {s : ByteArray} {v : Int}, firstA ys k s = some v → ∃ j : Nat, v = j ∧ j < k ∧ (ys[j]?.map Prod.fst) = some s
  | 0, s, v, h => by simp [firstA] at h
  | k + 1, s, v, h => by
    simp only [firstA] at h
    cases hf : firstA ys k s with
    | some u =>
      rw [hf] at h
      cases h
      obtain ⟨j, h1, h2, h3⟩ := firstA_bd hf
      exact ⟨j, h1, by omega, h3⟩
    | none =>
      rw [hf] at h
      simp only at h
      split at h
      · cases h
        exact ⟨k, rfl, by omega, by assumption⟩
      · cases h
structure AssignedR (ys : List TAssignment) (v : Value) (N : Heap) : Prop where
  out : ∃ b o, v = .map (some b) ∧ N b = some o ∧ MapS o (firstA ys ys.length)
instance (ys : List TAssignment) : MonoR (AssignedR ys) := ⟨fun _ _ _ hle ⟨⟨b, o, h0, h1, h2⟩⟩ => ⟨⟨b, o, h0, hle _ _ h1, h2⟩⟩⟩
set_option maxHeartbeats 4000000 in
theorem assigned_ok (p q : Option Addr) (xs : List TNode) (ys : List TAssignment) (c d : Nat) (hys : ys.length ≤ 1048576) :
    FunR Tryz.prog 114 [.agg #[.slice p xs.length c, .slice q ys.length d]] (fun H => ProgH H p q xs ys) (AssignedR ys) := by
  refine enterFunR Tryz.func114 rfl Tryz.ntmps114 rfl (fun W0 w a hp hm h => ?_)
  obtain ⟨hx, hy⟩ := hp
  repeat' (first | refine c_seq ?_ | refine c_region ?_ | refine c_nil ?_ | refine k_then ?_ | refine c_block ?_ | (((refine st_op (d := 1) rfl rfl h ?_; refine does_box hm rfl rfl ?_; clear h a hm; intro b_1 w hm a h)); (try simp only [Value.cells, splice, nz, Nat.reduceAdd, Nat.reduceMul, Int.reduceAdd, Int.reduceToNat, Int.reduceTMod] at h)) | ((refine st_op rfl rfl h ?_); clear h a; (first | (show Does _ (.makeMap _ _) _ _ _ _; ((refine does_makeMap hm ?_; clear hm; intro b w hm))) | (show Does _ (.move _) _ _ _ _; refine does_move rfl ?_) | (show Does _ (.assign _) _ _ _ _; refine does_assign rfl ?_) | (show Does _ (.fieldAddr _ _ _) _ _ _ _; (refine does_fieldAddrL rfl ?_)) | (show Does _ (.load _ _) _ _ _ _; (refine zl hm rfl rfl ?_)) | (show Does _ (.call _) _ _ _ _; refine does_lenS (SliceT.out) rfl ?_)); intro a h; (try simp only [Value.cells, splice, nz, Nat.reduceAdd, Nat.reduceMul, Int.reduceAdd, Int.reduceToNat, Int.reduceTMod] at h)))
  refine c_loop (σ := Nat × Obj) (fun s a w => s.1 ≤ ys.length ∧ MapS s.2 (firstA ys s.1) ∧ Mem W0 [] (fun b => W0.heap[b]?) [.blk b s.2, .blk b_1 (.cells [.slice p xs.length c, .slice q ys.length d].toArray 53)] w ∧
    Holds [(1, ptr0 b_1), (3, .map (some b)), (10, .slice q ys.length d), (11, .int .i64 ys.length), (12, .int .i64 s.1)] _ a) (fun s => ys.length - s.1) (0, .map #[] 0)
    ⟨Nat.zero_le _, MapS.new, hm, h.keep ⟨rfl, rfl, rfl, rfl, rfl, trivial⟩⟩ ?_
  clear h hm
  rintro ⟨k, o⟩ a w ⟨hk, hM, hm, h⟩
  simp only at hk hM hm h
  by_cases hlt : k < ys.length
  · obtain ⟨q1, rfl, hat1⟩ := hy.at hlt
    have g1 : ys[k]? = some ys[k] := List.getElem?_eq_getElem hlt
    have hstep : ∀ s, firstA ys (k + 1) s = match firstA ys k s with | some v => some v | none => if ys[k].1 = s then some (k : Int) else none := fun s => by
      simp only [firstA, g1, Option.map_some, Option.some.injEq]
    cases hf : firstA ys k ys[k].1 with
    | some v =>
      repeat' (first | refine c_seq ?_ | refine c_region ?_ | refine c_nil ?_ | refine k_then ?_ | refine k_inN ?_ | refine c_skip ?_ | refine c_block ?_ | refine c_condT h rfl ?_ | refine c_condF h rfl ?_ | (((refine st_op (d := 5) rfl rfl h ?_; refine does_alloc hm ?_; clear h a hm; intro b_5 w hm a h)); (try simp only [Value.cells, splice, nz, Nat.reduceAdd, Nat.reduceMul, Int.reduceAdd, Int.reduceToNat, Int.reduceTMod] at h)) | ((first | refine st_op rfl rfl h ?_ | refine st_opn rfl h ?_); clear h a; (first | (show Does _ (.lookup _ _ _ _) _ _ _ _; ((refine does_lookupYs hf Tryz.underlying152 Tryz.underlying9 (mem_idx (i := 1) hm rfl) hM rfl rfl ?_))) | (show Does _ (.store _ _ _) _ _ _ _; ((refine zs hm rfl rfl rfl rfl rfl rfl ?_); clear hm; intro w hm; (try simp only [Value.cells, splice, nz, ns, Nat.reduceAdd, Nat.reduceMul, Int.reduceAdd, Int.reduceToNat] at hm))) | (show Does _ (.move _) _ _ _ _; refine does_move rfl ?_) | (show Does _ (.assign _) _ _ _ _; refine does_assign rfl ?_) | (show Does _ (.fieldAddr _ _ _) _ _ _ _; (refine does_fieldAddrL rfl ?_)) | (show Does _ (.load _ _) _ _ _ _; (first | refine zl hm rfl rfl ?_ | refine does_loadBA hm rfl (by assumption) rfl ?_)) | (show Does _ (.binOp _ _ _ _ _) _ _ _ _; (first | refine zlss rfl rfl ?_ | refine zadd rfl rfl ?_)) | (show Does _ (.unOp _ _ _) _ _ _ _; (refine does_not rfl ?_)) | (show Does _ (.indexAddr _ _ _) _ _ _ _; (refine ziSn rfl rfl ?_)) | (show Does _ (.extract _ _) _ _ _ _; refine does_extract rfl rfl ?_)); intro a h; (try simp only [Value.cells, splice, nz, Nat.reduceAdd, Nat.reduceMul, Int.reduceAdd, Int.reduceToNat, Int.reduceTMod] at h)))
      have hMs : MapS o (firstA ys (k + 1)) := by
        have e : firstA ys (k + 1) = firstA ys k := funext fun s => by
          rw [hstep]
          cases hs : firstA ys k s with
          | some u => rfl
          | none =>
            simp only
            rw [if_neg]
            rintro rfl
            rw [hf] at hs
            cases hs
        rw [e]
        exact hM
      exact k_thenN ⟨(k + 1, o), ⟨by omega, hMs, hm.drop, h.keep ⟨rfl, rfl, rfl, rfl, rfl, trivial⟩⟩, by show ys.length - (k + 1) < ys.length - k; omega⟩
    | none =>
      repeat' (first | refine c_seq ?_ | refine c_region ?_ | refine c_nil ?_ | refine k_then ?_ | refine k_inN ?_ | refine c_skip ?_ | refine c_block ?_ | refine c_condT h rfl ?_ | (((refine st_op (d := 5) rfl rfl h ?_; refine does_alloc hm ?_; clear h a hm; intro b_5 w hm a h)); (try simp only [Value.cells, splice, nz, Nat.reduceAdd, Nat.reduceMul, Int.reduceAdd, Int.reduceToNat, Int.reduceTMod] at h)) | ((first | refine st_op rfl rfl h ?_ | refine st_opn rfl h ?_); clear h a; (first | (show Does _ (.lookup _ _ _ _) _ _ _ _; ((refine does_lookupYn hf Tryz.underlying152 Tryz.underlying9 (mem_idx (i := 1) hm rfl) hM rfl rfl ?_))) | (show Does _ (.mapUpdate _ _ _ _) _ _ _ _; ((refine does_mapNew 1 hm Tryz.underlying152 Tryz.underlying9 rfl rfl rfl rfl hM hf ?_; clear hm; intro o2 w hM2 hm; simp only [List.set_cons_succ, List.set_cons_zero] at hm))) | (show Does _ (.store _ _ _) _ _ _ _; ((refine zs hm rfl rfl rfl rfl rfl rfl ?_); clear hm; intro w hm; (try simp only [Value.cells, splice, nz, ns, Nat.reduceAdd, Nat.reduceMul, Int.reduceAdd, Int.reduceToNat] at hm))) | (show Does _ (.move _) _ _ _ _; refine does_move rfl ?_) | (show Does _ (.assign _) _ _ _ _; refine does_assign rfl ?_) | (show Does _ (.fieldAddr _ _ _) _ _ _ _; (refine does_fieldAddrL rfl ?_)) | (show Does _ (.load _ _) _ _ _ _; (first | refine zl hm rfl rfl ?_ | refine does_loadBA hm rfl (by assumption) rfl ?_)) | (show Does _ (.binOp _ _ _ _ _) _ _ _ _; (first | refine zlss rfl rfl ?_ | refine zadd rfl rfl ?_)) | (show Does _ (.unOp _ _ _) _ _ _ _; (refine does_not rfl ?_)) | (show Does _ (.indexAddr _ _ _) _ _ _ _; (refine ziSn rfl rfl ?_)) | (show Does _ (.extract _ _) _ _ _ _; refine does_extract rfl rfl ?_)); intro a h; (try simp only [Value.cells, splice, nz, Nat.reduceAdd, Nat.reduceMul, Int.reduceAdd, Int.reduceToNat, Int.reduceTMod] at h)))
      have hMs : MapS o2 (firstA ys (k + 1)) := by
        have e : firstA ys (k + 1) = fun s' => if s' = ys[k].1 then some (k : Int) else firstA ys k s' := funext fun s => by
          rw [hstep]
          by_cases hs : s = ys[k].1
          · subst hs
            simp [hf]
          · have : ¬ ys[k].1 = s := fun e => hs e.symm
            simp only [this, hs, if_false]
            cases firstA ys k s <;> rfl
        rw [e]
        exact hM2
      exact k_thenN ⟨(k + 1, o2), ⟨by omega, hMs, hm.drop, h.keep ⟨rfl, rfl, rfl, rfl, rfl, trivial⟩⟩, by show ys.length - (k + 1) < ys.length - k; omega⟩
  · obtain rfl : k = ys.length := by omega
    repeat' (first | refine c_seq ?_ | refine c_region ?_ | refine c_nil ?_ | refine k_then ?_ | refine k_thenE ?_ | refine k_inE ?_ | refine c_ret ?_ | refine c_exit ?_ | refine c_condF h rfl ?_ | ((refine st_op rfl rfl h ?_); clear h a; (first | (show Does _ (.move _) _ _ _ _; refine does_move rfl ?_) | (show Does _ (.assign _) _ _ _ _; refine does_assign rfl ?_) | (show Does _ (.binOp _ _ _ _ _) _ _ _ _; (refine zlss rfl rfl ?_))); intro a h; (try simp only [Value.cells, splice, nz, Nat.reduceAdd, Nat.reduceMul, Int.reduceAdd, Int.reduceToNat, Int.reduceTMod] at h)))
    exact k_ret1 rfl h rfl ⟨hm.below, ⟨⟨b, o, rfl, hm.newB (i := 0) rfl, hM⟩⟩⟩
end Go.Proofs.YtgmonjghbjaadaaGreatDoor.St
end
