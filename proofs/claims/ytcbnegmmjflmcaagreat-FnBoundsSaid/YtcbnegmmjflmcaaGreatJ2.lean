/-
  Contracts of the functions on numbers, points and small structs.
-/
import Derived.Test.YtcbnegmmjflmcaaGreatFns
import Derived.Test.YtcbnegmmjflmcaaGreatStSlc

section
set_option linter.unusedSimpArgs false
set_option linter.unusedVariables false
namespace Go.Proofs.YtcbnegmmjflmcaaGreat.St
open Go.RowKit

abbrev I (n : Int) : Value := .int .i64 n

set_option maxHeartbeats 2000000 in
theorem within_ok (n lo hi : Int) : Fun Tryz.prog 30 [I n, I lo, I hi] (.bool (dB (lo ≤ n ∧ n ≤ hi))) := by
  refine enterFun Tryz.func30 rfl Tryz.ntmps30 rfl (fun W0 w a hm h => ?_)
  repeat' (first | refine c_seq ?_ | refine c_region ?_ | refine c_nil ?_ | refine k_then ?_ | refine c_ret ?_ | ((refine st_op rfl rfl h ?_); clear h a; (first | (show Does _ (.move _) _ _ _ _; refine does_move rfl ?_) | (show Does _ (.assign _) _ _ _ _; refine does_assign rfl ?_) | (show Does _ (.pick _ _ _) _ _ _ _; (first | refine does_pickT rfl rfl ?_ | refine does_pickF rfl rfl ?_)) | (show Does _ (.binOp _ _ _ _ _) _ _ _ _; (refine does_leq rfl rfl ?_))); intro a h; (try simp only [Value.cells, splice, nqq, Nat.reduceAdd, Nat.reduceMul, Int.reduceAdd, Int.reduceToNat, Int.reduceTMod] at h)) | ((refine st_skip rfl rfl h ?_); clear h a; intro a h) | (refine st_guardD rfl rfl h ?_ ?_ <;> clear h <;> intro hc h))
  all_goals (refine k_ret1 rfl h rfl ⟨?_, hm.below⟩)
  all_goals (first | exact boolF (by omega) | exact boolI (by omega))
set_option maxHeartbeats 2000000 in
theorem clamp_ok (n lo hi : Int) : Fun Tryz.prog 36 [I n, I lo, I hi] (I ((max lo (min n hi)))) := by
  refine enterFun Tryz.func36 rfl Tryz.ntmps36 rfl (fun W0 w a hm h => ?_)
  repeat' (first | refine c_seq ?_ | refine c_region ?_ | refine c_nil ?_ | refine k_then ?_ | refine c_ret ?_ | ((refine st_op rfl rfl h ?_); clear h a; (first | (show Does _ (.move _) _ _ _ _; refine does_move rfl ?_) | (show Does _ (.assign _) _ _ _ _; refine does_assign rfl ?_) | (show Does _ (.call _) _ _ _ _; (first | refine does_max rfl rfl ?_ | refine does_min rfl rfl ?_))); intro a h; (try simp only [Value.cells, splice, nqq, Nat.reduceAdd, Nat.reduceMul, Int.reduceAdd, Int.reduceToNat, Int.reduceTMod] at h)))
  all_goals (refine k_ret1 rfl h rfl ⟨?_, hm.below⟩)
  all_goals (rfl)
set_option maxHeartbeats 2000000 in
theorem sIn_ok (n lo hi : Int) : Fun Tryz.prog 53 [I n, I lo, I hi] (.bool (dB (lo ≤ n ∧ n ≤ hi))) := by
  refine enterFun Tryz.func53 rfl Tryz.ntmps53 rfl (fun W0 w a hm h => ?_)
  repeat' (first | refine c_seq ?_ | refine c_region ?_ | refine c_nil ?_ | refine k_then ?_ | refine c_ret ?_ | ((refine st_op rfl rfl h ?_); clear h a; (first | (show Does _ (.move _) _ _ _ _; refine does_move rfl ?_) | (show Does _ (.assign _) _ _ _ _; refine does_assign rfl ?_) | (show Does _ (.pick _ _ _) _ _ _ _; (first | refine does_pickT rfl rfl ?_ | refine does_pickF rfl rfl ?_)) | (show Does _ (.binOp _ _ _ _ _) _ _ _ _; (first | refine does_leq rfl rfl ?_ | refine does_geq rfl rfl ?_))); intro a h; (try simp only [Value.cells, splice, nqq, Nat.reduceAdd, Nat.reduceMul, Int.reduceAdd, Int.reduceToNat, Int.reduceTMod] at h)) | ((refine st_skip rfl rfl h ?_); clear h a; intro a h) | (refine st_guardD rfl rfl h ?_ ?_ <;> clear h <;> intro hc h))
  all_goals (refine k_ret1 rfl h rfl ⟨?_, hm.below⟩)
  all_goals (first | exact boolF (by omega) | exact boolI (by omega))
set_option maxHeartbeats 2000000 in
theorem sClamp_ok (n lo hi : Int) (hl : lo ≤ hi) : Fun Tryz.prog 92 [I n, I lo, I hi] (I ((max lo (min n hi)))) := by
  refine enterFun Tryz.func92 rfl Tryz.ntmps92 rfl (fun W0 w a hm h => ?_)
  repeat' (first | refine c_seq ?_ | refine c_region ?_ | refine c_nil ?_ | refine k_then ?_ | refine k_thenR ?_ | refine c_skip ?_ | refine c_ret ?_ | ((refine st_op rfl rfl h ?_); clear h a; (first | (show Does _ (.move _) _ _ _ _; refine does_move rfl ?_) | (show Does _ (.assign _) _ _ _ _; refine does_assign rfl ?_) | (show Does _ (.pick _ _ _) _ _ _ _; (refine does_pickF rfl rfl ?_)) | (show Does _ (.binOp _ _ _ _ _) _ _ _ _; (first | refine does_lssF rfl rfl (by omega) ?_ | refine does_lss rfl rfl ?_ | refine does_gtr rfl rfl ?_))); intro a h; (try simp only [Value.cells, splice, nqq, Nat.reduceAdd, Nat.reduceMul, Int.reduceAdd, Int.reduceToNat, Int.reduceTMod] at h)) | ((refine c_condD h rfl ?_ ?_) <;> intro hc <;> (try (fail))))
  all_goals (refine k_ret1 rfl h rfl ⟨?_, hm.below⟩)
  all_goals (exact intE (by omega))
set_option maxHeartbeats 2000000 in
theorem sN_ok (n : Int) : Fun Tryz.prog 106 [I n] (I (max (-1000000) (min n 1000000))) := by
  refine enterFun Tryz.func106 rfl Tryz.ntmps106 rfl (fun W0 w a hm h => ?_)
  repeat' (first | refine c_seq ?_ | refine c_region ?_ | refine c_nil ?_ | refine k_then ?_ | refine c_ret ?_ | ((refine st_op rfl rfl h ?_); clear h a; (first | (show Does _ (.call _) _ _ _ _; (refine does_funM hm en92 rfl (sClamp_ok _ _ _ (by first | assumption | omega)) ?_; clear hm; intro w hm)) | (show Does _ (.move _) _ _ _ _; refine does_move rfl ?_) | (show Does _ (.assign _) _ _ _ _; refine does_assign rfl ?_)); intro a h; (try simp only [Value.cells, splice, nqq, Nat.reduceAdd, Nat.reduceMul, Int.reduceAdd, Int.reduceToNat, Int.reduceTMod] at h)))
  all_goals (refine k_ret1 rfl h rfl ⟨?_, hm.below⟩)
  all_goals (rfl)
end Go.Proofs.YtcbnegmmjflmcaaGreat.St
end

section
/-
  Operations of a drawn region that make blocks, or store into one that the region made.
-/
set_option linter.unusedSimpArgs false
set_option linter.unusedVariables false
namespace Go.Proofs.YtcbnegmmjflmcaaGreat.St
open Go.RowKit
section
variable {P : Program} {l : List Oper} {rs : List Rs} {g : Option (Nat × Bool)} {E : Env} {w W0 : World} {X : List Nat} {B : Heap} {L : List Own} {D : Al → World → Prop} {ty t : TypeId} {x y : Operand}
theorem vc_alloc {cs : List Value} [hz : ZeroC P t cs] (hg : wantedE l E g = some true) : OpVC P l rs D g (.alloc t) ty (.own (fun b => .pointer (some ⟨b, 0, none⟩)) (.cells cs.toArray t)) E w :=
  vc_own hg fun ρ _ w => by
    obtain ⟨i, hi, z, h1, h2, h3⟩ := hz.out
    have hrz : (zeroValue t).run P w = .ok z w := by simp [zeroValue, typeInfo, hi, h1]
    simp only [execOp, mk, Instr.alloc, Sem.run_bind, hrz, Result.andThen_ok]
    simp [newVar, newRow, h2]
theorem vc_box {v : Value} {cs : List Value} (hg : wantedE l E g = some true) (hx : ev E x = some v) (hc : v.cells = cs.toArray) : OpVC P l rs D g (.box t x) ty (.own (fun b => .pointer (some ⟨b, 0, none⟩)) (.cells cs.toArray t)) E w :=
  vc_own hg fun ρ hρ w => by
    simp [execOp, mk, Instr.box, newVar, newRow, hρ _ _ hx, hc]
theorem vc_store {j d b s b_ : Nat} {z v : Value} {cs vs : List Value} {T : TypeId} [Sz P t z s b_] (hg : wantedE l E g = some true) (hd : (l[j]?).bind (·.dst) = some d) (hr : rs[j]? = some (.own (fun b => .pointer (some ⟨b, 0, none⟩)) (.cells cs.toArray T)))
    (hE : Env.get E d = some (.pointer (some ⟨b, 0, none⟩))) (hx : ev E x = some (.pointer (some ⟨b, 0, none⟩))) (hy : ev E y = some v) (hv : v.cells = vs.toArray) (ho : oneCells vs = true) (hs : Nat.beq vs.length s = true) (hl : Nat.ble (0 + vs.length) cs.length = true) :
    OpVC P l rs (memD W0 X B L) g (.store t x y) ty (.upd j (.cells (splice cs 0 vs).toArray T)) E w :=
  vc_upd hg hd hr hE (fun a b h => by simpa using h) fun al i hD hi => by
    have hlt := (List.getElem?_eq_some_iff.1 hi).1
    refine does_storeO i hD hx hy (b := b) (T := T) (cs := cs) ?_ hv ho hs hl fun w' hm' => ⟨rfl, ?_⟩
    · rw [List.getElem?_append_left (by simpa using hlt)]
      simp [hi]
    · unfold memD
      rw [List.map_set]
      rwa [List.set_append_left _ _ (by simpa using hlt)] at hm'
theorem buildSlice_run {w : World} {e n bytes sz : Nat} {z : Value} {zs cs : List Value} {parts : List (Nat × Operand)} {vs : List (Nat × Value)} [hs : SliceT P t e] [hz : ZeroC P e zs] [hb : Sz P e z sz bytes]
    (hx : evp E parts = some vs) (hf : fillL (slots sz n 0) (rep n zs) vs = some cs) (hn : Nat.ble (n * sz) 1000 = true) {ρ : Operand → Value} (hρ : Sat E ρ) :
    (execOp ρ (mk (.buildSlice t n parts.toArray) ty)).run P w = .ok (.value (.slice (some ⟨w.heap.size, 0, none⟩) n n)) (w.alloc (.cells cs.toArray e)) := by
  obtain ⟨inf, hi, hzz, hsize, hbytes⟩ := sz_parts (h := hb)
  obtain ⟨i2, hi2, z2, hz2, hzc, hsz2⟩ := hz.out
  obtain rfl : inf = i2 := Option.some.inj (hi.symm.trans hi2)
  obtain rfl : z = z2 := Option.some.inj (hzz.symm.trans hz2)
  have hn' : n * sz ≤ 1000 := Nat.le_of_ble_eq_true hn
  have hsz : sz = zs.length := by omega
  have hlt : ∀ (q : List (Nat × Value)) (c c' : List Value), fillL (slots sz n 0) c q = some c' → ∀ x ∈ q, x.1 < n := by
    intro q
    induction q with
    | nil => intro c c' _ x hx; cases hx
    | cons y q ih =>
      intro c c' h x hx
      obtain ⟨i, v⟩ := y
      simp only [fillL] at h
      cases hy : (slots sz n 0)[i]? with
      | none => simp [hy] at h
      | some p =>
        obtain ⟨off, size⟩ := p
        simp only [hy] at h
        rcases List.mem_cons.1 hx with rfl | hx
        · rw [slots_get] at hy
          split at hy
          · assumption
          · cases hy
        · cases hc : (Nat.beq v.cells.toList.length size && Nat.ble (off + v.cells.toList.length) c.length) with
          | false => rw [hc] at h; simp at h
          | true => rw [hc] at h; simp only [cond_true] at h; exact ih _ _ h x hx
  have hfe : Instr.fill (fun i => some (i * sz, sz)) (rep n zs).toArray vs = some cs.toArray := by
    have hgen : ∀ (q : List (Nat × Value)) (c : Array Value), (∀ x ∈ q, x.1 < n) → Instr.fill (fun i => some (i * sz, sz)) c q = Instr.fill (fun i => (slots sz n 0)[i]?) c q := by
      intro q
      induction q with
      | nil => intro c _; rfl
      | cons y q ih =>
        intro c hq
        obtain ⟨i, v⟩ := y
        have hi' : (slots sz n 0)[i]? = some (i * sz, sz) := by
          rw [slots_get, if_pos (hq (i, v) (List.mem_cons_self ..)), Nat.zero_add]
        simp only [Instr.fill, hi']
        split
        · rfl
        · exact ih _ fun x hx => hq x (List.mem_cons_of_mem _ hx)
    rw [hgen vs _ (hlt vs _ _ hf)]
    exact fill_eq _ _ (fun _ => rfl) vs _ _ hf
  have hzero : ((Array.range (n * sz)).map fun i => z.cells[i % z.cells.size]!) = (rep n zs).toArray := by
    have := madeCells_eq zs n
    unfold madeCells at this
    rw [hzc, hsz]
    simpa using this
  have hbig : ¬ (n * sz > 2 ^ 24) := by omega
  by_cases h0 : n * sz = 0
  · have hrep : rep n zs = [] := List.eq_nil_of_length_eq_zero (by rw [rep_length, ← hsz]; exact h0)
    rw [hrep] at hfe
    simp only [execOp, mk, List.map_toArray, evp_map hρ _ _ hx, Instr.buildSlice, Sem.run_bind, run_underlying hs.out, Result.andThen_ok, run_size (P := P) (t := e)]
    simp [h0, hfe, newRow, Array.range_zero']
  · simp only [execOp, mk, List.map_toArray, evp_map hρ _ _ hx, Instr.buildSlice, Sem.run_bind, run_underlying hs.out, Result.andThen_ok, run_size (P := P) (t := e)]
    simp [h0, hbig, run_zero (P := P) (t := e), hzero, hfe, newRow]
theorem vc_buildSlice {e n bytes sz : Nat} {z : Value} {zs cs : List Value} {parts : List (Nat × Operand)} {vs : List (Nat × Value)} [hs : SliceT P t e] [hz : ZeroC P e zs] [hb : Sz P e z sz bytes] (hg : wantedE l E g = some true)
    (hx : evp E parts = some vs) (hf : fillL (slots sz n 0) (rep n zs) vs = some cs) (hn : Nat.ble (n * sz) 1000 = true) :
    OpVC P l rs D g (.buildSlice t n parts.toArray) ty (.own (fun b => .slice (some ⟨b, 0, none⟩) n n) (.cells cs.toArray e)) E w :=
  vc_own hg fun _ hρ _ => buildSlice_run hx hf hn hρ

/-! ### Slice expressions -/
variable {Φ : Value → World → Prop} {lo hi : Operand}
theorem does_sliceA {e n s b_ : Nat} {z : Value} {q : Addr} [hs : ArrT P t n e] [Sz P e z s b_] (hx : ev E x = some (.pointer (some q))) (k : Φ (.slice (some q) n n) w) : Does P (.slice t x none none none) ty E w Φ := by
  refine ⟨fun ρ hρ => ?_⟩
  have : (execOp ρ (mk (.slice t x none none none) ty)).run P w = .ok (.value (.slice (some q) n n)) w := by
    simp only [execOp, mk, Instr.sliceAt, hρ _ _ hx, Sem.run_bind, run_underlying hs.out, Result.andThen_ok, Option.map_none, Instr.sliceBounds, Instr.sureAddr, Sem.run_pure, run_size (P := P) (t := e)]
    simp [Addr.add]
  rw [this]; exact k
theorem does_sliceLo {e n c s b_ : Nat} {z : Value} {p : Option Addr} {j : IntKind} {m : Int} (h0 : 0 ≤ m ∧ m ≤ n) [hs : SliceT P t e] [Sz P e z s b_] (hx : ev E x = some (.slice p n c)) (hy : ev E lo = some (.int j m))
    (k : ∀ p', (m.toNat < n → n ≤ c → p' = p.map (·.add (m.toNat * s))) → Φ (.slice p' (n - m.toNat) (c - m.toNat)) w) : Does P (.slice t x (some lo) none none) ty E w Φ := by
  refine ⟨fun ρ hρ => ?_⟩
  have : (execOp ρ (mk (.slice t x (some lo) none none) ty)).run P w = .ok (.value (.slice (if c = m.toNat then p else p.map (·.add (m.toNat * s))) (n - m.toNat) (c - m.toNat))) w := by
    simp only [execOp, mk, Instr.sliceAt, hρ _ _ hx, hρ _ _ hy, Sem.run_bind, run_underlying hs.out, Result.andThen_ok, Option.map_none, Option.map_some, Instr.slice, Instr.sliceBounds, Instr.sliceBound, asIntOf, Sem.run_pure, Option.isSome_none, run_size (P := P) (t := e)]
    simp [h0, run_size (P := P) (t := e)]
  rw [this]
  refine k _ fun h1 h2 => ?_
  rw [if_neg (by omega)]
theorem Addr.add_add' (a : Addr) (m n : Nat) : (a.add m).add n = a.add (m + n) := by
  unfold Addr.add
  by_cases hm : m = 0
  · simp [hm]
  · by_cases hn : n = 0
    · simp [hm, hn]
    · simp [hm, hn, Nat.add_assoc]
/-- the elements of a slice from one on -/
theorem Sl.drop {α : Type} {p p' : Option Addr} {enc : α → List Value} {sz n c k : Nat} {xs : List α} (h : Sl B p enc sz xs) (hn : n = xs.length) (hc : n ≤ c) (hp : k < n → n ≤ c → p' = p.map (·.add (k * sz))) : Sl B p' enc sz (xs.drop k) := by
  intro i x hi
  rw [List.getElem?_drop] at hi
  obtain ⟨a, rfl, hat⟩ := h (k + i) x hi
  have hlt := (List.getElem?_eq_some_iff.1 hi).1
  refine ⟨a.add (k * sz), hp (by omega) hc, ?_⟩
  rw [Addr.add_add', ← Nat.add_mul]
  exact hat
/-- a block of one's own that holds structs -/
theorem blk_sl {α : Type} {enc : α → List Value} {sz b : Nat} {xs : List α} {T : TypeId} {fz : Nat × Nat} {cs : List Value} (i : Nat) (hm : Mem W0 X B L w) (hL : L[i]? = some (.blk b (.cells cs.toArray T fz))) (hcs : cs = (xs.map enc).flatten) (hf : ∀ x, (enc x).length = sz) :
    Sl (fun b => w.heap[b]?) (some ⟨b, 0, none⟩) enc sz xs :=
  sl_of_flat hf rfl fun _ => ⟨b, rfl, at_own hm hL fun j v hv => by rw [Nat.zero_add, hcs]; exact hv⟩

/-! ### Calls of function values that hold places -/
theorem does_funVP {f : FuncId} {args : List Operand} {ats : Array TypeId} {first vs cap us : List Value} {v : Value} {c : Operand} {pre : Heap → Prop} (hm : Mem W0 X B L w) (hf : ev E c = some (.func (.func f) first.toArray cap.toArray)) (hx : evs E args = some vs)
    (hus : first ++ vs ++ cap = us) [hen : En P f] (hp : pre (fun b => w.heap[b]?)) (hc : FunP P f us pre v)
    (k : ∀ w', Mem W0 X B L w' → Φ v w') : Does P (.call { callee := .value c, args := args.toArray, argTypes := ats }) ty E w Φ :=
  does_callV hen.out hf hx (by rw [hus]; exact (hc.out w hp).mono fun _ w' ⟨he, hw⟩ => ⟨v, he, k w' (hm.ext hw)⟩)
theorem does_funVPX {f : FuncId} {args : List Operand} {ats : Array TypeId} {first vs cap us : List Value} {v : Value} {c : Operand} {pre : Heap → Prop} (hf : ev E c = some (.func (.func f) first.toArray cap.toArray)) (hx : evs E args = some vs)
    (hus : first ++ vs ++ cap = us) [hen : En P f] (hp : pre (fun b => w.heap[b]?)) (hc : FunP P f us pre v)
    (k : ∀ w', Ext w w' → Φ v w') : Does P (.call { callee := .value c, args := args.toArray, argTypes := ats }) ty E w Φ :=
  does_callV hen.out hf hx (by rw [hus]; exact (hc.out w hp).mono fun _ w' ⟨he, hw⟩ => ⟨v, he, k w' hw⟩)
theorem does_funPX2 {f : FuncId} {args : List Operand} {ats : Array TypeId} {vs : List Value} {v : Value} {pre : Heap → Prop} (hen : Enters P f) (hx : evs E args = some vs) (hp : pre (fun b => w.heap[b]?)) (hc : FunP P f vs pre v)
    (k : ∀ w', Ext w w' → Φ v w') : Does P (.call { callee := .value (.func f), args := args.toArray, argTypes := ats }) ty E w Φ := does_funPX hen hx hc hp k
class MonoR (R : Value → Heap → Prop) : Prop where
  out : ∀ v H H', Heap.le H H' → R v H → R v H'
def heapP (R : Value → Heap → Prop) : Rs := .pred fun v w => R v fun b => w.heap[b]?
inductive MonoRs : List Rs → Prop
  | nil : MonoRs []
  | val {v : Value} {r : List Rs} (h : MonoRs r) : MonoRs (.val v :: r)
  | own {f : Nat → Value} {o : Obj} {r : List Rs} (h : MonoRs r) : MonoRs (.own f o :: r)
  | heapP {R : Value → Heap → Prop} {r : List Rs} [MonoR R] (h : MonoRs r) : MonoRs (heapP R :: r)
end
end Go.Proofs.YtcbnegmmjflmcaaGreat.St
end
