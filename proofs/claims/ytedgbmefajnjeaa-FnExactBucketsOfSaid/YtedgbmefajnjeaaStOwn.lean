/-
  Operations of a drawn region that make blocks, or store into one that the region made.
-/
import Derived.Test.YtedgbmefajnjeaaStSlc
set_option linter.unusedSimpArgs false
set_option linter.unusedVariables false
namespace Go.Proofs.Ytedgbmefajnjeaa.St
open Go.RowKit Go.Proofs.Ytedgbmefajnjeaa.Co
section
variable {P : Program} {l : List Oper} {rs : List Rs} {g : Option (Nat × Bool)} {E : Env} {w W0 : World} {X : List Nat} {B : Heap} {L : List Own} {D : Al → World → Prop} {ty t : TypeId} {x y : Operand}
theorem vc_alloc {cs : List Value} [hz : ZeroC P t cs] (hg : wantedE l E g = some true) : OpVC P l rs D g (.alloc t) ty (.own (fun b => .pointer (some ⟨b, 0, none⟩)) (.cells cs.toArray t)) E w :=
  vc_own hg fun ρ _ w => by
    obtain ⟨i, hi, z, h1, h2, h3⟩ := hz.out
    have hrz : (zeroValue t).run P w = .ok z w := by simp [zeroValue, typeInfo, hi, h1]
    simp only [execOp, mk, Instr.alloc, Sem.run_bind, hrz, Result.andThen_ok]
    simp [newVar, newRow, h2]
theorem vc_box {v : Value} {cs : List Value} (hg : wantedE l E g = some true) (hx : ev E x = some v) (hc : v.cells = cs.toArray) : OpVC P l rs D g (.box t x) ty (.own (fun b => .pointer (some ⟨b, 0, none⟩)) (.cells cs.toArray t)) E w :=
  vc_own hg fun ρ hρ w => by
    simp [execOp, mk, Instr.box, newVar, newRow, hρ _ _ hx, hc]
theorem vc_store {j d b s b_ : Nat} {z v : Value} {cs vs : List Value} {T : TypeId} [Sz P t z s b_] (hg : wantedE l E g = some true) (hd : (l[j]?).bind (·.dst) = some d) (hr : rs[j]? = some (.own (fun b => .pointer (some ⟨b, 0, none⟩)) (.cells cs.toArray T)))
    (hE : Env.get E d = some (.pointer (some ⟨b, 0, none⟩))) (hx : ev E x = some (.pointer (some ⟨b, 0, none⟩))) (hy : ev E y = some v) (hv : v.cells = vs.toArray) (ho : oneCells vs = true) (hs : Nat.beq vs.length s = true) (hl : Nat.ble (0 + vs.length) cs.length = true) :
    OpVC P l rs (memD W0 X B L) g (.store t x y) ty (.upd j (.cells (splice cs 0 vs).toArray T)) E w :=
  vc_upd hg hd hr hE (fun a b h => by simpa using h) fun al i hD hi => by
    have hlt := (List.getElem?_eq_some_iff.1 hi).1
    refine does_storeO i hD hx hy (b := b) (T := T) (cs := cs) ?_ hv ho hs hl fun w' hm' => ⟨rfl, ?_⟩
    · rw [List.getElem?_append_left (by simpa using hlt)]
      simp [hi]
    · unfold memD
      rw [List.map_set]
      rwa [List.set_append_left _ _ (by simpa using hlt)] at hm'
theorem buildSlice_run {w : World} {e n bytes sz : Nat} {z : Value} {zs cs : List Value} {parts : List (Nat × Operand)} {vs : List (Nat × Value)} [hs : SliceT P t e] [hz : ZeroC P e zs] [hb : Sz P e z sz bytes]
    (hx : evp E parts = some vs) (hf : fillL (slots sz n 0) (rep n zs) vs = some cs) (hn : Nat.ble (n * sz) 1000 = true) {ρ : Operand → Value} (hρ : Sat E ρ) :
    (execOp ρ (mk (.buildSlice t n parts.toArray) ty)).run P w = .ok (.value (.slice (some ⟨w.heap.size, 0, none⟩) n n)) (w.alloc (.cells cs.toArray e)) := by
  obtain ⟨inf, hi, hzz, hsize, hbytes⟩ := sz_parts (h := hb)
  obtain ⟨i2, hi2, z2, hz2, hzc, hsz2⟩ := hz.out
  obtain rfl : inf = i2 := Option.some.inj (hi.symm.trans hi2)
  obtain rfl : z = z2 := Option.some.inj (hzz.symm.trans hz2)
  have hn' : n * sz ≤ 1000 := Nat.le_of_ble_eq_true hn
  have hsz : sz = zs.length := by omega
  have hlt : ∀ (q : List (Nat × Value)) (c c' : List Value), fillL (slots sz n 0) c q = some c' → ∀ x ∈ q, x.1 < n := by
    intro q
    induction q with
    | nil => intro c c' _ x hx; cases hx
    | cons y q ih =>
      intro c c' h x hx
      obtain ⟨i, v⟩ := y
      simp only [fillL] at h
      cases hy : (slots sz n 0)[i]? with
      | none => simp [hy] at h
      | some p =>
        obtain ⟨off, size⟩ := p
        simp only [hy] at h
        rcases List.mem_cons.1 hx with rfl | hx
        · rw [slots_get] at hy
          split at hy
          · assumption
          · cases hy
        · cases hc : (Nat.beq v.cells.toList.length size && Nat.ble (off + v.cells.toList.length) c.length) with
          | false => rw [hc] at h; simp at h
          | true => rw [hc] at h; simp only [cond_true] at h; exact ih _ _ h x hx
  have hfe : Instr.fill (fun i => some (i * sz, sz)) (rep n zs).toArray vs = some cs.toArray := by
    have hgen : ∀ (q : List (Nat × Value)) (c : Array Value), (∀ x ∈ q, x.1 < n) → Instr.fill (fun i => some (i * sz, sz)) c q = Instr.fill (fun i => (slots sz n 0)[i]?) c q := by
      intro q
      induction q with
      | nil => intro c _; rfl
      | cons y q ih =>
        intro c hq
        obtain ⟨i, v⟩ := y
        have hi' : (slots sz n 0)[i]? = some (i * sz, sz) := by
          rw [slots_get, if_pos (hq (i, v) (List.mem_cons_self ..)), Nat.zero_add]
        simp only [Instr.fill, hi']
        split
        · rfl
        · exact ih _ fun x hx => hq x (List.mem_cons_of_mem _ hx)
    rw [hgen vs _ (hlt vs _ _ hf)]
    exact fill_eq _ _ (fun _ => rfl) vs _ _ hf
  have hzero : ((Array.range (n * sz)).map fun i => z.cells[i % z.cells.size]!) = (rep n zs).toArray := by
    have := madeCells_eq zs n
    unfold madeCells at this
    rw [hzc, hsz]
    simpa using this
  have hbig : ¬ (n * sz > 2 ^ 24) := by omega
  by_cases h0 : n * sz = 0
  · have hrep : rep n zs = [] := List.eq_nil_of_length_eq_zero (by rw [rep_length, ← hsz]; exact h0)
    rw [hrep] at hfe
    simp only [execOp, mk, List.map_toArray, evp_map hρ _ _ hx, Instr.buildSlice, Sem.run_bind, run_underlying hs.out, Result.andThen_ok, run_size (P := P) (t := e)]
    simp [h0, hfe, newRow, Array.range_zero']
  · simp only [execOp, mk, List.map_toArray, evp_map hρ _ _ hx, Instr.buildSlice, Sem.run_bind, run_underlying hs.out, Result.andThen_ok, run_size (P := P) (t := e)]
    simp [h0, hbig, run_zero (P := P) (t := e), hzero, hfe, newRow]
theorem vc_buildSlice {e n bytes sz : Nat} {z : Value} {zs cs : List Value} {parts : List (Nat × Operand)} {vs : List (Nat × Value)} [hs : SliceT P t e] [hz : ZeroC P e zs] [hb : Sz P e z sz bytes] (hg : wantedE l E g = some true)
    (hx : evp E parts = some vs) (hf : fillL (slots sz n 0) (rep n zs) vs = some cs) (hn : Nat.ble (n * sz) 1000 = true) :
    OpVC P l rs D g (.buildSlice t n parts.toArray) ty (.own (fun b => .slice (some ⟨b, 0, none⟩) n n) (.cells cs.toArray e)) E w :=
  vc_own hg fun _ hρ _ => buildSlice_run hx hf hn hρ

/-! ### Slice expressions -/
variable {Φ : Value → World → Prop} {lo hi : Operand}
theorem Addr.add_add' (a : Addr) (m n : Nat) : (a.add m).add n = a.add (m + n) := by
  unfold Addr.add
  by_cases hm : m = 0
  · simp [hm]
  · by_cases hn : n = 0
    · simp [hm, hn]
    · simp [hm, hn, Nat.add_assoc]
/-- the elements of a slice from one on -/
theorem Sl.drop {α : Type} {p p' : Option Addr} {enc : α → List Value} {sz n c k : Nat} {xs : List α} (h : Sl B p enc sz xs) (hn : n = xs.length) (hc : n ≤ c) (hp : k < n → n ≤ c → p' = p.map (·.add (k * sz))) : Sl B p' enc sz (xs.drop k) := by
  intro i x hi
  rw [List.getElem?_drop] at hi
  obtain ⟨a, rfl, hat⟩ := h (k + i) x hi
  have hlt := (List.getElem?_eq_some_iff.1 hi).1
  refine ⟨a.add (k * sz), hp (by omega) hc, ?_⟩
  rw [Addr.add_add', ← Nat.add_mul]
  exact hat
/-- a block of one's own that holds structs -/
theorem blk_sl {α : Type} {enc : α → List Value} {sz b : Nat} {xs : List α} {T : TypeId} {fz : Nat × Nat} {cs : List Value} (i : Nat) (hm : Mem W0 X B L w) (hL : L[i]? = some (.blk b (.cells cs.toArray T fz))) (hcs : cs = (xs.map enc).flatten) (hf : ∀ x, (enc x).length = sz) :
    Sl (fun b => w.heap[b]?) (some ⟨b, 0, none⟩) enc sz xs :=
  sl_of_flat hf rfl fun _ => ⟨b, rfl, at_own hm hL fun j v hv => by rw [Nat.zero_add, hcs]; exact hv⟩

/-! ### Calls of function values that hold places -/
theorem does_funVP {f : FuncId} {args : List Operand} {ats : Array TypeId} {first vs cap us : List Value} {v : Value} {c : Operand} {pre : Heap → Prop} (hm : Mem W0 X B L w) (hf : ev E c = some (.func (.func f) first.toArray cap.toArray)) (hx : evs E args = some vs)
    (hus : first ++ vs ++ cap = us) [hen : En P f] (hp : pre (fun b => w.heap[b]?)) (hc : FunP P f us pre v)
    (k : ∀ w', Mem W0 X B L w' → Φ v w') : Does P (.call { callee := .value c, args := args.toArray, argTypes := ats }) ty E w Φ :=
  does_callV hen.out hf hx (by rw [hus]; exact (hc.out w hp).mono fun _ w' ⟨he, hw⟩ => ⟨v, he, k w' (hm.ext hw)⟩)
theorem does_funVPX {f : FuncId} {args : List Operand} {ats : Array TypeId} {first vs cap us : List Value} {v : Value} {c : Operand} {pre : Heap → Prop} (hf : ev E c = some (.func (.func f) first.toArray cap.toArray)) (hx : evs E args = some vs)
    (hus : first ++ vs ++ cap = us) [hen : En P f] (hp : pre (fun b => w.heap[b]?)) (hc : FunP P f us pre v)
    (k : ∀ w', Ext w w' → Φ v w') : Does P (.call { callee := .value c, args := args.toArray, argTypes := ats }) ty E w Φ :=
  does_callV hen.out hf hx (by rw [hus]; exact (hc.out w hp).mono fun _ w' ⟨he, hw⟩ => ⟨v, he, k w' hw⟩)
theorem does_funP2 {f : FuncId} {args : List Operand} {ats : Array TypeId} {vs : List Value} {v : Value} {pre : Heap → Prop} (hm : Mem W0 X B L w) (hen : Enters P f) (hx : evs E args = some vs) (hp : pre (fun b => w.heap[b]?)) (hc : FunP P f vs pre v)
    (k : ∀ w', Mem W0 X B L w' → Φ v w') : Does P (.call { callee := .value (.func f), args := args.toArray, argTypes := ats }) ty E w Φ := does_funP hm hen hx hc hp k
theorem does_funPX2 {f : FuncId} {args : List Operand} {ats : Array TypeId} {vs : List Value} {v : Value} {pre : Heap → Prop} (hen : Enters P f) (hx : evs E args = some vs) (hp : pre (fun b => w.heap[b]?)) (hc : FunP P f vs pre v)
    (k : ∀ w', Ext w w' → Φ v w') : Does P (.call { callee := .value (.func f), args := args.toArray, argTypes := ats }) ty E w Φ := does_funPX hen hx hc hp k
class MonoR (R : Value → Heap → Prop) : Prop where
  out : ∀ v H H', Heap.le H H' → R v H → R v H'
theorem ext_le {w w' : World} (h : Ext w w') : Heap.le (fun b => w.heap[b]?) (fun b => w'.heap[b]?) := fun _ _ hb => ext_get h hb
theorem new_le (w w' : World) : Heap.le (newHeap w w') (fun b => w'.heap[b]?) := fun b o h => by
  unfold newHeap at h
  split at h
  · cases h
  · exact h
theorem does_funRX {f : FuncId} {args : List Operand} {ats : Array TypeId} {vs : List Value} {pre : Heap → Prop} {R : Value → Heap → Prop} [hR : MonoR R] (hen : Enters P f) (hx : evs E args = some vs) (hp : pre (fun b => w.heap[b]?)) (hc : FunR P f vs pre R)
    (k : ∀ v w', Ext w w' → R v (fun b => w'.heap[b]?) → Φ v w') : Does P (.call { callee := .value (.func f), args := args.toArray, argTypes := ats }) ty E w Φ :=
  does_call hen hx ((hc.out w hp).mono fun _ w' ⟨v, he, hw, hr⟩ => ⟨v, he, k v w' hw (hR.out _ _ _ (new_le w w') hr)⟩)

/-- a result of which R speaks -/
def heapP (R : Value → Heap → Prop) : Rs := .pred fun v w => R v fun b => w.heap[b]?
theorem vc_heapP {op : Op} {R : Value → Heap → Prop} (hg : wantedE l E g = some true) (h : Does P op ty E w (fun v w' => Ext w w' ∧ R v (fun b => w'.heap[b]?))) : OpVC P l rs D g op ty (heapP R) E w := ⟨.inl ⟨hg, h⟩⟩
theorem dep_heapP {E : Env} {w : World} {k : Env → Prop} {t : Nat} {R : Value → Heap → Prop} {ds : List (Nat × Rs)} (h : ∀ v, R v (fun b => w.heap[b]?) → Dep ds ((t, v) :: E) w k) : Dep ((t, heapP R) :: ds) E w k := ⟨fun v hv => (h v hv).out⟩
inductive MonoRs : List Rs → Prop
  | nil : MonoRs []
  | val {v : Value} {r : List Rs} (h : MonoRs r) : MonoRs (.val v :: r)
  | own {f : Nat → Value} {o : Obj} {r : List Rs} (h : MonoRs r) : MonoRs (.own f o :: r)
  | heapP {R : Value → Heap → Prop} {r : List Rs} [MonoR R] (h : MonoRs r) : MonoRs (heapP R :: r)
theorem monoRs {rs : List Rs} (h : MonoRs rs) : (∀ r ∈ rs, r.mono Ext) ∧ ∀ (u j : Nat) (o : Obj), rs[u]? ≠ some (Rs.upd j o) := by
  induction h with
  | nil => simp
  | val _ ih =>
    refine ⟨fun r hr => ?_, fun u j o => ?_⟩
    · rcases List.mem_cons.1 hr with rfl | hr
      · trivial
      · exact ih.1 r hr
    · cases u with
      | zero => simp
      | succ u => simpa using ih.2 u j o
  | own _ ih =>
    refine ⟨fun r hr => ?_, fun u j o => ?_⟩
    · rcases List.mem_cons.1 hr with rfl | hr
      · trivial
      · exact ih.1 r hr
    · cases u with
      | zero => simp
      | succ u => simpa using ih.2 u j o
  | @heapP R _ hR _ ih =>
    refine ⟨fun r hr => ?_, fun u j o => ?_⟩
    · rcases List.mem_cons.1 hr with rfl | hr
      · exact fun v w w' h hx => hR.out v _ _ (ext_le hx) h
      · exact ih.1 r hr
    · cases u with
      | zero => simp [St.heapP]
      | succ u => simpa using ih.2 u j o
theorem c_drawP {Q : Exit → Act → World → Prop} {n : Nat} {E0 : Env} {id : Nat} {a : Act} (m : Nat) (rs : List Rs) (hmix : P.follows .mixedOrders = true) (hB : drawB l m n = true) (hup : updB l rs 0 rs [] = true) (hown : ownDst (l.take m) rs = true) (hmono : MonoRs rs)
    (h : Holds E0 n a) (hm : Mem W0 X B L w) (vcs : VCs P l rs E0 (Mem W0 X B L) (memD W0 X B L) (l.take m) rs)
    (k : FinF rs (l.take m) rs 0 [] [] (fun al acc => ∀ w, Mem W0 X B (al.map (fun x => .blk x.2.1 x.2.2) ++ L) w → Dep acc E0 w (fun E => ∀ a, Holds E n a → LW P l Q (l.drop m) a w))) :
    CW P (Code.region id l.toArray true) Q a w :=
  c_draw (S := Ext) (D := memD W0 X B L) m rs hmix hB hup hown (monoRs hmono).1 (fun _ _ h => h) (fun ⟨u, j, o, h⟩ => absurd h ((monoRs hmono).2 u j o)) (fun _ _ hd => mem_front hd) (fun _ _ _ hd hx => Mem.ext hd hx) (fun _ _ _ o hd => Mem.alloc hd o) (fun _ _ _ hd hp => Mem.perm hd ((hp.map _).append_right L)) h hm vcs k
end
end Go.Proofs.Ytedgbmefajnjeaa.St
