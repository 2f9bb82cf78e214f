/-
  A small layer for a goroutine that walks beside goroutines that only leave: environments of known temporaries, one rule an operation, memory as a frozen part and a list of blocks of the call's own.
-/
import Derived.WalkKit
import Derived.ProofKit
import Derived.OpenShut
import Derived.Orders
import Derived.Test.YtedgbmefajnjeaaCoK
set_option linter.unusedSimpArgs false
set_option linter.unusedVariables false
namespace Go.Proofs.Ytedgbmefajnjeaa.St
open Go.RowKit Go.Proofs.Ytedgbmefajnjeaa.Co

/-! ### Environments -/
abbrev Env := List (Nat × Value)

def Env.get : Env → Nat → Option Value
  | [], _ => none
  | (t, v) :: r, s => bif Nat.beq t s then some v else Env.get r s

def ev (E : Env) : Operand → Option Value
  | .tmp t => Env.get E t
  | .const v => some v
  | .global g => some (.pointer (some ⟨g, 0, none⟩))
  | .func f => some (.func (.func f) #[] #[])

def evs (E : Env) : List Operand → Option (List Value)
  | [] => some []
  | x :: r => match ev E x with
    | none => none
    | some v => match evs E r with
      | none => none
      | some vs => some (v :: vs)

/-- a test whose outcome is not known: no evaluation looks into it -/
noncomputable def dB (p : Prop) : Bool := @decide p (Classical.propDecidable p)
theorem dB_eq (p : Prop) [Decidable p] : dB p = decide p := by unfold dB; congr
theorem bT {p : Prop} (h : p) : dB p = true := by rw [@dB_eq p (Classical.propDecidable p)]; exact @decide_eq_true p (Classical.propDecidable p) h
theorem bF {p : Prop} (h : ¬ p) : dB p = false := by rw [@dB_eq p (Classical.propDecidable p)]; exact @decide_eq_false p (Classical.propDecidable p) h
theorem of_bT {p : Prop} (h : dB p = true) : p := by rw [@dB_eq p (Classical.propDecidable p)] at h; exact @of_decide_eq_true p (Classical.propDecidable p) h
theorem of_bF {p : Prop} (h : dB p = false) : ¬ p := by rw [@dB_eq p (Classical.propDecidable p)] at h; exact @of_decide_eq_false p (Classical.propDecidable p) h

theorem beqF {a b : Nat} (h : a ≠ b) : Nat.beq a b = false := by
  cases hb : Nat.beq a b with
  | false => rfl
  | true => exact absurd (Nat.eq_of_beq_eq_true hb) h

structure Holds (E : Env) (n : Nat) (a : Act) : Prop where
  size : a.tmps.size = n
  defers : a.defers = []
  get : ∀ t v, Env.get E t = some v → a.tmps[t]? = some v

def Sat (E : Env) (ρ : Operand → Value) : Prop := ∀ x v, ev E x = some v → ρ x = v

theorem Holds.sat {E : Env} {n : Nat} {a : Act} (h : Holds E n a) : Sat E a.eval := by
  intro x v hx
  cases x with
  | tmp t => simp [Act.eval, h.get t v hx]
  | const c => exact Option.some.inj hx
  | global g => exact Option.some.inj hx
  | func f => exact Option.some.inj hx

theorem Holds.put {E : Env} {n : Nat} {a : Act} (h : Holds E n a) {d : Nat} (hd : Nat.blt d n = true) (v : Value) : Holds ((d, v) :: E) n (a.put (some d) v) := by
  have hd' : d < n := by simpa [Nat.blt_eq] using hd
  refine ⟨by simp [Act.put, h.size], by simp [Act.put, h.defers], fun t u hu => ?_⟩
  simp only [Env.get] at hu
  by_cases hdt : d = t
  · subst hdt
    simp at hu
    subst hu
    simp [Act.put, h.size, hd']
  · have : Nat.beq d t = false := beqF hdt
    rw [this] at hu
    simp only [cond_false] at hu
    simp [Act.put, Array.getElem?_setIfInBounds_ne hdt, h.get t u hu]

theorem Holds.nop {E : Env} {n : Nat} {a : Act} (h : Holds E n a) (v : Value) : Holds E n (a.put none v) := h

/-- forget some slots -/
theorem Holds.sub {E E' : Env} {n : Nat} {a : Act} (h : Holds E n a) (hs : ∀ t v, Env.get E' t = some v → Env.get E t = some v) : Holds E' n a :=
  ⟨h.size, h.defers, fun t v hv => h.get t v (hs t v hv)⟩

/-- every pair of E' is what E says: for closed slots, by a chain of rfl -/
def Sub (E : Env) : Env → Prop
  | [] => True
  | (t, v) :: r => Env.get E t = some v ∧ Sub E r

theorem sub_get {E : Env} : ∀ {E' : Env}, Sub E E' → ∀ t v, Env.get E' t = some v → Env.get E t = some v
  | [], _, t, v, h => by simp [Env.get] at h
  | (s, u) :: r, hs, t, v, h => by
    simp only [Env.get] at h
    by_cases hst : s = t
    · subst hst; simp at h; subst h; exact hs.1
    · have : Nat.beq s t = false := beqF hst
      rw [this] at h
      exact sub_get hs.2 t v (by simpa using h)

theorem Holds.keep {E E' : Env} {n : Nat} {a : Act} (h : Holds E n a) (hs : Sub E E') : Holds E' n a := h.sub (sub_get hs)

/-! ### What an operation does -/
/-- entered so, beside those that leave, the function comes back with what R says -/
def Calls (P : Program) (f : FuncId) (args : Array Value) (w : World) (R : Ending → World → Prop) : Prop :=
  ∀ (Stop : Goroutine → World → Prop) (c : Frame) (cs : List Frame), (∀ v w', R (.returned v) w' → Walk P Stop (Conc.G (c.finish v) cs) w') → Walk P Stop (Conc.G (Frame.enter P f args .normal) (c :: cs)) w

theorem Calls.mono {P : Program} {f : FuncId} {args : Array Value} {w : World} {R R' : Ending → World → Prop} (h : Calls P f args w R) (hr : ∀ e w', R e w' → R' e w') : Calls P f args w R' :=
  fun Stop c cs k => h Stop c cs fun v w' r => k v w' (hr _ _ r)

def upon (P : Program) (Φ : Value → World → Prop) : Result Next → Prop
  | .ok (.value v) w' => Φ v w'
  | .ok .skip w' => Φ undef w'
  | .ok (.enter f args) w' => Calls P f args w' (fun e w'' => ∃ v, e = .returned v ∧ Φ v w'')
  | _ => False

def mk (op : Op) (ty : TypeId) : Oper := ⟨none, op, ty, "", #[], none⟩

structure Does (P : Program) (op : Op) (ty : TypeId) (E : Env) (w : World) (Φ : Value → World → Prop) : Prop where
  out : ∀ ρ, Sat E ρ → upon P Φ ((execOp ρ (mk op ty)).run P w)
  ev : ∀ ρ, Sat E ρ → Mild ((execOp ρ (mk op ty)).events P w #[])

theorem does_of {P : Program} {op : Op} {ty : TypeId} {E : Env} {w : World} {Φ : Value → World → Prop} [h : NMOp P op] (r : ∀ ρ, Sat E ρ → upon P Φ ((execOp ρ (mk op ty)).run P w)) : Does P op ty E w Φ :=
  ⟨r, fun ρ _ => nm_events (h.out ρ ty "") w⟩

theorem execOp_mk (ρ : Operand → Value) (d : Option Tmp) (op : Op) (ty : TypeId) (pos : String) (af : Array Edge) (g : Option (Nat × Bool)) :
    execOp ρ ⟨d, op, ty, pos, af, g⟩ = execOp ρ (mk op ty) := rfl

theorem upon_mono {P : Program} {Φ Ψ : Value → World → Prop} (h : ∀ v w, Φ v w → Ψ v w) {r : Result Next} (hr : upon P Φ r) : upon P Ψ r := by
  cases r with
  | ok n w' =>
    cases n <;> simp only [upon] at hr ⊢
    case value v => exact h _ _ hr
    case skip => exact h _ _ hr
    case enter f args => exact hr.mono fun e w'' ⟨v, he, hv⟩ => ⟨v, he, h _ _ hv⟩
  | halt x w' => simp only [upon] at hr

theorem Does.mono {P : Program} {op : Op} {ty : TypeId} {E : Env} {w : World} {Φ Ψ : Value → World → Prop} (hd : Does P op ty E w Φ) (h : ∀ v w, Φ v w → Ψ v w) :
    Does P op ty E w Ψ := ⟨fun ρ hρ => upon_mono h (hd.out ρ hρ), hd.ev⟩

/-- one operation, whatever the count of draws -/
def opw (P : Program) (o : Oper) (a : Act) (w : World) (K : Act → World → Prop) : Prop :=
  ∀ d, upon P (fun v w' => K (a.put o.dst v) w') ((execOp a.eval o).run P (w.at d)) ∧ Mild ((execOp a.eval o).events P (w.at d) #[])

theorem opw_mono {P : Program} {o : Oper} {a : Act} {w : World} {K K' : Act → World → Prop} (h : ∀ a w, K a w → K' a w) (ho : opw P o a w K) : opw P o a w K' :=
  fun d => ⟨upon_mono (fun _ _ => h _ _) (ho d).1, (ho d).2⟩

/-- a list of operations, in this order -/
def wpList (P : Program) (ops : Array Oper) (Q : Exit → Act → World → Prop) : List Oper → Act → World → Prop
  | [], a, w => Q .normal a w
  | o :: rest, a, w => if Region.wanted o (yielded ops a.tmps) = true then opw P o a w (wpList P ops Q rest) else wpList P ops Q rest (a.put o.dst undef) w

/-- where the walk goes on behind a piece of code -/
def Aft (P : Program) (Stop : Goroutine → World → Prop) (b : Frame) (k : List Item) (cs : List Frame) : Exit → Act → World → Prop
  | .normal, a, w => Walk P Stop (Conc.G (b.at a k) cs) w
  | .exit id, a, w => ∃ k', exitTo id k = some k' ∧ Walk P Stop (Conc.G (b.at a k') cs) w
  | .ret, a, w => ∀ todo, Walk P Stop (Conc.G { b.at a todo with mode := .returning } cs) w
  | _, _, _ => False

theorem Aft.push {P : Program} {Stop : Goroutine → World → Prop} {b : Frame} {x : Item} {k : List Item} {cs : List Frame} {e : Exit} {a : Act} {w : World} (hx : x.plain = true) (he : e ≠ .normal) (h : Aft P Stop b k cs e a w) : Aft P Stop b (x :: k) cs e a w := by
  cases e with
  | normal => exact absurd rfl he
  | exit id => obtain ⟨k', hk, hg⟩ := h; exact ⟨k', by cases x <;> simp_all [exitTo, Item.plain], hg⟩
  | ret => exact h
  | goto l => exact h
  | panic ch => exact h
  | outgrown => exact h

structure LW (P : Program) (l : List Oper) (Q : Exit → Act → World → Prop) (rest : List Oper) (a : Act) (w : World) : Prop where
  out : wpList P l.toArray Q rest a w

/-- a piece of code -/
structure CW (P : Program) (c : Code) (Q : Exit → Act → World → Prop) (a : Act) (w : World) : Prop where
  out : ∀ (Stop : Goroutine → World → Prop) (b : Frame) (k : List Item) (cs : List Frame), b.kind ≠ .early → (∀ e a' w', Q e a' w' → Aft P Stop b k cs e a' w') → Walk P Stop (Conc.G (b.at a (.code c :: k)) cs) w

section
variable {P : Program} {Stop : Goroutine → World → Prop} {b : Frame} {k : List Item} {cs : List Frame} {Q : Exit → Act → World → Prop}

theorem op_walk {ops : Array Oper} {i : Nat} {rest : List Nat} {o : Oper} {a : Act} {w : World} {K : Act → World → Prop} (ho : ops[i]? = some o) (hw : Region.wanted o (yielded ops a.tmps) = true) (hk : b.kind ≠ .early) (h : opw P o a w K)
    (hK : ∀ a' w', K a' w' → Walk P Stop (Conc.G (b.at a' (.inRegion ops rest :: k)) cs) w') : Walk P Stop (Conc.G (b.at a (.inRegion ops (i :: rest) :: k)) cs) w := by
  refine Walk.of rfl fun d => ?_
  obtain ⟨hu, he⟩ := h d
  have hl : Mild (Conc.listed P b.fn a o (w.at d)) := fun e hx m hm => he e (Conc.mem_listed hx) m hm
  generalize hr : (execOp a.eval o).run P (w.at d) = r at hu
  cases r with
  | ok n w' =>
    cases n <;> simp only [upon] at hu
    case value v => exact ⟨_, _, _, Conc.stepG_value ho hw hk hr, hl, hK _ _ hu⟩
    case skip => exact ⟨_, _, _, Conc.stepG_none ho hw hk hr, hl, hK _ _ hu⟩
    case enter f args =>
      refine ⟨_, _, _, Conc.stepG_enter ho hw hk hr, hl, hu Stop _ cs fun v w'' hv => ?_⟩
      obtain ⟨u, he, hv⟩ := hv
      cases he
      rw [Frame.finish_at, ho]
      exact hK _ _ hv
  | halt x w' => simp only [upon] at hu

theorem list_walk {l : List Oper} (hk : b.kind ≠ .early) (hc : ∀ e a' w', Q e a' w' → Aft P Stop b k cs e a' w') : ∀ (rest pre : List Oper), l = pre ++ rest → ∀ a w, wpList P l.toArray Q rest a w →
    Walk P Stop (Conc.G (b.at a (.inRegion l.toArray (List.range' pre.length rest.length) :: k)) cs) w
  | [], pre, _, a, w, h => Walk.of rfl fun d => ⟨_, _, _, Conc.stepG_region_end, mild_nil, (hc .normal a w h : Walk _ _ _ _).at d⟩
  | o :: rest, pre, hl, a, w, h => by
    have ho : l.toArray[pre.length]? = some o := by simp [hl]
    have ih : ∀ a w, wpList P l.toArray Q rest a w → Walk P Stop (Conc.G (b.at a (.inRegion l.toArray (List.range' (pre ++ [o]).length rest.length) :: k)) cs) w :=
      list_walk hk hc rest (pre ++ [o]) (by rw [hl]; simp)
    simp only [List.length_append, List.length_cons, List.length_nil, Nat.zero_add] at ih
    simp only [List.length_cons, List.range'_succ]
    simp only [wpList] at h
    split at h
    · rename_i hw
      exact op_walk ho hw hk h fun a' w' h' => ih a' w' h'
    · rename_i hw
      exact Walk.of rfl fun d => ⟨_, _, _, Conc.stepG_unwanted ho (by simpa using hw), mild_nil, (ih _ _ h).at d⟩
end

def wantedE (l : List Oper) (E : Env) : Option (Nat × Bool) → Option Bool
  | none => some true
  | some (j, want) => match (l[j]?).bind (·.dst) with
    | some t => match Env.get E t with
      | some (.bool b) => some (b == want)
      | some (.tuple _) => some false
      | _ => none
    | none => none

theorem wanted_of {l : List Oper} {E : Env} {n : Nat} {a : Act} (h : Holds E n a) {o : Oper} {b : Bool} (hg : wantedE l E o.guard = some b) :
    Region.wanted o (yielded l.toArray a.tmps) = b := by
  unfold wantedE at hg
  unfold Region.wanted
  cases hgd : o.guard with
  | none => simpa [hgd] using hg
  | some p =>
    obtain ⟨j, want⟩ := p
    simp only [hgd] at hg ⊢
    unfold yielded
    simp only [List.getElem?_toArray]
    cases hd : (l[j]?).bind (·.dst) with
    | none => simp [hd] at hg
    | some t =>
      simp only [hd] at hg
      cases hv : Env.get E t with
      | none => simp [hv] at hg
      | some v =>
        simp only [hv] at hg
        have := h.get t _ hv
        cases v <;> simp at hg
        · rename_i c
          simp only [Option.bind_some, this]
          subst hg
          cases c <;> cases want <;> rfl
        · simp only [Option.bind_some, this]
          subst hg
          cases want <;> rfl

section
variable {P : Program} {Q : Exit → Act → World → Prop} {a : Act} {w : World} {l rest : List Oper} {E : Env} {n : Nat} {d : Nat} {op : Op} {ty : TypeId} {pos : String} {af : Array Edge} {g : Option (Nat × Bool)}

theorem st_op0 (hg : wantedE l E g = some true) (hd : Nat.blt d n = true) (h : Holds E n a)
    (k : ∀ c, Does P op ty E (w.at c) (fun v w' => ∀ a', Holds ((d, v) :: E) n a' → LW P l Q rest a' w')) :
    LW P l Q (⟨some d, op, ty, pos, af, g⟩ :: rest) a w := by
  refine ⟨?_⟩
  simp only [wpList]
  rw [if_pos (wanted_of (o := ⟨some d, op, ty, pos, af, g⟩) h hg)]
  exact fun c => ⟨upon_mono (fun v w' hv => (hv _ (h.put hd v)).out) ((k c).out _ h.sat), (k c).ev _ h.sat⟩

theorem st_opn0 (hg : wantedE l E g = some true) (h : Holds E n a)
    (k : ∀ c, Does P op ty E (w.at c) (fun _ w' => ∀ a', Holds E n a' → LW P l Q rest a' w')) :
    LW P l Q (⟨none, op, ty, pos, af, g⟩ :: rest) a w := by
  refine ⟨?_⟩
  simp only [wpList]
  rw [if_pos (wanted_of (o := ⟨none, op, ty, pos, af, g⟩) h hg)]
  exact fun c => ⟨upon_mono (fun v w' hv => (hv _ (h.nop v)).out) ((k c).out _ h.sat), (k c).ev _ h.sat⟩

theorem st_skip (hg : wantedE l E g = some false) (hd : Nat.blt d n = true) (h : Holds E n a)
    (k : ∀ a', Holds ((d, undef) :: E) n a' → LW P l Q rest a' w) :
    LW P l Q (⟨some d, op, ty, pos, af, g⟩ :: rest) a w := by
  refine ⟨?_⟩
  simp only [wpList]
  rw [wanted_of (o := ⟨some d, op, ty, pos, af, g⟩) h hg, if_neg (by simp)]
  exact (k _ (h.put hd undef)).out

theorem st_skipn (hg : wantedE l E g = some false) (h : Holds E n a)
    (k : ∀ a', Holds E n a' → LW P l Q rest a' w) :
    LW P l Q (⟨none, op, ty, pos, af, g⟩ :: rest) a w := by
  refine ⟨?_⟩
  simp only [wpList]
  rw [wanted_of (o := ⟨none, op, ty, pos, af, g⟩) h hg, if_neg (by simp)]
  exact (k _ (h.nop undef)).out
end

/-! ### Control -/
/-- the way on, by exit -/
structure Cont (Q : Exit → Act → World → Prop) (e : Exit) (a : Act) (w : World) : Prop where
  out : Q e a w

section
variable {P : Program} {Q Q' : Exit → Act → World → Prop} {N : Act → World → Prop} {a : Act} {w : World} {l : List Oper} {x y c : Code} {id id' : Nat}

theorem then_aft {Stop : Goroutine → World → Prop} {b : Frame} {k : List Item} {cs : List Frame} (hk : b.kind ≠ .early) (hc : ∀ e a' w', Q e a' w' → Aft P Stop b k cs e a' w') (e : Exit) (a : Act) (w : World) (q : Exit.then (CW P y Q) Q e a w) : Aft P Stop b (.code y :: k) cs e a w := by
  cases e with
  | normal => exact (show CW P y Q a w from q).out Stop b k cs hk hc
  | exit id => exact Aft.push (x := .code y) rfl (by simp) (hc _ _ _ q)
  | ret => exact Aft.push (x := .code y) rfl (by simp) (hc _ _ _ q)
  | goto l => exact hc _ _ _ q
  | panic ch => exact hc _ _ _ q
  | outgrown => exact hc _ _ _ q
theorem c_nil (h : Cont Q .normal a w) : LW P l Q [] a w := ⟨h.out⟩
theorem c_seq (h : CW P x (Exit.then (CW P y Q) Q) a w) : CW P (Code.seq x y) Q a w :=
  ⟨fun Stop b k cs hk hc => Walk.of rfl fun d => ⟨_, _, _, Conc.stepG_seq, mild_nil, (h.out Stop b (.code y :: k) cs hk (then_aft hk hc)).at d⟩⟩
theorem c_region (h : LW P l Q l a w) : CW P (Code.region id l.toArray false) Q a w :=
  ⟨fun Stop b k cs hk hc => Walk.of rfl fun d => ⟨_, _, _, Conc.stepG_region, mild_nil, Walk.at (by
    have := list_walk (Stop := Stop) (cs := cs) hk hc l [] rfl a w h.out
    rw [List.size_toArray, List.range_eq_range']
    exact this) d⟩⟩
theorem c_skip (h : Cont Q .normal a w) : CW P Code.skip Q a w :=
  ⟨fun Stop b k cs hk hc => Walk.of rfl fun d => ⟨_, _, _, Conc.stepG_skip, mild_nil, (hc .normal a w h.out : Walk _ _ _ _).at d⟩⟩
theorem c_ret (h : Cont Q .ret a w) : CW P Code.ret Q a w :=
  ⟨fun Stop b k cs hk hc => Walk.of rfl fun d => ⟨_, _, _, Conc.stepG_ret', mild_nil, (hc .ret a w h.out _).at d⟩⟩
theorem c_exit (h : Cont Q (.exit id) a w) : CW P (Code.exit id) Q a w :=
  ⟨fun Stop b k cs hk hc => by
    obtain ⟨k', hk', hw⟩ := hc (.exit id) a w h.out
    exact Walk.of rfl fun d => ⟨_, _, _, Conc.stepG_exit hk', mild_nil, hw.at d⟩⟩
theorem c_block (h : CW P c (Exit.inBlock id Q) a w) : CW P (Code.block id c) Q a w :=
  ⟨fun Stop b k cs hk hc => Walk.of rfl fun d => ⟨_, _, _, Conc.stepG_block, mild_nil, (h.out Stop b (.inBlock id :: k) cs hk fun e a' w' q => by
    cases e with
    | normal => exact Walk.of rfl fun d => ⟨_, _, _, Conc.stepG_inBlock, mild_nil, (hc .normal _ _ q : Walk _ _ _ _).at d⟩
    | exit id' =>
      by_cases hid : id' = id
      · simp only [Exit.inBlock, hid, if_true] at q
        exact ⟨k, by simp [exitTo, hid], hc .normal _ _ q⟩
      · simp only [Exit.inBlock, hid, if_false] at q
        obtain ⟨k', hk', hg⟩ := hc _ _ _ q
        have : (id == id') = false := by simp; exact fun h => hid h.symm
        exact ⟨k', by simp [exitTo, this, hk'], hg⟩
    | ret => exact fun todo => hc _ _ _ q todo
    | goto l => exact hc _ _ _ q
    | panic ch => exact hc _ _ _ q
    | outgrown => exact hc _ _ _ q).at d⟩⟩
theorem k_then (h : CW P y Q a w) : Cont (Exit.then (CW P y Q) Q') .normal a w := ⟨h⟩
theorem k_thenN (h : N a w) : Cont (Exit.then N Q') .normal a w := ⟨h⟩
theorem k_thenR (h : Cont Q' .ret a w) : Cont (Exit.then N Q') .ret a w := ⟨h.out⟩
theorem k_thenE (h : Cont Q' (.exit id) a w) : Cont (Exit.then N Q') (.exit id) a w := ⟨h.out⟩
theorem k_inN (h : Cont Q' .normal a w) : Cont (Exit.inBlock id Q') .normal a w := ⟨h.out⟩
theorem k_inR (h : Cont Q' .ret a w) : Cont (Exit.inBlock id Q') .ret a w := ⟨h.out⟩
theorem k_inE (h : Cont Q' .normal a w) : Cont (Exit.inBlock id Q') (.exit id) a w := ⟨by
  simpa [Exit.inBlock] using h.out⟩
theorem k_inO (hn : Nat.beq id' id = false) (h : Cont Q' (.exit id') a w) : Cont (Exit.inBlock id Q') (.exit id') a w := by
  have : id' ≠ id := fun e => by subst e; rw [Nat.beq_refl] at hn; cases hn
  exact ⟨by simpa [Exit.inBlock, this] using h.out⟩

theorem c_cond0 {o : Operand} {t : Bool} (he : a.eval o = .bool t) (k : CW P (if t then x else y) Q a w) : CW P (Code.cond o x y) Q a w :=
  ⟨fun Stop b k' cs hk hc => Walk.of rfl fun d => ⟨_, _, _, Conc.stepG_cond he, mild_nil, (k.out Stop b k' cs hk hc).at d⟩⟩
theorem c_condT {E : Env} {n : Nat} {o : Operand} (h : Holds E n a) (ho : ev E o = some (.bool true)) (k : CW P x Q a w) : CW P (Code.cond o x y) Q a w :=
  c_cond0 (h.sat _ _ ho) k
theorem c_condF {E : Env} {n : Nat} {o : Operand} (h : Holds E n a) (ho : ev E o = some (.bool false)) (k : CW P y Q a w) : CW P (Code.cond o x y) Q a w :=
  c_cond0 (h.sat _ _ ho) k
theorem c_cond {E : Env} {n : Nat} {o : Operand} {b : Bool} (h : Holds E n a) (ho : ev E o = some (.bool b)) (kt : b = true → CW P x Q a w) (kf : b = false → CW P y Q a w) :
    CW P (Code.cond o x y) Q a w := by
  cases b
  · exact c_condF h ho (kf rfl)
  · exact c_condT h ho (kt rfl)
theorem c_condD {E : Env} {n : Nat} {o : Operand} {p : Prop} (h : Holds E n a) (ho : ev E o = some (.bool (dB p))) (kt : p → CW P x Q a w) (kf : ¬ p → CW P y Q a w) :
    CW P (Code.cond o x y) Q a w :=
  c_cond h ho (fun h => kt (of_bT h)) (fun h => kf (of_bF h))
end

/-- A loop, its state a ghost. -/
theorem c_loop {P : Program} {Q : Exit → Act → World → Prop} {a : Act} {w : World} {c : Code} {σ : Type} (I : σ → Act → World → Prop) (μ : σ → Nat) (s₀ : σ) (h₀ : I s₀ a w)
    (round : ∀ s a w, I s a w → CW P c (Exit.then (fun a' w' => ∃ s', I s' a' w' ∧ μ s' < μ s) Q) a w) : CW P (Code.loop c) Q a w := by
  refine ⟨fun Stop b k cs hk hc => ?_⟩
  have key : ∀ n s a w, μ s = n → I s a w → Walk P Stop (Conc.G (b.at a (.code c :: .inLoop c :: k)) cs) w := by
    intro n
    induction n using Nat.strongRecOn with
    | _ n ih =>
      intro s a w hn hI
      refine (round s a w hI).out Stop b (.inLoop c :: k) cs hk fun e a' w' q => ?_
      cases e with
      | normal =>
        obtain ⟨s', hI', hlt⟩ := q
        exact Walk.of rfl fun d => ⟨_, _, _, Conc.stepG_inLoop, mild_nil, (ih _ (hn ▸ hlt) s' a' w' rfl hI').at d⟩
      | exit id => exact Aft.push (x := .inLoop c) rfl (by simp) (hc _ _ _ q)
      | ret => exact Aft.push (x := .inLoop c) rfl (by simp) (hc _ _ _ q)
      | goto l => exact hc _ _ _ q
      | panic ch => exact hc _ _ _ q
      | outgrown => exact hc _ _ _ q
  exact Walk.of rfl fun d => ⟨_, _, _, Conc.stepG_loop, mild_nil, (key _ s₀ a w rfl h₀).at d⟩

/-! ### Memory -/
abbrev Heap := Nat → Option Obj

inductive Own where
  | blk (b : Nat) (o : Obj)
  | row (v : Value) (T : TypeId) (sz : Nat) (cs : List Value)

def Own.dom : Own → Option Nat
  | .blk b _ => some b
  | .row v _ _ _ => v.ownBlock

def Own.holds (w : World) : Own → Prop
  | .blk b o => w.heap[b]? = some o
  | .row v T sz cs => ∃ n, w.ownsRow 0 T sz v n cs

structure Mem (W0 : World) (X : List Nat) (B : Heap) (L : List Own) (w : World) : Prop where
  os : w.os = W0.os
  tape : w.tape = W0.tape
  output : w.output = W0.output
  size : W0.heap.size ≤ w.heap.size
  block : ∀ k, k < W0.heap.size → k ∉ X → w.heap[k]? = W0.heap[k]?
  base : ∀ b o, B b = some o → w.heap[b]? = some o
  own : ∀ x ∈ L, x.holds w
  fresh : ∀ x ∈ L, ∀ b, x.dom = some b → W0.heap.size ≤ b ∨ b ∈ X
  apart : ∀ x ∈ L, ∀ b, x.dom = some b → B b = none
  nodup : (L.filterMap Own.dom).Nodup

abbrev Ext (w w' : World) : Prop := Below w.heap.size w w'

theorem ext_refl (w : World) : Ext w w := Below.refl _ _
theorem ext_trans {a b c : World} (h : Ext a b) (k : Ext b c) : Ext a c := h.trans (k.mono h.size)
theorem ext_get {w w' : World} (h : Ext w w') {b : Nat} {o : Obj} (hb : w.heap[b]? = some o) : w'.heap[b]? = some o := by
  rw [h.block b (Array.getElem?_eq_some_iff.1 hb).1, hb]

theorem Own.lt {w : World} {x : Own} (h : x.holds w) {b : Nat} (hb : x.dom = some b) : b < w.heap.size := by
  cases x with
  | blk b' o =>
    simp only [Own.dom, Option.some.injEq] at hb
    subst hb
    exact (Array.getElem?_eq_some_iff.1 h).1
  | row v T sz cs =>
    obtain ⟨n, hr⟩ := h
    exact (hr.lt b hb).2

theorem Own.keep {w w' : World} {x : Own} (h : x.holds w) (hk : ∀ b, x.dom = some b → w'.heap[b]? = w.heap[b]?) : x.holds w' := by
  cases x with
  | blk b' o => show w'.heap[b']? = some o; rw [hk b' rfl]; exact h
  | row v T sz cs =>
    obtain ⟨n, h1, h2⟩ := h
    refine ⟨n, h1, ?_⟩
    rcases h2 with h2 | ⟨g, cap, cur, rfl, hb, hg, h3⟩
    · exact .inl h2
    · exact .inr ⟨g, cap, cur, rfl, hb, by rw [hk g rfl]; exact hg, h3⟩

section
variable {W0 : World} {X : List Nat} {B : Heap} {L : List Own} {w w' : World}

theorem Mem.start (w : World) : Mem w [] (fun b => w.heap[b]?) [] w :=
  ⟨rfl, rfl, rfl, Nat.le_refl _, fun _ _ _ => rfl, fun _ _ h => h, by simp, by simp, by simp, by simp⟩

theorem Mem.ext (h : Mem W0 X B L w) (hx : Ext w w') : Mem W0 X B L w' where
  os := by rw [hx.os, h.os]
  tape := by rw [hx.tape, h.tape]
  output := by rw [hx.output, h.output]
  size := Nat.le_trans h.size hx.size
  block := fun k hk hX => by rw [hx.block k (Nat.lt_of_lt_of_le hk h.size), h.block k hk hX]
  base := fun b o hb => ext_get hx (h.base b o hb)
  own := fun x hm => Own.keep (h.own x hm) fun b hb => hx.block b (Own.lt (h.own x hm) hb)
  fresh := h.fresh
  apart := h.apart
  nodup := h.nodup

theorem Mem.below (h : Mem W0 [] B L w) : Ext W0 w := ⟨h.os, h.tape, h.output, h.size, fun k hk => h.block k hk (by simp)⟩

theorem Mem.drop {x : Own} (h : Mem W0 X B (x :: L) w) : Mem W0 X B L w where
  os := h.os
  tape := h.tape
  output := h.output
  size := h.size
  block := h.block
  base := h.base
  own := fun y hy => h.own y (List.mem_cons_of_mem _ hy)
  fresh := fun y hy => h.fresh y (List.mem_cons_of_mem _ hy)
  apart := fun y hy => h.apart y (List.mem_cons_of_mem _ hy)
  nodup := by
    have := h.nodup
    simp only [List.filterMap_cons] at this
    split at this
    · exact this
    · exact (List.nodup_cons.1 this).2

theorem Mem.dropAll (h : Mem W0 X B L w) : Mem W0 X B [] w :=
  ⟨h.os, h.tape, h.output, h.size, h.block, h.base, by simp, by simp, by simp, by simp⟩

theorem ext_alloc (w : World) (o : Obj) : Ext w (w.alloc o) := (Below.refl _ _).alloc (Nat.le_refl _) o

theorem ext_drew (w : World) : Ext w w.drew := (Below.refl _ _).drew

theorem alloc_get (w : World) (o : Obj) : (w.alloc o).heap[w.heap.size]? = some o := heap_alloc_new w o

theorem Mem.alloc (h : Mem W0 X B L w) (o : Obj) : Mem W0 X B (.blk w.heap.size o :: L) (w.alloc o) := by
  have e := h.ext (ext_alloc w o)
  have hn : ∀ x ∈ L, ∀ b, x.dom = some b → b < w.heap.size := fun x hx b hb => Own.lt (h.own x hx) hb
  refine ⟨e.os, e.tape, e.output, e.size, e.block, e.base, ?_, ?_, ?_, ?_⟩
  · intro x hx
    rcases List.mem_cons.1 hx with rfl | hx
    · exact alloc_get w o
    · exact e.own x hx
  · intro x hx b hb
    rcases List.mem_cons.1 hx with rfl | hx
    · simp only [Own.dom, Option.some.injEq] at hb
      subst hb
      exact .inl h.size
    · exact e.fresh x hx b hb
  · intro x hx b hb
    rcases List.mem_cons.1 hx with rfl | hx
    · simp only [Own.dom, Option.some.injEq] at hb
      subst hb
      cases hB : B w.heap.size with
      | none => rfl
      | some o' =>
        have := h.base _ _ hB
        simp at this
    · exact e.apart x hx b hb
  · simp only [List.filterMap_cons, Own.dom]
    refine List.nodup_cons.2 ⟨fun hm => ?_, e.nodup⟩
    obtain ⟨x, hx, hb⟩ := List.mem_filterMap.1 hm
    have := hn x hx _ hb
    omega
end

section
variable {P : Program} {Q : Exit → Act → World → Prop} {a : Act} {w W0 : World} {X : List Nat} {B : Heap} {L : List Own} {l rest : List Oper} {E : Env} {n : Nat} {d : Nat} {op : Op} {ty : TypeId} {pos : String} {af : Array Edge} {g : Option (Nat × Bool)}
theorem ext_at (w : World) (d : Nat) : Ext w (w.at d) := ⟨rfl, rfl, rfl, Nat.le_refl _, fun _ _ => rfl⟩
theorem Mem.at (hm : Mem W0 X B L w) (d : Nat) : Mem W0 X B L (w.at d) := hm.ext (ext_at w d)
theorem st_op (hg : wantedE l E g = some true) (hd : Nat.blt d n = true) (h : Holds E n a) (hm : Mem W0 X B L w)
    (k : ∀ w, Mem W0 X B L w → Does P op ty E w (fun v w' => ∀ a', Holds ((d, v) :: E) n a' → LW P l Q rest a' w')) :
    LW P l Q (⟨some d, op, ty, pos, af, g⟩ :: rest) a w := st_op0 hg hd h fun c => k _ (hm.at c)
theorem st_opn (hg : wantedE l E g = some true) (h : Holds E n a) (hm : Mem W0 X B L w)
    (k : ∀ w, Mem W0 X B L w → Does P op ty E w (fun _ w' => ∀ a', Holds E n a' → LW P l Q rest a' w')) :
    LW P l Q (⟨none, op, ty, pos, af, g⟩ :: rest) a w := st_opn0 hg h fun c => k _ (hm.at c)
end
end Go.Proofs.Ytedgbmefajnjeaa.St
