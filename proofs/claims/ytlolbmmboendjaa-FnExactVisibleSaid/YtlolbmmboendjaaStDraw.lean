/-
  Regions that draw their order: each operation is proved from the results of those that it waits for; the order is then of no account.
-/
import Derived.Test.YtlolbmmboendjaaStMem
namespace Go.Proofs.Ytlolbmmboendjaa.St
open Go.RowKit

inductive Rs where
  | val (v : Value)
  | pred (r : Value → World → Prop)

def Rs.sat : Rs → Value → World → Prop
  | .val u, v, _ => v = u
  | .pred r, v, w => r v w

def Rs.mono : Rs → Prop
  | .val _ => True
  | .pred r => ∀ v w w', r v w → Ext w w' → r v w'

theorem Rs.up {r : Rs} (hr : r.mono) {v : Value} {w w' : World} (h : r.sat v w) (hx : Ext w w') : r.sat v w' := by
  cases r with
  | val u => exact h
  | pred r => exact hr v w w' h hx

def DepF : List (Nat × Rs) → Env → World → (Env → Prop) → Prop
  | [], E, _, k => k E
  | (t, .val v) :: ds, E, w, k => DepF ds ((t, v) :: E) w k
  | (t, .pred r) :: ds, E, w, k => ∀ v, r v w → DepF ds ((t, v) :: E) w k

structure Dep (ds : List (Nat × Rs)) (E : Env) (w : World) (k : Env → Prop) : Prop where
  out : DepF ds E w k

theorem dep_nil {E : Env} {w : World} {k : Env → Prop} (h : k E) : Dep [] E w k := ⟨h⟩
theorem dep_val {E : Env} {w : World} {k : Env → Prop} {t : Nat} {v : Value} {ds : List (Nat × Rs)} (h : Dep ds ((t, v) :: E) w k) : Dep ((t, .val v) :: ds) E w k := ⟨h.out⟩
theorem dep_pred {E : Env} {w : World} {k : Env → Prop} {t : Nat} {r : Value → World → Prop} {ds : List (Nat × Rs)} (h : ∀ v, r v w → Dep ds ((t, v) :: E) w k) : Dep ((t, .pred r) :: ds) E w k := ⟨fun v hv => (h v hv).out⟩

/-- what Dep gives, at an activation that meets every one of the entries -/
theorem dep_out {w : World} {k : Env → Prop} (a : Act) : ∀ (ds : List (Nat × Rs)) (E : Env), Dep ds E w k → (∀ x ∈ ds, ∃ v, a.tmps[x.1]? = some v ∧ x.2.sat v w) →
    ∃ E', k E' ∧ ∀ t v, Env.get E' t = some v → ((∃ r, (t, r) ∈ ds) ∧ a.tmps[t]? = some v) ∨ ((∀ r, (t, r) ∉ ds) ∧ Env.get E t = some v)
  | [], E, h, _ => ⟨E, h.out, fun t v hv => .inr ⟨fun r => by simp, hv⟩⟩
  | (s, r) :: ds, E, h, ha => by
    obtain ⟨u, hu, hs⟩ := ha (s, r) (List.mem_cons_self ..)
    have hd : Dep ds ((s, u) :: E) w k := by
      cases r with
      | val u' => simp only [Rs.sat] at hs; subst hs; exact ⟨h.out⟩
      | pred r => exact ⟨h.out u hs⟩
    obtain ⟨E', hk, hE⟩ := dep_out a ds ((s, u) :: E) hd (fun x hx => ha x (List.mem_cons_of_mem _ hx))
    refine ⟨E', hk, fun t v hv => ?_⟩
    rcases hE t v hv with ⟨⟨r', hr'⟩, hv'⟩ | ⟨hn, hv'⟩
    · exact .inl ⟨⟨r', List.mem_cons_of_mem _ hr'⟩, hv'⟩
    · simp only [Env.get] at hv'
      by_cases hst : s = t
      · subst hst
        simp at hv'
        subst hv'
        exact .inl ⟨⟨r, List.mem_cons_self ..⟩, hu⟩
      · rw [beqF hst] at hv'
        refine .inr ⟨fun r' hr' => ?_, by simpa using hv'⟩
        rcases List.mem_cons.1 hr' with h1 | h1
        · exact hst (congrArg Prod.fst h1).symm
        · exact hn r' h1

def depsL (l : List Oper) (rs : List Rs) : List Edge → List (Nat × Rs)
  | [] => []
  | e :: es => match Region.binds .any e with
    | true => match (l[e.on]?).bind (·.dst) with
      | some d => match rs[e.on]? with
        | some r => (d, r) :: depsL l rs es
        | none => depsL l rs es
      | none => depsL l rs es
    | false => depsL l rs es

theorem mem_depsL {l : List Oper} {rs : List Rs} : ∀ {es : List Edge} {d : Nat} {r : Rs}, (d, r) ∈ depsL l rs es ↔ ∃ e ∈ es, Region.binds .any e = true ∧ (l[e.on]?).bind (·.dst) = some d ∧ rs[e.on]? = some r
  | [], d, r => by simp [depsL]
  | e :: es, d, r => by
    have ih := mem_depsL (l := l) (rs := rs) (es := es) (d := d) (r := r)
    unfold depsL
    constructor
    · intro h
      split at h
      · rename_i hb
        split at h
        · rename_i d' hd
          split at h
          · rename_i r' hr
            rcases List.mem_cons.1 h with h1 | h1
            · cases h1
              exact ⟨e, List.mem_cons_self .., hb, hd, hr⟩
            · obtain ⟨e', he, hh⟩ := ih.1 h1
              exact ⟨e', List.mem_cons_of_mem _ he, hh⟩
          · obtain ⟨e', he, hh⟩ := ih.1 h
            exact ⟨e', List.mem_cons_of_mem _ he, hh⟩
        · obtain ⟨e', he, hh⟩ := ih.1 h
          exact ⟨e', List.mem_cons_of_mem _ he, hh⟩
      · obtain ⟨e', he, hh⟩ := ih.1 h
        exact ⟨e', List.mem_cons_of_mem _ he, hh⟩
    · rintro ⟨e', he, hb, hd, hr⟩
      rcases List.mem_cons.1 he with rfl | he
      · simp [hb, hd, hr]
      · have := ih.2 ⟨e', he, hb, hd, hr⟩
        split
        · split
          · split
            · exact List.mem_cons_of_mem _ this
            · exact this
          · exact this
        · exact this

structure OpVC (P : Program) (l : List Oper) (g : Option (Nat × Bool)) (op : Op) (ty : TypeId) (r : Rs) (E : Env) (w : World) : Prop where
  out : (wantedE l E g = some true ∧ Does P op ty E w (fun v w' => Ext w w' ∧ r.sat v w')) ∨ (wantedE l E g = some false ∧ r.sat undef w)

theorem vc_run {P : Program} {l : List Oper} {g : Option (Nat × Bool)} {op : Op} {ty : TypeId} {r : Rs} {E : Env} {w : World} (hg : wantedE l E g = some true) (h : Does P op ty E w (fun v w' => Ext w w' ∧ r.sat v w')) : OpVC P l g op ty r E w := ⟨.inl ⟨hg, h⟩⟩
theorem vc_skip {P : Program} {l : List Oper} {g : Option (Nat × Bool)} {op : Op} {ty : TypeId} {r : Rs} {E : Env} {w : World} (hg : wantedE l E g = some false) (h : r.sat undef w) : OpVC P l g op ty r E w := ⟨.inr ⟨hg, h⟩⟩

inductive VCs (P : Program) (l : List Oper) (rs : List Rs) (E0 : Env) (C : World → Prop) : List Oper → List Rs → Prop
  | nil : VCs P l rs E0 C [] []
  | cons {o : Oper} {r : Rs} {os : List Oper} {r' : List Rs} (h : ∀ w, C w → Dep (depsL l rs o.after.toList) E0 w (fun E => OpVC P l o.guard o.op o.type r E w)) (h' : VCs P l rs E0 C os r') : VCs P l rs E0 C (o :: os) (r :: r')

theorem vcs_nil {P : Program} {l : List Oper} {rs : List Rs} {E0 : Env} {C : World → Prop} : VCs P l rs E0 C [] [] := .nil
theorem vcs_cons {P : Program} {l : List Oper} {rs : List Rs} {E0 : Env} {C : World → Prop} {d : Option Tmp} {op : Op} {ty : TypeId} {pos : String} {af : List Edge} {g : Option (Nat × Bool)} {os : List Oper} {r : Rs} {r' : List Rs}
    (h : ∀ w, C w → Dep (depsL l rs af) E0 w (fun E => OpVC P l g op ty r E w)) (h' : VCs P l rs E0 C os r') : VCs P l rs E0 C (⟨d, op, ty, pos, af.toArray, g⟩ :: os) (r :: r') := .cons h h'

theorem vcs_get {P : Program} {l : List Oper} {rs : List Rs} {E0 : Env} {C : World → Prop} : ∀ {os : List Oper} {r' : List Rs}, VCs P l rs E0 C os r' → ∀ {i : Nat} {o : Oper}, os[i]? = some o →
    ∃ r, r'[i]? = some r ∧ ∀ w, C w → Dep (depsL l rs o.after.toList) E0 w (fun E => OpVC P l o.guard o.op o.type r E w)
  | [], [], _, i, o, h => by simp at h
  | _ :: _, r :: _, .cons h1 _, 0, o, h => by
    simp only [List.getElem?_cons_zero, Option.some.injEq] at h
    subst h
    exact ⟨r, rfl, h1⟩
  | _ :: _, _ :: _, .cons _ h2, i + 1, o, h => by
    obtain ⟨r, hr, hh⟩ := vcs_get h2 (i := i) (o := o) (by simpa using h)
    exact ⟨r, by simpa using hr, hh⟩

def pairs : List Oper → List Rs → List (Nat × Rs)
  | ⟨some d, _, _, _, _, _⟩ :: os, r :: rs => (d, r) :: pairs os rs
  | _ :: os, _ :: rs => pairs os rs
  | _, _ => []

theorem mem_pairs : ∀ {os : List Oper} {rs : List Rs} {d : Nat} {r : Rs}, (d, r) ∈ pairs os rs → ∃ (i : Nat) (o : Oper), os[i]? = some o ∧ o.dst = some d ∧ rs[i]? = some r
  | [], _, d, r, h => by simp [pairs] at h
  | ⟨some d', _, _, _, _, _⟩ :: os, [], d, r, h => by simp [pairs] at h
  | ⟨none, _, _, _, _, _⟩ :: os, [], d, r, h => by simp [pairs] at h
  | ⟨some d', _, _, _, _, _⟩ :: os, r' :: rs, d, r, h => by
    simp only [pairs, List.mem_cons] at h
    rcases h with h | h
    · cases h; exact ⟨0, _, rfl, rfl, rfl⟩
    · obtain ⟨i, o, h1, h2, h3⟩ := mem_pairs h
      exact ⟨i + 1, o, by simpa using h1, h2, by simpa using h3⟩
  | ⟨none, _, _, _, _, _⟩ :: os, r' :: rs, d, r, h => by
    obtain ⟨i, o, h1, h2, h3⟩ := mem_pairs (os := os) (rs := rs) (by simpa [pairs] using h)
    exact ⟨i + 1, o, by simpa using h1, h2, by simpa using h3⟩

theorem pairs_mem : ∀ {os : List Oper} {rs : List Rs} {i : Nat} {o : Oper} {d : Nat} {r : Rs}, os[i]? = some o → o.dst = some d → rs[i]? = some r → (d, r) ∈ pairs os rs
  | [], _, i, o, d, r, h, _, _ => by simp at h
  | _ :: _, [], i, o, d, r, _, _, h => by simp at h
  | ⟨d', _, _, _, _, _⟩ :: os, r' :: rs, 0, o, d, r, h1, h2, h3 => by
    simp only [List.getElem?_cons_zero, Option.some.injEq] at h1 h3
    subst h1 h3
    simp only at h2
    subst h2
    simp [pairs]
  | ⟨d', _, _, _, _, _⟩ :: os, r' :: rs, i + 1, o, d, r, h1, h2, h3 => by
    have := pairs_mem (os := os) (rs := rs) (i := i) (by simpa using h1) h2 (by simpa using h3)
    cases d' <;> simp [pairs, this]

/-! ### What is asked of the region's text, by computation -/
def waits (l : List Oper) (j i : Nat) : Bool :=
  match l[j]? with
  | some o => o.after.toList.any fun e => Region.binds .any e && e.on == i
  | none => false

def readOk (l : List Oper) (m i : Nat) (o : Oper) (t : Nat) : Bool :=
  (o.after.toList.any fun e => Region.binds .any e && (((l[e.on]?).bind (·.dst)) == some t)) ||
  ((List.range m).all fun j => (match l[j]? with | some oj => !(oj.dst == some t) | none => true) || j == i || waits l j i)

def isSelect : Op → Bool
  | .select _ _ => true
  | _ => false

def opOk (l : List Oper) (m i : Nat) : Bool :=
  match l[i]? with
  | none => true
  | some o => !isSelect o.op && (o.after.toList.all fun e => !Region.binds .any e || Nat.blt e.on i) &&
    ((o.op.operands.toList.all fun x => match x with | .tmp t => readOk l m i o t | _ => true) &&
     (match o.guard with | none => true | some (j, _) => o.after.toList.any fun e => Region.binds .any e && e.on == j))

def dstsOk (l : List Oper) (m : Nat) : Bool :=
  (List.range m).all fun i => (List.range m).all fun j => i == j || (match (l[i]?).bind (·.dst), (l[j]?).bind (·.dst) with | some d, some d' => !(d == d') | _, _ => true)

def sinkB (l : List Oper) (m : Nat) : Bool := (List.range m).all fun i => (List.range (m + 1)).any fun j => Nat.blt i j && waits l j i
def chainB (l : List Oper) (m : Nat) : Bool := (List.range l.length).all fun k => Nat.ble k m || waits l k (k - 1)

def seqB (ops : Array Oper) : Nat → Nat → Array Bool → Bool
  | 0, _, listed => (Region.ready .any ops listed).isEmpty
  | g + 1, k, listed => decide (Region.ready .any ops listed = [k]) && seqB ops g (k + 1) (listed.setIfInBounds k true)

def boundB (l : List Oper) (m n : Nat) : Bool := (List.range m).all fun i => match (l[i]?).bind (·.dst) with | some d => Nat.blt d n | none => true

def drawB (l : List Oper) (m n : Nat) : Bool :=
  Nat.ble m l.length && boundB l m n && ((List.range m).all fun i => opOk l m i) && dstsOk l m && (m == l.length || (sinkB l m && chainB l m)) &&
  seqB l.toArray (l.length - m) m ((List.replicate m true ++ List.replicate (l.length - m) false).toArray)

theorem any_seq {P : Program} {ops : Array Oper} {Q : Exit → Act → World → Prop} : ∀ (rest : List Oper) (k : Nat) (listed : Array Bool) (a : Act) (w : World), (∀ j, rest[j]? = ops[k + j]?) →
    seqB ops rest.length k listed = true → wpList P ops Q rest a w → wpAny P .any ops Q rest.length listed a w
  | [], _, _, _, _, _, hB, h => ⟨by simpa [seqB] using hB, h⟩
  | o :: rest, k, listed, a, w, hl, hB, h => by
    have h0 : ops[k]? = some o := by simpa using (hl 0).symm
    simp only [List.length_cons, seqB, Bool.and_eq_true, decide_eq_true_eq] at hB
    obtain ⟨hr, hB'⟩ := hB
    refine ⟨fun hn => (by rw [hr] at hn; cases hn), fun i hi => ?_⟩
    rw [hr] at hi
    obtain rfl : i = k := by simpa using hi
    have ih : ∀ a w, wpList P ops Q rest a w → wpAny P .any ops Q rest.length (listed.setIfInBounds i true) a w := fun a w => any_seq rest (i + 1) (listed.setIfInBounds i true) a w (fun j => by have := hl (j + 1); simpa [Nat.add_assoc, Nat.add_comm 1 j] using this) hB'
    simp only [wpList] at h
    unfold wpOp
    simp only [h0]
    split
    · rename_i hw
      rw [if_pos hw] at h
      exact h.imp (Oper.wp_mono ih) id
    · rename_i hw
      rw [if_neg hw] at h
      exact ih _ _ h

structure Inv (l : List Oper) (m : Nat) (rs : List Rs) (E0 : Env) (n : Nat) (C : World → Prop) (listed : Array Bool) (a : Act) (w : World) : Prop where
  lsize : listed.size = l.length
  size : a.tmps.size = n
  defers : a.defers = []
  cw : C w
  base : ∀ t v, Env.get E0 t = some v → (∀ i o, i < m → l[i]? = some o → listed.getD i false = true → o.dst ≠ some t) → a.tmps[t]? = some v
  res : ∀ i o d r, i < m → l[i]? = some o → listed.getD i false = true → o.dst = some d → rs[i]? = some r → ∃ v, a.tmps[d]? = some v ∧ r.sat v w
  closed : ∀ j oj, l[j]? = some oj → listed.getD j false = true → ∀ e ∈ oj.after, Region.binds .any e = true → listed.getD e.on false = true
  tail : ∀ t, m ≤ t → t < l.length → listed.getD t true = false

theorem getD_set_self {listed : Array Bool} {i : Nat} {b : Bool} (h : i < listed.size) : (listed.setIfInBounds i true).getD i b = true := by
  simp [h]

def rest_count (listed : Array Bool) (m : Nat) : Nat := ((List.range m).filter fun i => !listed.getD i false).length

theorem rest_set {listed : Array Bool} {m i : Nat} (hi : i < m) (hs : i < listed.size) (h : listed.getD i false = false) : rest_count (listed.setIfInBounds i true) m + 1 = rest_count listed m := by
  unfold rest_count
  induction m with
  | zero => omega
  | succ m ih =>
    simp only [List.range_succ, List.filter_append, List.length_append, List.filter_cons, List.filter_nil]
    by_cases him : i = m
    · subst him
      have h1 : ((List.range i).filter fun j => !(listed.setIfInBounds i true).getD j false) = ((List.range i).filter fun j => !listed.getD j false) := by
        apply List.filter_congr
        intro j hj
        have : j < i := List.mem_range.1 hj
        rw [getD_set_ne false (by omega)]
      rw [h1, getD_set_self hs, h]
      simp
    · have := ih (by omega)
      rw [getD_set_ne false him]
      omega

theorem rest_zero {listed : Array Bool} {m : Nat} (h : rest_count listed m = 0) : ∀ i, i < m → listed.getD i false = true := by
  intro i hi
  cases hl : listed.getD i false with
  | true => rfl
  | false =>
    unfold rest_count at h
    have : i ∈ (List.range m).filter fun i => !listed.getD i false := List.mem_filter.2 ⟨List.mem_range.2 hi, by simp [hl]⟩
    rw [List.length_eq_zero_iff.1 h] at this
    cases this

theorem rest_pos {listed : Array Bool} {m f : Nat} (h : rest_count listed m = f + 1) : ∃ i, i < m ∧ listed.getD i false = false ∧ ∀ j, j < i → listed.getD j false = true := by
  have hex : ∃ i, i < m ∧ listed.getD i false = false := by
    unfold rest_count at h
    cases hl : (List.range m).filter fun i => !listed.getD i false with
    | nil => rw [hl] at h; cases h
    | cons i r =>
      have : i ∈ (List.range m).filter fun i => !listed.getD i false := by rw [hl]; exact List.mem_cons_self ..
      obtain ⟨h1, h2⟩ := List.mem_filter.1 this
      exact ⟨i, List.mem_range.1 h1, by simpa using h2⟩
  obtain ⟨i, h1, h2⟩ := hex
  induction i using Nat.strongRecOn with
  | _ i ih =>
    by_cases hj : ∃ j, j < i ∧ listed.getD j false = false
    · obtain ⟨j, hj1, hj2⟩ := hj
      exact ih j hj1 (by omega) hj2
    · refine ⟨i, h1, h2, fun j hj1 => ?_⟩
      cases hl : listed.getD j false with
      | true => rfl
      | false => exact (hj ⟨j, hj1, hl⟩).elim

theorem getD_false_of {listed : Array Bool} {i : Nat} (hs : i < listed.size) (h : listed.getD i false = false) : listed.getD i true = false := by
  simp [hs] at h ⊢; exact h

theorem getD_true_of {listed : Array Bool} {i : Nat} (h : listed.getD i true = false) : listed.getD i false = false := by
  rcases Nat.lt_or_ge i listed.size with h' | h'
  · simp [h'] at h ⊢; exact h
  · simp [Array.getElem?_eq_none h'] at h


theorem wanted_of' {l : List Oper} {E : Env} {tmps : Array Value} {g : Option (Nat × Bool)} {o : Oper} {b : Bool} (ho : o.guard = g) (hs : ∀ j want t, g = some (j, want) → (l[j]?).bind (·.dst) = some t → ∀ v, Env.get E t = some v → tmps[t]? = some v)
    (hg : wantedE l E g = some b) : Region.wanted o (yielded l.toArray tmps) = b := by
  unfold wantedE at hg
  unfold Region.wanted
  rw [ho]
  cases hgd : g with
  | none => simpa [hgd] using hg
  | some p =>
    obtain ⟨j, want⟩ := p
    simp only [hgd] at hg ⊢
    unfold yielded
    simp only [List.getElem?_toArray]
    cases hd : (l[j]?).bind (·.dst) with
    | none => simp [hd] at hg
    | some t =>
      simp only [hd] at hg
      cases hv : Env.get E t with
      | none => simp [hv] at hg
      | some v =>
        simp only [hv] at hg
        have := hs j want t hgd hd _ hv
        cases v <;> simp at hg
        · rename_i c
          simp only [Option.bind_some, this]
          subst hg
          cases c <;> cases want <;> rfl
        · simp only [Option.bind_some, this]
          subst hg
          cases want <;> rfl

section
variable {P : Program} {l : List Oper} {m n : Nat} {rs : List Rs} {E0 : Env} {C : World → Prop}

theorem bound_of (h : boundB l m n = true) {i : Nat} {o : Oper} {d : Nat} (hi : i < m) (ho : l[i]? = some o) (hd : o.dst = some d) : d < n := by
  have := List.all_eq_true.1 h i (List.mem_range.2 hi)
  simpa [ho, hd, Nat.blt_eq] using this

theorem dsts_of (h : dstsOk l m = true) {i j : Nat} {o o' : Oper} {d : Nat} (hi : i < m) (hj : j < m) (ho : l[i]? = some o) (ho' : l[j]? = some o') (hd : o.dst = some d) (hd' : o'.dst = some d) : i = j := by
  have := List.all_eq_true.1 (List.all_eq_true.1 h i (List.mem_range.2 hi)) j (List.mem_range.2 hj)
  simpa [ho, ho', hd, hd'] using this

theorem Inv.step {listed : Array Bool} {a : Act} {w w' : World} (hB : boundB l m n = true) (hD : dstsOk l m = true) (hmono : ∀ r ∈ rs, r.mono) (hCx : ∀ w w', C w → Ext w w' → C w')
    (inv : Inv l m rs E0 n C listed a w) {i : Nat} {oi : Oper} {r : Rs} {v : Value} (him : i < m) (hml : m ≤ l.length) (hoi : l[i]? = some oi) (hun : listed.getD i false = false)
    (hall : ∀ e ∈ oi.after, Region.binds .any e = true → listed.getD e.on false = true) (hr : rs[i]? = some r) (hs : r.sat v w') (hx : Ext w w') : Inv l m rs E0 n C (listed.setIfInBounds i true) (a.put oi.dst v) w' := by
  have hil : i < listed.size := by rw [inv.lsize]; omega
  have hput : ∀ t, oi.dst ≠ some t → (a.put oi.dst v).tmps[t]? = a.tmps[t]? := fun t ht => by
    cases hd : oi.dst with
    | none => rfl
    | some d =>
      have : d ≠ t := fun e => ht (by rw [hd, e])
      simp [Act.put, Array.getElem?_setIfInBounds_ne this]
  refine ⟨by simp [inv.lsize], ?_, ?_, hCx w w' inv.cw hx, ?_, ?_, ?_, ?_⟩
  · cases oi.dst <;> simp [Act.put, inv.size]
  · cases oi.dst <;> simp [Act.put, inv.defers]
  · intro t u hu hno
    rw [hput t (hno i oi him hoi (getD_set_self hil))]
    refine inv.base t u hu fun j o hj ho hl => hno j o hj ho ?_
    exact getD_set_true hl
  · intro j o d r' hj ho hl hd hr'
    by_cases hij : i = j
    · subst hij
      obtain rfl : oi = o := Option.some.inj (hoi.symm.trans ho)
      obtain rfl : r = r' := Option.some.inj (hr.symm.trans hr')
      refine ⟨v, ?_, hs⟩
      have := bound_of hB him hoi hd
      simp [Act.put, hd, inv.size, this]
    · rw [getD_set_ne false hij] at hl
      obtain ⟨u, hu, hsu⟩ := inv.res j o d r' hj ho hl hd hr'
      have hne : oi.dst ≠ some d := fun e => hij (dsts_of hD him hj hoi ho e hd)
      exact ⟨u, by rw [hput d hne]; exact hu, Rs.up (hmono _ (List.mem_of_getElem? hr')) hsu hx⟩
  · intro j oj hj hl e he hb
    by_cases hij : i = j
    · subst hij
      obtain rfl : oi = oj := Option.some.inj (hoi.symm.trans hj)
      exact getD_set_true (hall e he hb)
    · rw [getD_set_ne false hij] at hl
      exact getD_set_true (inv.closed j oj hj hl e he hb)
  · intro t ht ht'
    rw [getD_set_ne true (by omega)]
    exact inv.tail t ht ht'

theorem waits_of {j i : Nat} (h : waits l j i = true) : ∃ oj, l[j]? = some oj ∧ ∃ e ∈ oj.after, Region.binds .any e = true ∧ e.on = i := by
  unfold waits at h
  split at h
  · rename_i oj hj
    obtain ⟨e, he, hb⟩ := List.any_eq_true.1 h
    simp only [Bool.and_eq_true, beq_iff_eq] at hb
    exact ⟨oj, hj, e, Array.mem_toList_iff.1 he, hb.1, hb.2⟩
  · cases h

theorem sink_no {listed : Array Bool} {a : Act} {w : World} (hsk : sinkB l m = true) (inv : Inv l m rs E0 n C listed a w) (hml : m < l.length) (hr : m ∈ Region.ready .any l.toArray listed) :
    ∀ (d i : Nat), m - i = d → i < m → listed.getD i false = true := by
  intro d
  induction d using Nat.strongRecOn with
  | _ d ih =>
    intro i hd hi
    obtain ⟨_, om, hom, hall⟩ := mem_ready.1 hr
    obtain ⟨j, hj, hj2⟩ := List.any_eq_true.1 (List.all_eq_true.1 hsk i (List.mem_range.2 hi))
    have hjm : j ≤ m := by have := List.mem_range.1 hj; omega
    simp only [Bool.and_eq_true, Nat.blt_eq] at hj2
    obtain ⟨oj, hoj, e, he, hb, hon⟩ := waits_of hj2.2
    by_cases hjm' : j = m
    · subst hjm'
      obtain rfl : oj = om := Option.some.inj (hoj.symm.trans (by simpa using hom))
      exact hon ▸ hall e he hb
    · have := ih (m - j) (by omega) j rfl (by omega)
      exact hon ▸ inv.closed j oj hoj this e he hb

theorem opOk_parts {i : Nat} {o : Oper} (h : opOk l m i = true) (ho : l[i]? = some o) : (∀ cs b, o.op ≠ .select cs b) ∧ (∀ e ∈ o.after, Region.binds .any e = true → e.on < i) ∧
    (∀ t, Operand.tmp t ∈ o.op.operands → readOk l m i o t = true) ∧ (∀ j want, o.guard = some (j, want) → ∃ e ∈ o.after, Region.binds .any e = true ∧ e.on = j) := by
  unfold opOk at h
  simp only [ho, Bool.and_eq_true] at h
  obtain ⟨⟨h1, h2⟩, h3, h4⟩ := h
  refine ⟨fun cs b e => by rw [e] at h1; simp [isSelect] at h1, fun e he hb => ?_, fun t ht => ?_, fun j want hg => ?_⟩
  · have := List.all_eq_true.1 h2 e (Array.mem_toList_iff.2 he)
    simpa [hb, Nat.blt_eq] using this
  · exact List.all_eq_true.1 h3 (.tmp t) (Array.mem_toList_iff.2 ht)
  · rw [hg] at h4
    obtain ⟨e, he, hb⟩ := List.any_eq_true.1 h4
    simp only [Bool.and_eq_true, beq_iff_eq] at hb
    exact ⟨e, Array.mem_toList_iff.1 he, hb.1, hb.2⟩

theorem draw_key {Q : Exit → Act → World → Prop} (hB : drawB l m n = true) (hmono : ∀ r ∈ rs, r.mono) (hCx : ∀ w w', C w → Ext w w' → C w') (vcs : VCs P l rs E0 C (l.take m) rs)
    (k : ∀ w, C w → Dep (pairs (l.take m) rs) E0 w (fun E => ∀ a, Holds E n a → LW P l Q (l.drop m) a w)) :
    ∀ (f : Nat) (listed : Array Bool) (a : Act) (w : World), rest_count listed m = f → Inv l m rs E0 n C listed a w → wpAny P .any l.toArray Q (f + (l.length - m)) listed a w := by
  unfold drawB at hB
  simp only [Bool.and_eq_true] at hB
  obtain ⟨⟨⟨⟨⟨hml, hbd⟩, hop⟩, hD⟩, hsc⟩, hseq⟩ := hB
  have hml : m ≤ l.length := Nat.le_of_ble_eq_true hml
  have htk : ∀ (i : Nat) (o : Oper), i < m → l[i]? = some o → (l.take m)[i]? = some o := fun i o hi ho => by rw [List.getElem?_take, if_pos hi]; exact ho
  intro f
  induction f with
  | zero =>
    intro listed a w hf inv
    have hz := rest_zero hf
    have hlisted : listed = ((List.replicate m true ++ List.replicate (l.length - m) false).toArray) := by
      apply Array.ext
      · simp [inv.lsize]; omega
      · intro i h1 h2
        have hil : i < l.length := by rw [← inv.lsize]; exact h1
        by_cases him : i < m
        · have := hz i him
          simp [h1] at this
          simp [this, List.getElem_append, him]
        · have := inv.tail i (by omega) hil
          simp [h1] at this
          simp [this, List.getElem_append, him]
    obtain ⟨E', hk, hE⟩ := dep_out a _ E0 (k w inv.cw) (fun x hx => by
      obtain ⟨d, r⟩ := x
      obtain ⟨i, o, h1, h2, h3⟩ := mem_pairs hx
      have him : i < m := by
        have := (List.getElem?_eq_some_iff.1 h1).1
        simp at this; omega
      rw [List.getElem?_take, if_pos him] at h1
      exact inv.res i o d r him h1 (hz i him) h2 h3)
    have hH : Holds E' n a := ⟨inv.size, inv.defers, fun t v hv => by
      rcases hE t v hv with ⟨_, h⟩ | ⟨hn, h⟩
      · exact h
      · refine inv.base t v h fun i o hi ho _ hd => ?_
        obtain ⟨r, hr, _⟩ := vcs_get vcs (htk i o hi ho)
        exact hn r (pairs_mem (htk i o hi ho) hd hr)⟩
    rw [Nat.zero_add]
    have := any_seq (P := P) (ops := l.toArray) (Q := Q) (l.drop m) m listed a w (fun j => by simp [List.getElem?_drop]) (by rw [List.length_drop, hlisted]; exact hseq) (hk a hH).out
    rwa [List.length_drop] at this
  | succ f ih =>
    intro listed a w hf inv
    rw [show f + 1 + (l.length - m) = (f + (l.length - m)) + 1 by omega]
    obtain ⟨i0, h1, h2, h3⟩ := rest_pos hf
    have hil : ∀ i, i < m → i < listed.size := fun i hi => by rw [inv.lsize]; omega
    obtain ⟨o0, ho0⟩ : ∃ o, l[i0]? = some o := ⟨l[i0]'(by omega), List.getElem?_eq_getElem (by omega)⟩
    have hready : i0 ∈ Region.ready .any l.toArray listed := by
      refine mem_ready.2 ⟨getD_false_of (hil i0 h1) h2, o0, by simpa using ho0, fun e he hb => ?_⟩
      exact h3 _ ((opOk_parts (List.all_eq_true.1 hop i0 (List.mem_range.2 h1)) ho0).2.1 e he hb)
    refine ⟨fun hn => (by rw [hn] at hready; cases hready), fun i hi => ?_⟩
    obtain ⟨hun, oi, hoi', hall⟩ := mem_ready.1 hi
    have hoi : l[i]? = some oi := by simpa using hoi'
    have hilt : i < l.length := (List.getElem?_eq_some_iff.1 hoi).1
    have him : i < m := by
      rcases Nat.lt_or_ge i m with h | h
      · exact h
      · exfalso
        simp only [Bool.or_eq_true, beq_iff_eq, Bool.and_eq_true] at hsc
        rcases hsc with hsc | ⟨hs, hc⟩
        · omega
        · by_cases hie : i = m
          · subst hie
            have := sink_no hs inv hilt hi _ i0 rfl h1
            rw [h2] at this
            cases this
          · have h4 := List.all_eq_true.1 hc i (List.mem_range.2 hilt)
            simp only [Bool.or_eq_true] at h4
            rcases h4 with h4 | h4
            · have := Nat.le_of_ble_eq_true h4; omega
            · obtain ⟨o', ho', e, he, hb, hon⟩ := waits_of h4
              obtain rfl : o' = oi := Option.some.inj (ho'.symm.trans hoi)
              have h5 := hall e he hb
              rw [hon, getD_true_of (inv.tail (i - 1) (by omega) (by omega))] at h5
              cases h5
    have hunf := getD_true_of hun
    obtain ⟨hsel, hon, hread, hguard⟩ := opOk_parts (List.all_eq_true.1 hop i (List.mem_range.2 him)) hoi
    obtain ⟨r, hr, hvc⟩ := vcs_get vcs (htk i oi him hoi)
    obtain ⟨E', hk, hE⟩ := dep_out a _ E0 (hvc w inv.cw) (fun x hx => by
      obtain ⟨d, r'⟩ := x
      obtain ⟨e, he, hb, hd, hr'⟩ := mem_depsL.1 hx
      have he' := Array.mem_toList_iff.1 he
      cases hq : l[e.on]? with
      | none => simp [hq] at hd
      | some oe =>
        simp only [hq, Option.bind_some] at hd
        exact inv.res e.on oe d r' (by have := hon e he' hb; omega) hq (hall e he' hb) hd hr')
    have hdep : ∀ e ∈ oi.after, Region.binds .any e = true → ∀ t, (l[e.on]?).bind (·.dst) = some t → ∃ r', (t, r') ∈ depsL l rs oi.after.toList := fun e he hb t hd => by
      cases hq : l[e.on]? with
      | none => simp [hq] at hd
      | some oe =>
        obtain ⟨r', hr', _⟩ := vcs_get vcs (htk e.on oe (by have := hon e he hb; omega) hq)
        exact ⟨r', mem_depsL.2 ⟨e, Array.mem_toList_iff.2 he, hb, hd, hr'⟩⟩
    let ρ : Operand → Value := fun x => (ev E' x).getD (a.eval x)
    have hρ : Sat E' ρ := fun x v hx => by simp [ρ, hx]
    have hsame : ∀ x ∈ oi.op.operands, a.eval x = ρ x := by
      intro x hx
      cases x with
      | tmp t =>
        cases hv : Env.get E' t with
        | none => simp [ρ, ev, hv]
        | some v =>
          have hat : a.tmps[t]? = some v := by
            rcases hE t v hv with ⟨_, h⟩ | ⟨hn, h⟩
            · exact h
            · refine inv.base t v h fun j oj hj hoj hl hd => ?_
              have hro := hread t hx
              unfold readOk at hro
              simp only [Bool.or_eq_true] at hro
              rcases hro with hro | hro
              · obtain ⟨e, he, hb⟩ := List.any_eq_true.1 hro
                simp only [Bool.and_eq_true, beq_iff_eq] at hb
                obtain ⟨r', hr'⟩ := hdep e (Array.mem_toList_iff.1 he) hb.1 t hb.2
                exact hn r' hr'
              · have h6 := List.all_eq_true.1 hro j (List.mem_range.2 hj)
                simp only [Bool.or_eq_true, hoj, hd] at h6
                rcases h6 with (h6 | h6) | h6
                · simp at h6
                · have : j = i := by simpa using h6
                  subst this
                  rw [hunf] at hl
                  cases hl
                · obtain ⟨o', ho', e, he, hb, hon'⟩ := waits_of h6
                  obtain rfl : o' = oj := Option.some.inj (ho'.symm.trans hoj)
                  have := inv.closed j o' hoj hl e he hb
                  rw [hon', hunf] at this
                  cases this
          simp [ρ, ev, hv, Act.eval, hat]
      | const c => rfl
      | global g => rfl
      | func f => rfl
    have hex : execOp a.eval oi = execOp ρ oi := execOp_congr oi hsel hsame
    have hslot : ∀ j want t, oi.guard = some (j, want) → (l[j]?).bind (·.dst) = some t → ∀ v, Env.get E' t = some v → a.tmps[t]? = some v := fun j want t hg hd v hv => by
      obtain ⟨e, he, hb, hej⟩ := hguard j want hg
      obtain ⟨r', hr'⟩ := hdep e he hb t (by rw [hej]; exact hd)
      rcases hE t v hv with ⟨_, h⟩ | ⟨hn, _⟩
      · exact h
      · exact (hn r' hr').elim
    have hcount : rest_count (listed.setIfInBounds i true) m = f := by
      have := rest_set him (hil i him) hunf
      omega
    unfold wpOp
    simp only [List.getElem?_toArray, hoi]
    rcases hk.out with ⟨hw, hd⟩ | ⟨hw, hs⟩
    · rw [wanted_of' rfl hslot hw, if_pos rfl]
      refine .inl ?_
      unfold Oper.wp
      rw [hex]
      exact oper_of_upon (upon_mono (fun v w' hv => ih _ _ _ hcount (inv.step hbd hD hmono hCx him hml hoi hunf hall hr hv.2 hv.1)) (hd.out ρ hρ))
    · rw [wanted_of' rfl hslot hw, if_neg (by simp)]
      exact ih _ _ _ hcount (inv.step hbd hD hmono hCx him hml hoi hunf hall hr hs (ext_refl w))

theorem replicate_getD (k j : Nat) : (Array.replicate k false).getD j false = false := by
  rcases Nat.lt_or_ge j k with h | h
  · simp [h]
  · simp [h]

theorem rest_all (l : List Oper) : ∀ m, rest_count (Array.replicate l.length false) m = m := by
  intro m
  unfold rest_count
  have : ((List.range m).filter fun i => !(Array.replicate l.length false).getD i false) = List.range m := by
    apply List.filter_eq_self.2
    intro i _
    rw [replicate_getD]
    rfl
  rw [this]; simp

theorem c_draw {Q : Exit → Act → World → Prop} {id : Nat} {a : Act} {w : World} (m : Nat) (rs : List Rs) (hmix : P.follows .mixedOrders = true) (hB : drawB l m n = true) (hmono : ∀ r ∈ rs, r.mono) (hCx : ∀ w w', C w → Ext w w' → C w')
    (h : Holds E0 n a) (hc : C w) (vcs : VCs P l rs E0 C (l.take m) rs) (k : ∀ w, C w → Dep (pairs (l.take m) rs) E0 w (fun E => ∀ a, Holds E n a → LW P l Q (l.drop m) a w)) :
    CW P (Code.region id l.toArray true) Q a w := by
  have hml : m ≤ l.length := by
    unfold drawB at hB
    simp only [Bool.and_eq_true] at hB
    exact Nat.le_of_ble_eq_true hB.1.1.1.1.1
  refine ⟨wp_region_any hmix ?_⟩
  have := draw_key (Q := Q) hB hmono hCx vcs k m (Array.replicate l.length false) a { w with drawn := w.drawn + 1 } (rest_all l m)
    ⟨by simp, h.size, h.defers, hCx w _ hc (ext_drew w), fun t v hv _ => h.get t v hv,
      (by intro i o d r _ _ hl; rw [replicate_getD] at hl; cases hl),
      (by intro j oj _ hl; rw [replicate_getD] at hl; cases hl),
      (by intro t _ ht; simp [ht])⟩
  rw [show m + (l.length - m) = l.length by omega] at this
  simpa using this
end

/-- all results are values that the text alone decides -/
def vals : List Value → List Rs
  | [] => []
  | v :: r => .val v :: vals r

theorem vals_mono (vs : List Value) : ∀ r ∈ vals vs, r.mono := by
  induction vs with
  | nil => simp [vals]
  | cons v vs ih =>
    intro r hr
    simp only [vals, List.mem_cons] at hr
    rcases hr with rfl | hr
    · trivial
    · exact ih r hr


theorem c_drawM {P : Program} {Q : Exit → Act → World → Prop} {l : List Oper} {n : Nat} {E0 : Env} {W0 : World} {X : List Nat} {B : Heap} {L : List Own} {id : Nat} {a : Act} {w : World} (m : Nat) (vs : List Value) (hmix : P.follows .mixedOrders = true) (hB : drawB l m n = true)
    (h : Holds E0 n a) (hm : Mem W0 X B L w) (vcs : VCs P l (vals vs) E0 (Mem W0 X B L) (l.take m) (vals vs))
    (k : ∀ w, Mem W0 X B L w → Dep (pairs (l.take m) (vals vs)) E0 w (fun E => ∀ a, Holds E n a → LW P l Q (l.drop m) a w)) :
    CW P (Code.region id l.toArray true) Q a w :=
  c_draw m (vals vs) hmix hB (vals_mono vs) (fun _ _ hw hx => hw.ext hx) h hm vcs k
theorem does_funVX {P : Program} {E : Env} {w : World} {Φ : Value → World → Prop} {ty : TypeId} {f : FuncId} {args : List Operand} {ats : Array TypeId} {first vs cap us : List Value} {v : Value} {c : Operand} (hf : ev E c = some (.func (.func f) first.toArray cap.toArray)) (hx : evs E args = some vs)
    (hus : first ++ vs ++ cap = us) [hen : En P f] (hc : Fun P f us v)
    (k : ∀ w', Ext w w' → Φ v w') : Does P (.call { callee := .value c, args := args.toArray, argTypes := ats }) ty E w Φ :=
  does_callV hen.out hf hx (by rw [hus]; exact (hc.out w).mono fun _ w' ⟨he, hw⟩ => ⟨v, he, k w' hw⟩)
/-- the prefix again as a list from which the walk goes on -/
theorem c_tail {P : Program} {l rest : List Oper} {m : Nat} {Q : Exit → Act → World → Prop} {a : Act} {w : World} (hl : l.drop m = rest) (h : LW P l Q rest a w) : LW P l Q (l.drop m) a w := by rw [hl]; exact h

end Go.Proofs.Ytlolbmmboendjaa.St
