/-
  From a law's walk to its statement: what the arguments' readings say of the values, and the statement's post.
-/
import Derived.Test.YtedgbmefajnjeaaStSlc
import Derived.Carry
set_option linter.unusedSimpArgs false
set_option linter.unusedVariables false
namespace Go.Proofs.Ytedgbmefajnjeaa.St
open Go.RowKit Go.ChangeShapes Go.WideShapes Go.ChangeAt

/-! ### The kinds of a type's cells -/
inductive Sk where
  | int (k : IntKind)
  | bool
  | str
  | cell (t : TypeId)
  deriving DecidableEq

def flatPs (P : Program) (rec : TypeId → Option (List Sk)) : List (Nat × TypeId) → Nat → Option (List Sk)
  | [], _ => some []
  | (o, t) :: r, off => if o = off then match rec t with
    | some ks => if ks.length = P.cellsOf t then match flatPs P rec r (off + ks.length) with
      | some ks' => some (ks ++ ks')
      | none => none
      else none
    | none => none
    else none

def flatT (P : Program) : Nat → TypeId → Option (List Sk)
  | 0, _ => none
  | n + 1, t => match P.underlying t with
    | some .bool => some [.bool]
    | some (.int k) => some [.int k]
    | some .string => some [.str]
    | some (.struct fs) => match flatPs P (flatT P n) (fs.toList.map fun f => (f.offset, f.type)) 0 with
      | some ks => if ks.length = P.cellsOf t then some ks else none
      | none => none
    | some (.array m e) => match flatPs P (flatT P n) ((List.range m).map fun i => (i * P.cellsOf e, e)) 0 with
      | some ks => if ks.length = P.cellsOf t then some ks else none
      | none => none
    | some (.slice _) => some [.cell t]
    | some (.pointer _) => some [.cell t]
    | _ => none

section
variable {H : Type} {enc : TypeId × Value → H} {P : Program} {w : World} {base : Nat} {spare : Nat → Bool} {held : Bool}

def Fits (enc : TypeId × Value → H) (P : Program) (w : World) (base : Nat) (spare : Nat → Bool) (held : Bool) : List Sk → List Value → Prop
  | [], [] => True
  | .int k :: ks, c :: cs => (∃ n, c = .int k n ∧ k.min ≤ n ∧ n ≤ k.max) ∧ Fits enc P w base spare held ks cs
  | .bool :: ks, c :: cs => (∃ b, c = .bool b) ∧ Fits enc P w base spare held ks cs
  | .str :: ks, c :: cs => (∃ s, c = .string s ∧ s.size ≤ maxLen) ∧ Fits enc P w base spare held ks cs
  | .cell t :: ks, c :: cs => (∃ fuel d p, DataW.trod enc P w base spare held fuel t [c] = some (d, p)) ∧ Fits enc P w base spare held ks cs
  | _, _ => False

theorem fits_append : ∀ {ks : List Sk} {a : List Value} {ks' : List Sk} {b : List Value}, Fits enc P w base spare held ks a → Fits enc P w base spare held ks' b → Fits enc P w base spare held (ks ++ ks') (a ++ b)
  | [], [], _, _, _, h => h
  | .int _ :: _, _ :: _, _, _, ⟨h1, h2⟩, h => ⟨h1, fits_append h2 h⟩
  | .bool :: _, _ :: _, _, _, ⟨h1, h2⟩, h => ⟨h1, fits_append h2 h⟩
  | .str :: _, _ :: _, _, _, ⟨h1, h2⟩, h => ⟨h1, fits_append h2 h⟩
  | .cell _ :: _, _ :: _, _, _, ⟨h1, h2⟩, h => ⟨h1, fits_append h2 h⟩

theorem fits_length : ∀ {ks : List Sk} {a : List Value}, Fits enc P w base spare held ks a → a.length = ks.length
  | [], [], _ => rfl
  | .int _ :: _, _ :: _, ⟨_, h2⟩ => by simp [fits_length h2]
  | .bool :: _, _ :: _, ⟨_, h2⟩ => by simp [fits_length h2]
  | .str :: _, _ :: _, ⟨_, h2⟩ => by simp [fits_length h2]
  | .cell _ :: _, _ :: _, ⟨_, h2⟩ => by simp [fits_length h2]

theorem fits_parts {α : Type} (g : α → Nat × TypeId) (rec : TypeId → Option (List Sk)) (fuel : Nat)
    (ih : ∀ t ks cs x, DataW.trod enc P w base spare held fuel t cs = some x → rec t = some ks → Fits enc P w base spare held ks cs) (cs : List Value) :
    ∀ (l : List α) (off : Nat) (ks : List Sk) (xs : List (DataW H × List MemPlace)), flatPs P rec (l.map g) off = some ks → off + ks.length = cs.length →
      (l.mapM fun x => DataW.trod enc P w base spare held fuel (g x).2 ((cs.drop (g x).1).take (P.cellsOf (g x).2))) = some xs → Fits enc P w base spare held ks (cs.drop off)
  | [], off, ks, xs, h1, h2, _ => by
    simp only [List.map_nil, flatPs, Option.some.injEq] at h1
    subst h1
    simp only [List.length_nil, Nat.add_zero] at h2
    rw [h2, List.drop_length]
    trivial
  | x :: l, off, ks, xs, h1, h2, h3 => by
    simp only [List.map_cons, flatPs] at h1
    obtain ⟨hox, h1⟩ : (g x).1 = off ∧ _ := by
      split at h1
      · exact ⟨‹_›, h1⟩
      · cases h1
    split at h1
    · rename_i k1 hk1
      split at h1
      · rename_i hlen
        split at h1
        · rename_i k2 hk2
          simp only [Option.some.injEq] at h1
          subst h1
          simp only [List.mapM_cons, Option.bind_eq_bind, Option.bind_eq_some_iff] at h3
          obtain ⟨y, hy, ys, hys, _⟩ := h3
          have f1 := ih _ _ _ _ hy hk1
          rw [hox] at f1
          have f2 := fits_parts g rec fuel ih cs l (off + k1.length) k2 ys hk2 (by simp at h2; omega) hys
          have := fits_append f1 f2
          rw [← hlen] at this
          rwa [← List.drop_drop, List.take_append_drop] at this
        · cases h1
      · cases h1
    · cases h1

theorem fits_of_trod : ∀ (n fuel : Nat) (t : TypeId) (ks : List Sk) (cs : List Value) (x : DataW H × List MemPlace), DataW.trod enc P w base spare held fuel t cs = some x → flatT P n t = some ks → Fits enc P w base spare held ks cs
  | 0, _, _, _, _, _, _, h => by simp [flatT] at h
  | n + 1, 0, _, _, _, _, h, _ => by simp [DataW.trod] at h
  | n + 1, fuel + 1, t, ks, cs, x, h, hf => by
    have h0 := h
    unfold DataW.trod at h
    unfold flatT at hf
    split at hf
    · rename_i hu
      simp only [Option.some.injEq] at hf
      subst hf
      rw [hu] at h
      split at h <;> rename_i h1 <;> simp_all [Fits]
    · rename_i k hu
      simp only [Option.some.injEq] at hf
      subst hf
      rw [hu] at h
      match cs, h with
      | [.int k' m], h =>
        simp only at h
        split at h
        · rename_i hw
          obtain ⟨rfl, hw⟩ := hw
          simp only [Lit.wf, Bool.and_eq_true, decide_eq_true_eq] at hw
          exact ⟨⟨m, rfl, hw.1, hw.2⟩, trivial⟩
        · cases h
    · rename_i hu
      simp only [Option.some.injEq] at hf
      subst hf
      rw [hu] at h
      match cs, h with
      | [.string s], h =>
        simp only at h
        split at h
        · exact ⟨⟨s, rfl, ‹_›⟩, trivial⟩
        · cases h
    · rename_i fs hu
      rw [hu] at h
      split at hf
      · rename_i k1 hk1
        split at hf
        · rename_i hlen
          simp only [Option.some.injEq] at hf
          subst hf
          have h' : (if cs.length = P.cellsOf t then (fs.toList.mapM fun f => DataW.trod enc P w base spare held fuel f.type ((cs.drop f.offset).take (P.cellsOf f.type))).map fun xs => (DataW.agg (xs.map (·.1)), xs.flatMap (·.2)) else none) = some x := h
          split at h'
          · rename_i hcl
            simp only [Option.map_eq_some_iff] at h'
            obtain ⟨xs, hxs, _⟩ := h'
            have := fits_parts (fun f : Field => (f.offset, f.type)) (flatT P n) fuel (fun t ks cs x => fits_of_trod n fuel t ks cs x) cs fs.toList 0 k1 xs hk1 (by omega) hxs
            simpa using this
          · cases h'
        · cases hf
      · cases hf
    · rename_i m e hu
      rw [hu] at h
      split at hf
      · rename_i k1 hk1
        split at hf
        · rename_i hlen
          simp only [Option.some.injEq] at hf
          subst hf
          have h' : (if cs.length = P.cellsOf t then ((List.range m).mapM fun i => DataW.trod enc P w base spare held fuel e ((cs.drop (i * P.cellsOf e)).take (P.cellsOf e))).map fun xs => (DataW.agg (xs.map (·.1)), xs.flatMap (·.2)) else none) = some x := h
          split at h'
          · rename_i hcl
            simp only [Option.map_eq_some_iff] at h'
            obtain ⟨xs, hxs, _⟩ := h'
            have := fits_parts (fun i : Nat => (i * P.cellsOf e, e)) (flatT P n) fuel (fun t ks cs x => fits_of_trod n fuel t ks cs x) cs (List.range m) 0 k1 xs hk1 (by omega) hxs
            simpa using this
          · cases h'
        · cases hf
      · cases hf
    · rename_i e hu
      simp only [Option.some.injEq] at hf
      subst hf
      have hl : ∃ c, cs = [c] := by
        rw [hu] at h
        match cs, h with
        | [c], _ => exact ⟨c, rfl⟩
        | _ :: _ :: _, h => simp at h
      obtain ⟨c, rfl⟩ := hl
      exact ⟨⟨fuel + 1, x.1, x.2, h0⟩, trivial⟩
    · rename_i e hu
      simp only [Option.some.injEq] at hf
      subst hf
      have hl : ∃ c, cs = [c] := by
        rw [hu] at h
        match cs, h with
        | [c], _ => exact ⟨c, rfl⟩
        | _ :: _ :: _, h => simp at h
      obtain ⟨c, rfl⟩ := hl
      exact ⟨⟨fuel + 1, x.1, x.2, h0⟩, trivial⟩
    · cases hf

theorem fits_nil {cs : List Value} (h : Fits enc P w base spare held [] cs) : cs = [] := by
  cases cs with
  | nil => rfl
  | cons _ _ => exact h.elim
theorem fits_int {k : IntKind} {ks : List Sk} {cs : List Value} (h : Fits enc P w base spare held (.int k :: ks) cs) : ∃ n r, cs = .int k n :: r ∧ (k.min ≤ n ∧ n ≤ k.max) ∧ Fits enc P w base spare held ks r := by
  cases cs with
  | nil => exact h.elim
  | cons c r =>
    obtain ⟨⟨n, rfl, hb⟩, hr⟩ := h
    exact ⟨n, r, rfl, hb, hr⟩
theorem fits_i64 {ks : List Sk} {cs : List Value} (h : Fits enc P w base spare held (.int .i64 :: ks) cs) : ∃ n r, cs = .int .i64 n :: r ∧ (-9223372036854775808 ≤ n ∧ n ≤ 9223372036854775807) ∧ Fits enc P w base spare held ks r := by
  obtain ⟨n, r, h1, h2, h3⟩ := fits_int h
  exact ⟨n, r, h1, h2, h3⟩
theorem fits_bool {ks : List Sk} {cs : List Value} (h : Fits enc P w base spare held (.bool :: ks) cs) : ∃ b r, cs = .bool b :: r ∧ Fits enc P w base spare held ks r := by
  cases cs with
  | nil => exact h.elim
  | cons c r =>
    obtain ⟨⟨n, rfl⟩, hr⟩ := h
    exact ⟨n, r, rfl, hr⟩
theorem fits_str {ks : List Sk} {cs : List Value} (h : Fits enc P w base spare held (.str :: ks) cs) : ∃ s r, cs = .string s :: r ∧ s.size ≤ maxLen ∧ Fits enc P w base spare held ks r := by
  cases cs with
  | nil => exact h.elim
  | cons c r =>
    obtain ⟨⟨n, rfl, hb⟩, hr⟩ := h
    exact ⟨n, r, rfl, hb, hr⟩
theorem fits_cell {t : TypeId} {ks : List Sk} {cs : List Value} (h : Fits enc P w base spare held (.cell t :: ks) cs) : ∃ c r, cs = c :: r ∧ (∃ fuel x, DataW.trod enc P w base spare held fuel t [c] = some x) ∧ Fits enc P w base spare held ks r := by
  cases cs with
  | nil => exact h.elim
  | cons c r =>
    obtain ⟨⟨fuel, d, p, hb⟩, hr⟩ := h
    exact ⟨c, r, rfl, ⟨fuel, _, hb⟩, hr⟩

/-- A scalar. -/
theorem open_scal {t : TypeId} {v : Value} {d : DataW H} {p : List MemPlace} {n : Nat} {ks : List Sk} (hagg : (match P.underlying t with | some (.struct _) | some (.array _ _) => true | _ => false) = false) (hf : flatT P n t = some ks)
    (hv : Value.okWide P w .any base t v) (h : DataW.Trod enc P w 0 spare held t v d p) : Fits enc P w 0 spare held ks [v] := by
  obtain ⟨fuel, hh⟩ := h
  have hna : ∀ cs, v ≠ .agg cs := by
    intro cs e
    subst e
    unfold Value.okWide at hv
    split at hv
    · simp_all
    · simp_all
    · unfold Cell.okWide at hv
      split at hv
      all_goals first | (simp_all; done) | (unfold Cell.ok at hv; split at hv <;> simp_all)
  have : v.cells.toList = [v] := by cases v <;> first | rfl | exact absurd rfl (hna _)
  rw [this] at hh
  exact fits_of_trod n fuel t ks [v] _ hh hf

/-- A struct or an array by value. -/
theorem openAgg {t : TypeId} {v : Value} {d : DataW H} {p : List MemPlace} {n : Nat} {ks : List Sk} (hagg : (match P.underlying t with | some (.struct _) | some (.array _ _) => true | _ => false) = true) (hf : flatT P n t = some ks)
    (hv : Value.okWide P w .any base t v) (h : DataW.Trod enc P w 0 spare held t v d p) : ∃ cs : List Value, v = .agg cs.toArray ∧ Fits enc P w 0 spare held ks cs := by
  have : ∃ cs : Array Value, v = .agg cs := by
    unfold Value.okWide at hv
    split at hv
    · obtain ⟨cs, hc, _⟩ := hv; exact ⟨cs, hc⟩
    · obtain ⟨cs, hc, _⟩ := hv; exact ⟨cs, hc⟩
    · rename_i h1 h2
      exfalso
      cases hu : P.underlying t with
      | none => simp [hu] at hagg
      | some dd =>
        cases dd <;> simp [hu] at hagg
        · first | exact h1 _ hu | exact h2 _ _ hu
        · first | exact h1 _ hu | exact h2 _ _ hu
  obtain ⟨cs, rfl⟩ := this
  obtain ⟨fuel, hh⟩ := h
  exact ⟨cs.toList, by simp, fits_of_trod n fuel t ks cs.toList _ hh hf⟩
end

/-! ### A slice as a list of rows -/
def Rows (B : Heap) (p : Option Addr) (sz : Nat) (css : List (List Value)) : Prop := ∀ i cs, css[i]? = some cs → ∃ a, p = some a ∧ At B (a.add (i * sz)) cs

theorem Rows.mono {B B' : Heap} {p : Option Addr} {sz : Nat} {css : List (List Value)} (h : Rows B p sz css) (hB : Heap.le B B') : Rows B' p sz css := fun i cs hi =>
  let ⟨a, ha, hat⟩ := h i cs hi
  ⟨a, ha, hat.mono hB⟩

theorem mapM_get {α β : Type} {f : α → Option β} : ∀ {l : List α} {ys : List β}, l.mapM f = some ys → ∀ {i : Nat} {x : α}, l[i]? = some x → ∃ y, f x = some y ∧ ys[i]? = some y
  | [], _, _, i, x, h => by simp at h
  | z :: l, ys, hm, i, x, h => by
    simp only [List.mapM_cons, Option.bind_eq_bind, Option.bind_eq_some_iff] at hm
    obtain ⟨y, hy, ys', hys, he⟩ := hm
    obtain rfl : y :: ys' = ys := by simpa using he
    cases i with
    | zero => obtain rfl : z = x := by simpa using h
              exact ⟨y, hy, rfl⟩
    | succ i =>
      obtain ⟨u, hu, hg⟩ := mapM_get hys (i := i) (x := x) (by simpa using h)
      exact ⟨u, hu, by simpa using hg⟩

theorem mapM_len {α β : Type} {f : α → Option β} : ∀ {l : List α} {ys : List β}, l.mapM f = some ys → ys.length = l.length
  | [], ys, h => by simp at h; simp [h]
  | z :: l, ys, hm => by
    simp only [List.mapM_cons, Option.bind_eq_bind, Option.bind_eq_some_iff] at hm
    obtain ⟨y, _, ys', hys, he⟩ := hm
    obtain rfl : y :: ys' = ys := by simpa using he
    simp [mapM_len hys]

theorem at_of_cells {w : World} {a : Addr} {n : Nat} {cs : List Value} (hn : 0 < n) (h : w.cells? 0 a n = some cs) : At (fun b => w.heap[b]?) a cs ∧ cs.length = n := by
  unfold World.cells? at h
  rw [if_pos (Nat.zero_le _)] at h
  have hlen := mapM_len h
  simp at hlen
  have hcell : ∀ j v, cs[j]? = some v → w.cell? (a.add j) = some v := fun j v hv => by
    have hj : j < n := by rw [← hlen]; exact (List.getElem?_eq_some_iff.1 hv).1
    obtain ⟨y, hy, hg⟩ := mapM_get h (i := j) (x := j) (by simp [hj])
    rw [hv] at hg
    rw [hy, ← hg]
  have h0 : ∃ v, w.cell? a = some v := by
    obtain ⟨v, hv⟩ : ∃ v, cs[0]? = some v := ⟨cs[0]'(by omega), List.getElem?_eq_getElem (by omega)⟩
    have := hcell 0 v hv
    rw [show a.add 0 = a by simp [Addr.add]] at this
    exact ⟨v, this⟩
  obtain ⟨v0, hv0⟩ := h0
  refine ⟨?_, hlen⟩
  unfold World.cell? at hv0
  split at hv0
  · rename_i arr T fz hb
    have hs : a.spot = none := by
      split at hv0
      · cases hv0
      · rename_i hsp; simpa using hsp
    refine ⟨hs, arr, T, fz, hb, fun j v hv => ?_⟩
    have := hcell j v hv
    rw [add_add a 0 j hs] at this
    simpa [World.cell?, hb] using this
  · cases hv0

section
variable {H : Type} {enc : TypeId × Value → H} {P : Program} {w : World} {spare : Nat → Bool} {held : Bool}

/-- A slice's reading: its rows, and what each holds. -/
theorem openSlice {t e : TypeId} {n fuel : Nat} {ks : List Sk} {c : Value} {x : DataW H × List MemPlace} (hu : P.underlying t = some (.slice e)) (hf : flatT P n e = some ks) (hk : 0 < ks.length) (hc : P.cellsOf e = ks.length)
    (h : DataW.trod enc P w 0 spare held fuel t [c] = some x) : ∃ (p : Option Addr) (css : List (List Value)) (cap : Nat), c = .slice p css.length cap ∧ css.length ≤ cap ∧ cap ≤ maxLen ∧ Rows (fun b => w.heap[b]?) p ks.length css ∧
      ∀ cs ∈ css, Fits enc P w 0 spare held ks cs := by
  cases fuel with
  | zero => simp [DataW.trod] at h
  | succ fuel =>
    unfold DataW.trod at h
    rw [hu] at h
    match c, h with
    | .slice none 0 0, _ => exact ⟨none, [], 0, rfl, Nat.le_refl _, Nat.zero_le _, fun i cs hi => by simp at hi, by simp⟩
    | .slice (some a) len cap, h =>
      simp only [Nat.zero_le, true_and] at h
      split at h
      · rename_i hlc
        simp only [Option.bind_eq_some_iff] at h
        obtain ⟨els, hels, _⟩ := h
        have hget : ∀ i, i < len → ∃ cs, w.cells? 0 (a.add (i * P.cellsOf e)) (P.cellsOf e) = some cs ∧ ∃ y, DataW.trod enc P w 0 spare held fuel e cs = some y := fun i hi => by
          obtain ⟨y, hy, _⟩ := mapM_get hels (i := i) (x := i) (by simp [hi])
          simp only [Option.bind_eq_some_iff] at hy
          obtain ⟨cs, h1, h2⟩ := hy
          exact ⟨cs, h1, y, h2⟩
        let css : List (List Value) := (List.range len).map fun i => (w.cells? 0 (a.add (i * P.cellsOf e)) (P.cellsOf e)).getD []
        have hcs : ∀ i cs, css[i]? = some cs → i < len ∧ w.cells? 0 (a.add (i * P.cellsOf e)) (P.cellsOf e) = some cs := fun i cs hi => by
          have hlt : i < len := by have := (List.getElem?_eq_some_iff.1 hi).1; simpa [css] using this
          obtain ⟨cs', h1, _⟩ := hget i hlt
          have : css[i]? = some cs' := by simp [css, hlt, h1]
          rw [hi] at this
          exact ⟨hlt, by rw [h1]; exact this.symm⟩
        refine ⟨some a, css, cap, by simp [css], by simpa [css] using hlc.1, hlc.2, fun i cs hi => ?_, fun cs hm => ?_⟩
        · obtain ⟨_, h1⟩ := hcs i cs hi
          rw [hc] at h1
          exact ⟨a, rfl, (at_of_cells hk h1).1⟩
        · obtain ⟨i, hi⟩ := List.mem_iff_getElem?.1 hm
          obtain ⟨hlt, h1⟩ := hcs i cs hi
          obtain ⟨cs', h2, y, hy⟩ := hget i hlt
          rw [h1] at h2
          obtain rfl : cs = cs' := Option.some.inj h2
          exact fits_of_trod n fuel e ks cs y hy hf
      · cases h

theorem open_sliceT {t e : TypeId} {n : Nat} {ks : List Sk} {v : Value} {d : DataW H} {p : List MemPlace} (hu : P.underlying t = some (.slice e)) (hf : flatT P n e = some ks) (hk : 0 < ks.length) (hc : P.cellsOf e = ks.length)
    (hv : ∀ cs, v ≠ .agg cs) (h : DataW.Trod enc P w 0 spare held t v d p) : ∃ (p : Option Addr) (css : List (List Value)) (cap : Nat), v = .slice p css.length cap ∧ css.length ≤ cap ∧ cap ≤ maxLen ∧ Rows (fun b => w.heap[b]?) p ks.length css ∧
      ∀ cs ∈ css, Fits enc P w 0 spare held ks cs := by
  obtain ⟨fuel, hh⟩ := h
  have : v.cells.toList = [v] := by cases v <;> first | rfl | exact absurd rfl (hv _)
  rw [this] at hh
  exact openSlice hu hf hk hc hh

theorem list_of {α : Type} {β : Type} (f : α → β) (Q : α → Prop) : ∀ (css : List β), (∀ cs ∈ css, ∃ x, cs = f x ∧ Q x) → ∃ xs : List α, css = xs.map f ∧ ∀ x ∈ xs, Q x
  | [], _ => ⟨[], rfl, by simp⟩
  | c :: css, h => by
    obtain ⟨x, hx, hq⟩ := h c (List.mem_cons_self ..)
    obtain ⟨xs, hxs, hqs⟩ := list_of f Q css fun c hc => h c (List.mem_cons_of_mem _ hc)
    refine ⟨x :: xs, by simp [hx, hxs], fun y hy => ?_⟩
    rcases List.mem_cons.1 hy with rfl | hy
    · exact hq
    · exact hqs y hy
end

section
variable {H : Type} {enc : TypeId × Value → H} {P : Program} {w : World} {spare : Nat → Bool} {held : Bool}
theorem openInts {t e : TypeId} {fuel : Nat} {c : Value} {x : DataW H × List MemPlace} (hu : P.underlying t = some (.slice e)) (hf : flatT P 9 e = some [.int .i64]) (hc : P.cellsOf e = 1)
    (h : DataW.trod enc P w 0 spare held fuel t [c] = some x) : ∃ (p : Option Addr) (xs : List Int) (cap : Nat), c = .slice p xs.length cap ∧ xs.length ≤ cap ∧ cap ≤ maxLen ∧ Ints (fun b => w.heap[b]?) p xs := by
  obtain ⟨p, css, cap, rfl, h1, h2, h3, h4⟩ := openSlice hu hf (by simp) (by simpa using hc) h
  obtain ⟨xs, rfl, _⟩ := list_of (fun n : Int => [Value.int .i64 n]) (fun _ => True) css fun cs hcs => by
    obtain ⟨n, r, rfl, _, hr⟩ := fits_i64 (h4 cs hcs)
    obtain rfl := fits_nil hr
    exact ⟨n, rfl, trivial⟩
  refine ⟨p, xs, cap, by simp, by simpa using h1, h2, fun i n hi => ?_⟩
  have := h3 i [.int .i64 n] (by simp [hi])
  simpa using this
end

/-! ### The statement's post -/
section
variable {H : Type} {enc : TypeId × Value → H} {P : Program} {W W' : World}

theorem trodAll_below (hl : laidOutB P = true) (hx : Ext W W') : ∀ {ts : List TypeId} {vs : List Value} {ds : List (DataW H)} {ps : List MemPlace}, ts.all (fun t => P.readableRec t && decide (t < P.types.size)) = true →
    (∀ x ∈ ps, x.block < W.heap.size) → DataW.TrodAll enc P W 0 (fun _ => true) true ts vs ds ps → DataW.TrodAll enc P W' 0 (fun b => decide (b < W.heap.size)) true ts vs ds ps
  | [], [], [], _, _, _, h => h
  | t :: ts, v :: vs, d :: ds, ps, ht, hlt, ⟨p, q, h1, h2, h3⟩ => by
    simp only [List.all_cons, Bool.and_eq_true, decide_eq_true_eq] at ht
    subst h3
    refine ⟨p, q, ?_, ?_, rfl⟩
    · exact Below.trod hl ht.1.1 ht.1.2 h1 hx fun x hx' => hlt x (List.mem_append_left _ hx')
    · exact trodAll_below hl hx ht.2 (fun x hx' => hlt x (List.mem_append_right _ hx')) h2

theorem law_post {f : Func} {s : ChangeSpec} {args : Array Value} {ds gs : List (DataW H)} {before : List MemPlace} {t : TypeId} (hl : laidOutB P = true)
    (hpar : f.params.toList.all (fun t => P.readableRec t && decide (t < P.types.size)) = true) (hres : f.resultTypes = [t].toArray) (hu : P.underlying t = some .bool) (hv : s.vars = [])
    (hW : DataW.Whole enc P f.params.toList s.vars false W args.toList ds gs before) (hs0 : s.fn H ds = { results := [.lit (.bool true)], args := ds }) (hx : Ext W W') :
    s.post enc P f false true false false W args (.bool true) W' := by
  have hlt := hW.lt
  have hW' := hW
  obtain ⟨p, q, hA, hV, rfl, _, _⟩ := hW
  rw [hv] at hV
  obtain ⟨rfl, rfl⟩ : gs = [] ∧ q = [] := by
    cases gs with
    | nil => exact ⟨rfl, hV⟩
    | cons _ _ => exact hV.elim
  have hs : s.fn H (ds ++ []) = { results := [.lit (.bool true)], args := ds } := by rw [List.append_nil]; exact hs0
  refine ⟨ds, [], p ++ [], [], p, [], hW', ?_, ?_, ?_, Below.frame hx _, fun h => by cases h⟩
  · rw [hs, hres]
    refine ⟨[], [], ⟨1, ?_⟩, rfl, rfl⟩
    show DataW.trod enc P W' _ _ _ 1 t [.bool true] = _
    simp [DataW.trod, hu]
  · rw [hs]
    exact trodAll_below hl hx hpar (fun x hx' => hlt x (List.mem_append_left _ hx')) hA
  · rw [hs, hv]
    rfl
end

end Go.Proofs.Ytedgbmefajnjeaa.St
