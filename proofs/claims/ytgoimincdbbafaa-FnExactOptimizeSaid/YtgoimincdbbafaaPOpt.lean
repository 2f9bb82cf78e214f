/-
  Plain laws of folding constants.
-/
import Derived.Test.YtgoimincdbbafaaLwStk
import Derived.Test.YtgoimincdbbafaaLVec
set_option linter.unusedSimpArgs false
set_option linter.unusedVariables false
namespace Go.Proofs.Ytgoimincdbbafaa.St
open Go.RowKit
abbrev satI (n : Int) : Int := (max (-1000000000) (min n 1000000000))
theorem satI_bd (n : Int) : -1000000000 ≤ satI n ∧ satI n ≤ 1000000000 := by unfold satI; omega
abbrev fdv (a b : Int) : Int := fDiv a b
def quoI (a b : Int) : Int := if b < 0 then fdv (-a * 256) (-b) else fdv (a * 256) b
def ari (op a b : Int) : Int := if op = 3 then -b else if op = 4 then a + b else if op = 5 then a - b else if op = 6 then fdv (a * b) 256 else quoI a b
abbrev pushI (v : Int) : TInstruction := (1, ⟨#[]⟩, v)
/-- the value of the group at a list's head, and its length -/
def fold1 (l : List TInstruction) : Option (Int × Nat) := match l[0]?, l[1]?, l[2]? with
  | some x, some y, z => if x.1 = 1 ∧ y.1 = 5 then some (satI (ari y.2.2 0 x.2.2), 2)
    else if x.1 = 1 ∧ y.1 = 1 then match z with
      | some z => if z.1 = 6 then some (satI (ari z.2.2 x.2.2 y.2.2), 3) else none
      | none => none
    else none
  | _, _, _ => none
structure wfO (l : List TInstruction) : Prop where
  out : ∀ x ∈ l, (x.1 = 1 → -1000000000 ≤ x.2.2 ∧ x.2.2 ≤ 1000000000) ∧ (x.1 = 5 → x.2.2 = 3) ∧ (x.1 = 6 → 4 ≤ x.2.2 ∧ x.2.2 ≤ 7)
def putI (l : List TInstruction) (k n : Nat) (v : Int) : List TInstruction := l.take k ++ pushI v :: l.drop (k + n)
structure FstI (l : List TInstruction) (k : Nat) (v : Int) (n : Nat) : Prop where
  no : ∀ j, j < k → fold1 (l.drop j) = none
  yes : fold1 (l.drop k) = some (v, n)
inductive OptR : List TInstruction → List TInstruction → Prop where
  | done {l : List TInstruction} (h : ∀ j, j < l.length → fold1 (l.drop j) = none) : OptR l l
  | step {l l' : List TInstruction} {k n : Nat} {v : Int} (h : FstI l k v n) (r : OptR (putI l k n v) l') : OptR l l'
theorem fold1_short {l : List TInstruction} (h : l.length < 2) : fold1 l = none := by
  match l, h with
  | [], _ => rfl
  | [x], _ => rfl
theorem fold1_some {l : List TInstruction} {v : Int} {n : Nat} (h : fold1 l = some (v, n)) : (n = 2 ∨ n = 3) ∧ n ≤ l.length ∧ (-1000000000 ≤ v ∧ v ≤ 1000000000) := by
  match l, h with
  | [], h => cases h
  | [x], h => cases h
  | [x, y], h =>
    simp only [fold1, List.getElem?_cons_zero, List.getElem?_cons_succ, List.getElem?_nil] at h
    split at h
    · cases h
      exact ⟨.inl rfl, by simp, satI_bd _⟩
    · split at h <;> cases h
  | x :: y :: z :: r, h =>
    simp only [fold1, List.getElem?_cons_zero, List.getElem?_cons_succ] at h
    split at h
    · cases h
      exact ⟨.inl rfl, by simp, satI_bd _⟩
    · split at h
      · split at h
        · cases h
          exact ⟨.inr rfl, by simp, satI_bd _⟩
        · cases h
      · cases h
theorem FstI.det {l : List TInstruction} {k n k' n' : Nat} {v v' : Int} (h : FstI l k v n) (h' : FstI l k' v' n') : k = k' ∧ v = v' ∧ n = n' := by
  have hk : k = k' := by
    rcases Nat.lt_trichotomy k k' with hlt | heq | hgt
    · have := h'.no k hlt
      rw [h.yes] at this
      cases this
    · exact heq
    · have := h.no k' hgt
      rw [h'.yes] at this
      cases this
  subst hk
  have := h.yes.symm.trans h'.yes
  cases this
  exact ⟨rfl, rfl, rfl⟩
theorem OptR.det {l a : List TInstruction} (h : OptR l a) : ∀ {b}, OptR l b → a = b := by
  induction h with
  | done hd =>
    intro b h'
    cases h' with
    | done => rfl
    | step h1 r =>
      rename_i k n v
      have hl := (fold1_some h1.yes).2.1
      have h2 := (fold1_some h1.yes).1
      rw [List.length_drop] at hl
      have := hd k (by omega)
      rw [h1.yes] at this
      cases this
  | step h1 r ih =>
    intro b h'
    cases h' with
    | done hd =>
      rename_i l l' k n v
      have hl := (fold1_some h1.yes).2.1
      have h2 := (fold1_some h1.yes).1
      rw [List.length_drop] at hl
      have := hd k (by omega)
      rw [h1.yes] at this
      cases this
    | step h2 r2 =>
      obtain ⟨rfl, rfl, rfl⟩ := h1.det h2
      exact ih r2
theorem putI_len {l : List TInstruction} {k n : Nat} {v : Int} (h : FstI l k v n) : (putI l k n v).length + n = l.length + 1 ∧ (n = 2 ∨ n = 3) ∧ k + n ≤ l.length := by
  obtain ⟨h1, h2, _⟩ := fold1_some h.yes
  rw [List.length_drop] at h2
  refine ⟨?_, h1, by omega⟩
  simp only [putI, List.length_append, List.length_take, List.length_cons, List.length_drop]
  omega
theorem putI_wf {l : List TInstruction} {k n : Nat} {v : Int} (h : FstI l k v n) (hw : wfO l) : wfO (putI l k n v) := by
  refine ⟨fun x hx => ?_⟩
  rcases List.mem_append.1 hx with hx | hx
  · exact hw.out x (List.mem_of_mem_take hx)
  · rcases List.mem_cons.1 hx with rfl | hx
    · have := (fold1_some h.yes).2.2
      exact ⟨fun _ => this, fun e => by simp at e, fun e => by simp at e⟩
    · exact hw.out x (List.mem_of_mem_drop hx)
theorem runI_wf {n : Int} : ∀ {xs : List TInstruction} {s t : StS}, runI n xs s = some t → ∀ x ∈ xs, wfI x.1 x.2.1 x.2.2 n
  | [], _, _, _, x, hx => by simp at hx
  | y :: r, s, t, h, x, hx => by
    simp only [runI] at h
    split at h
    · rename_i hok
      rcases List.mem_cons.1 hx with rfl | hx
      · exact hok.1
      · exact runI_wf h x hx
    · cases h
/-- a code whose stack can be simulated, and that pushes numbers in range alone -/
def okO (xs : List TInstruction) (n : Nat) : Prop := (∃ m, sdR xs n = .tuple #[I m, .bool true]) ∧ ∀ x ∈ xs, x.1 = 1 → -1000000000 ≤ x.2.2 ∧ x.2.2 ≤ 1000000000
theorem sdR_true {xs : List TInstruction} {n : Nat} {m : Int} (h : sdR xs n = .tuple #[I m, .bool true]) : xs.length ≤ 300 ∧ ∀ x ∈ xs, wfI x.1 x.2.1 x.2.2 n := by
  unfold sdR at h
  split at h
  · rename_i hl
    refine ⟨hl, ?_⟩
    cases hr : runI n xs (List.replicate n false, 0, 0) with
    | none => rw [hr] at h; simp [sdV] at h
    | some t => exact runI_wf hr
  · simp at h
theorem okO.wf {xs : List TInstruction} {n : Nat} (h : okO xs n) : wfO xs := by
  obtain ⟨⟨m, hm⟩, hr⟩ := h
  obtain ⟨_, hw⟩ := sdR_true hm
  refine ⟨fun x hx => ⟨hr x hx, fun e => ?_, fun e => ?_⟩⟩
  · have := hw x hx
    simp only [wfI, e] at this
    omega
  · have := hw x hx
    simp only [wfI, e] at this
    omega
theorem okO.all {xs : List TInstruction} {n : Nat} (hn : n ≤ 1048576) (h : okO xs n) : ∀ x ∈ xs, -1000000000 ≤ x.2.2 ∧ x.2.2 ≤ 1000000000 := by
  obtain ⟨⟨m, hm⟩, hr⟩ := h
  obtain ⟨_, hw⟩ := sdR_true hm
  intro x hx
  by_cases h1 : x.1 = 1
  · exact hr x hx h1
  · have := hw x hx
    simp only [wfI] at this
    omega
end Go.Proofs.Ytgoimincdbbafaa.St
