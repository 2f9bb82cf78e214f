/-
  Textures read: what the text of one says. Plain.
-/
import Derived.Test.YthilfmmoeigeoaaDoorLFtx
import Derived.Test.YthilfmmoeigeoaaDoorLPis
set_option linter.unusedSimpArgs false
set_option linter.unusedVariables false
namespace Go.Proofs.YthilfmmoeigeoaaDoor.St
open Go.RowKit
def PT (l : List UInt8) (g : Int) (xs : List Int) : Prop := vTex g xs ∧ l = Lib.itoa g ++ 58 :: lTx xs
theorem vTex_ne {g : Int} {xs : List Int} (h : vTex g xs) : xs ≠ [] := fun e => by
  subst e
  have := h.1
  simp at this
theorem fTx_yes {g : Int} {xs : List Int} {s : ByteArray} (h : PT (tL s) g xs) : fTx g xs = s := by
  rw [fTx, if_pos h.1, show (⟨#[58]⟩ : ByteArray) = bs [58] from rfl, bs_append, bs_append, List.append_assoc, List.singleton_append, ← h.2]
theorem fTx_pt {g : Int} {xs : List Int} {s : ByteArray} (hs : ¬ fTx g xs = ⟨#[]⟩) (h : fTx g xs = s) : PT (tL s) g xs := by
  have hv : vTex g xs := Classical.byContradiction fun e => hs (by rw [fTx, if_neg e])
  refine ⟨hv, ?_⟩
  rw [← h, fTx, if_pos hv, show (⟨#[58]⟩ : ByteArray) = bs [58] from rfl, bs_append, bs_append, List.append_assoc, List.singleton_append]
theorem pt_some {g : Int} {xs : List Int} {s : ByteArray} (h : PT (tL s) g xs) : ¬ s = ⟨#[]⟩ := fun e => by
  have h2 := h.2
  subst e
  have := congrArg List.length h2
  simp at this
theorem itoa_ne45 (n : Int) : Lib.itoa n ≠ [45] := fun e => by
  have h1 := readT_itoa n
  rw [e] at h1
  have : readT [45] = 0 := by
    unfold readT
    rw [if_pos (by rfl)]
    simp [dval]
  rw [this] at h1
  subst h1
  rw [itoa_pos (by omega)] at e
  have := dd_digits 0 45 (by rw [show (0 : Int).toNat = 0 from rfl] at e; rw [e]; simp)
  simp at this
theorem lTx_ne45 {xs : List Int} (h : xs ≠ []) : lTx xs ≠ [45] := fun e => by
  cases xs with
  | nil => exact h rfl
  | cons x xs =>
    have h1 := spl_lTx (x := x) (xs := xs)
    rw [e] at h1
    simp only [spl] at h1
    rw [if_neg (by decide)] at h1
    simp only [List.map_cons, List.nil_append, List.cons.injEq] at h1
    exact itoa_ne45 x h1.1.symm
theorem itP_inj {l : List UInt8} {xs ys : List Int} (hx : itP l xs) (hy : itP l ys) : xs = ys := by
  by_cases h1 : xs = []
  · by_cases h2 : ys = []
    · rw [h1, h2]
    · exact absurd (by rw [hy.2, ← hx.2, h1]; simp [lTx]) (lTx_ne45 h2)
  · by_cases h2 : ys = []
    · exact absurd (by rw [hx.2, ← hy.2, h2]; simp [lTx]) (lTx_ne45 h1)
    · exact lTx_inj h1 h2 (by rw [hx.2, hy.2])
theorem itP_nil {xs : List Int} (h : itP [] xs) : False := by
  obtain ⟨_, h⟩ := h
  cases xs with
  | nil => simp [lTx] at h
  | cons x xs =>
    rw [lTx_cons, Lib.join_cons] at h
    have h1 := (List.append_eq_nil_iff.1 h).1
    have h2 := readT_itoa x
    rw [h1] at h2
    have h3 : readT [] = 0 := by
      unfold readT
      rw [if_neg (by simp [negT])]
      simp [dval]
    rw [h3] at h2
    subst h2
    rw [itoa_pos (by omega)] at h1
    have := decDigits_pos 0
    rw [show (0 : Int).toNat = 0 from rfl] at h1
    rw [h1] at this
    simp at this
theorem lTx_no58 (xs : List Int) : (58 : UInt8) ∉ lTx xs := fun h => by
  cases xs with
  | nil => simp [lTx] at h
  | cons x xs =>
    rw [lTx_cons, Lib.join_cons] at h
    rcases List.mem_append.1 h with h | h
    · exact itoa_no (.inr (by decide)) (by decide) h
    · simp only [Lib.joinTail, List.mem_flatten, List.mem_map] at h
      obtain ⟨y, ⟨z, ⟨n, _, rfl⟩, rfl⟩, hy⟩ := h
      rcases List.mem_append.1 hy with hy | hy
      · simp at hy
      · exact itoa_no (.inr (by decide)) (by decide) hy
theorem itoa_no58 (n : Int) : (58 : UInt8) ∉ Lib.itoa n := itoa_no (.inr (by decide)) (by decide)
theorem pt_spl {l : List UInt8} {g : Int} {xs : List Int} (h : PT l g xs) : spl 58 [] l = [Lib.itoa g, lTx xs] := by
  rw [h.2, spl_skip 58 _ [] _ (itoa_no58 g), List.nil_append, spl_hit]
  have := spl_skip 58 (lTx xs) [] [] (lTx_no58 xs)
  rw [List.append_nil, List.nil_append] at this
  rw [this]
  simp only [spl]
theorem first_eq {c : UInt8} : ∀ {a b r t : List UInt8}, c ∉ a → c ∉ b → a ++ c :: r = b ++ c :: t → a = b ∧ r = t
  | [], [], r, t, _, _, h => by simpa using h
  | [], y :: b, r, t, _, hb, h => by
    simp only [List.nil_append, List.cons_append, List.cons.injEq] at h
    exact absurd (List.mem_cons.2 (.inl h.1)) hb
  | x :: a, [], r, t, ha, _, h => by
    simp only [List.nil_append, List.cons_append, List.cons.injEq] at h
    exact absurd (List.mem_cons.2 (.inl h.1.symm)) ha
  | x :: a, y :: b, r, t, ha, hb, h => by
    simp only [List.cons_append, List.cons.injEq] at h
    obtain ⟨e1, e2⟩ := first_eq (fun e => ha (List.mem_cons_of_mem _ e)) (fun e => hb (List.mem_cons_of_mem _ e)) h.2
    exact ⟨by rw [h.1, e1], e2⟩
theorem pt_cut {l a r : List UInt8} {g : Int} {xs : List Int} (h : PT l g xs) (hl : l = a ++ 58 :: r) (ha : (58 : UInt8) ∉ a) : a = Lib.itoa g ∧ r = lTx xs := by
  have := h.2
  rw [hl] at this
  exact first_eq ha (itoa_no58 g) this
theorem pt_has {l : List UInt8} {g : Int} {xs : List Int} (h : PT l g xs) : (58 : UInt8) ∈ l := by rw [h.2]; simp
theorem pt_tx {g : Int} {xs : List Int} {l : List UInt8} (h : PT l g xs) : isTx (bs (Lib.itoa g)) g := ⟨by have := vTex_g h.1; omega, rfl⟩
theorem pt_it {g : Int} {xs : List Int} {l : List UInt8} (h : PT l g xs) : itP (lTx xs) xs := ⟨okTx_of h.1, rfl⟩
theorem pt_inj {l : List UInt8} {g g' : Int} {xs xs' : List Int} (h : PT l g xs) (h' : PT l g' xs') : g = g' ∧ xs = xs' := by
  have h1 := pt_spl h
  rw [pt_spl h'] at h1
  simp only [List.cons.injEq, and_true] at h1
  exact ⟨itoa_inj h1.1.symm, lTx_inj (vTex_ne h.1) (vTex_ne h'.1) h1.2.symm⟩
theorem pt_of {a r : List UInt8} {g : Int} {xs : List Int} (ha : isTx (bs a) g) (hr : itP r xs) (hv : vTex g xs) : PT (a ++ 58 :: r) g xs := by
  refine ⟨hv, ?_⟩
  have : a = Lib.itoa g := isTx_list ha
  rw [this, hr.2]
theorem ints_short {l : List UInt8} {xs : List Int} (h : itP l xs) : xs.length ≤ l.length := by
  obtain ⟨hok, rfl⟩ := h
  cases xs with
  | nil => simp
  | cons x xs =>
    rw [lTx_cons, Lib.join_cons, List.length_append]
    have h1 := joinTail_long (xs.map Lib.itoa)
    have h2 := (iTx_size (hok x (List.mem_cons_self ..))).1
    simp only [List.length_map, List.length_cons] at h1 ⊢
    omega
def ptP (s : ByteArray) (v : Value) (L' : List Own) : Prop := (v = .tuple #[.agg #[I 0, .slice none 0 0], .bool false] ∧ L' = [] ∧ ∀ g xs, ¬ PT (tL s) g xs) ∨ ∃ g xs p c, v = .tuple #[.agg #[I g, .slice p xs.length c], .bool true] ∧ L' = [.row (.slice p xs.length c) 3 1 (xs.map eI).flatten] ∧ PT (tL s) g xs
end Go.Proofs.YthilfmmoeigeoaaDoor.St
