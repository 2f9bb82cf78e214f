/-
  Texts of textures, read. Plain.
-/
import Derived.Test.YthilfmmoeigeoaaDoorPSpl
set_option linter.unusedSimpArgs false
set_option linter.unusedVariables false
namespace Go.Proofs.YthilfmmoeigeoaaDoor.St
open Go.RowKit
theorem itoa_no {n : Int} {c : UInt8} (h1 : c.toNat < 48 ∨ 57 < c.toNat) (h2 : c.toNat ≠ 45) : c ∉ Lib.itoa n := fun h => by
  by_cases hn : n < 0
  · have : Lib.itoa n = 45 :: Lib.decDigits n.natAbs := by simp [Lib.itoa, hn]
    rw [this] at h
    rcases List.mem_cons.1 h with rfl | h
    · exact h2 rfl
    · have := dd_digits _ c h
      omega
  · rw [itoa_pos hn] at h
    have := dd_digits _ c h
    omega
theorem itoa_inj {n m : Int} (h : Lib.itoa n = Lib.itoa m) : n = m := by rw [← readT_itoa n, h, readT_itoa]
theorem map_itoa_inj : ∀ {xs ys : List Int}, xs.map Lib.itoa = ys.map Lib.itoa → xs = ys
  | [], [], _ => rfl
  | [], y :: ys, h => by simp at h
  | x :: xs, [], h => by simp at h
  | x :: xs, y :: ys, h => by
    simp only [List.map_cons, List.cons.injEq] at h
    rw [itoa_inj h.1, map_itoa_inj h.2]
def itP (l : List UInt8) (xs : List Int) : Prop := okTx xs ∧ lTx xs = l
theorem lTx_cons {x : Int} {xs : List Int} : lTx (x :: xs) = Lib.join (Lib.itoa x :: xs.map Lib.itoa) [44] := by rw [lTx, if_neg (by simp)]; rfl
theorem spl_lTx {x : Int} {xs : List Int} : spl 44 [] (lTx (x :: xs)) = (x :: xs).map Lib.itoa := by
  rw [lTx_cons, spl_of_join 44 _ _ fun z hz => ?_]
  · rfl
  · have : z ∈ (x :: xs).map Lib.itoa := hz
    obtain ⟨n, _, rfl⟩ := List.mem_map.1 this
    exact itoa_no (.inl (by decide)) (by decide)
theorem lTx_inj {xs ys : List Int} (hx : xs ≠ []) (hy : ys ≠ []) (h : lTx xs = lTx ys) : xs = ys := by
  cases xs with
  | nil => exact absurd rfl hx
  | cons x xs =>
    cases ys with
    | nil => exact absurd rfl hy
    | cons y ys =>
      have := spl_lTx (x := x) (xs := xs)
      rw [h, spl_lTx] at this
      exact (map_itoa_inj this).symm
theorem ints_of_parts {l : List UInt8} {xs : List Int} (hok : okTx xs) (h : spl 44 [] l = xs.map Lib.itoa) : itP l xs := by
  refine ⟨hok, ?_⟩
  have hj := spl_join 44 l []
  rw [h, List.nil_append] at hj
  rw [lTx, if_neg fun e => ?_, hj]
  subst e
  exact spl_ne 44 l [] h
theorem parts_of_ints {l : List UInt8} {xs : List Int} (hl : l ≠ [45]) (h : itP l xs) : spl 44 [] l = xs.map Lib.itoa := by
  obtain ⟨_, rfl⟩ := h
  cases xs with
  | nil => exact absurd (by simp [lTx]) hl
  | cons x xs => exact spl_lTx
theorem ints_none : itP [45] [] := ⟨fun n hn => absurd hn (by simp), by simp [lTx]⟩
theorem part_ints {l : List UInt8} {xs : List Int} (hl : l ≠ [45]) (h : itP l xs) {k : Nat} {y : List UInt8} (hk : (spl 44 [] l)[k]? = some y) : ∃ n, isTx (bs y) n := by
  rw [parts_of_ints hl h, List.getElem?_map] at hk
  cases hx : xs[k]? with
  | none => rw [hx] at hk; simp at hk
  | some n =>
    rw [hx] at hk
    simp only [Option.map_some, Option.some.injEq] at hk
    exact ⟨n, h.1 n (List.mem_of_getElem? hx), by rw [← hk]⟩
theorem joinTail_long (r : List (List UInt8)) : r.length ≤ (Lib.joinTail [44] r).length := by
  rw [Lib.joinTail_length]
  simp only [List.length_singleton, Nat.one_mul]
  omega
theorem ints_len {l : List UInt8} {xs : List Int} (h : itP l xs) : xs.length ≤ l.length + 1 := by
  obtain ⟨_, rfl⟩ := h
  cases xs with
  | nil => simp
  | cons x xs =>
    rw [lTx_cons, Lib.join_cons, List.length_append]
    have := joinTail_long (xs.map Lib.itoa)
    simp only [List.length_map, List.length_cons] at this ⊢
    omega
theorem spl_len (c : UInt8) : ∀ (l cur : List UInt8), (spl c cur l).length ≤ l.length + 1
  | [], cur => by simp [spl]
  | x :: r, cur => by
    simp only [spl]
    split
    · have := spl_len c r []
      simp only [List.length_cons]
      omega
    · have := spl_len c r (cur ++ [x])
      simp only [List.length_cons]
      omega
theorem spl_part_len (c : UInt8) : ∀ (l cur : List UInt8), ∀ y ∈ spl c cur l, y.length ≤ cur.length + l.length
  | [], cur, y, hy => by
    simp only [spl, List.mem_singleton] at hy
    subst hy
    simp
  | x :: r, cur, y, hy => by
    simp only [spl] at hy
    split at hy
    · rcases List.mem_cons.1 hy with rfl | hy
      · simp
      · have := spl_part_len c r [] y hy
        simp only [List.length_nil, List.length_cons] at this ⊢
        omega
    · have := spl_part_len c r (cur ++ [x]) y hy
      simp only [List.length_append, List.length_cons, List.length_nil] at this ⊢
      omega
end Go.Proofs.YthilfmmoeigeoaaDoor.St
