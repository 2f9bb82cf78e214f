/-
  A text cut at a byte. Plain.
-/
import Derived.Test.YthilfmmoeigeoaaDoorPPrs
set_option linter.unusedSimpArgs false
set_option linter.unusedVariables false
namespace Go.Proofs.YthilfmmoeigeoaaDoor.St
open Go.RowKit
/-- the pieces of cur and what follows it, cut at each c of what follows -/
def spl (c : UInt8) : List UInt8 → List UInt8 → List (List UInt8)
  | cur, [] => [cur]
  | cur, x :: r => if x = c then cur :: spl c [] r else spl c (cur ++ [x]) r
theorem spl_ne (c : UInt8) : ∀ (l cur : List UInt8), spl c cur l ≠ []
  | [], cur => by simp [spl]
  | x :: r, cur => by
    simp only [spl]
    split
    · simp
    · exact spl_ne c r _
theorem spl_join (c : UInt8) : ∀ (l cur : List UInt8), Lib.join (spl c cur l) [c] = cur ++ l
  | [], cur => by simp [spl, Lib.join, List.intercalate]
  | x :: r, cur => by
    simp only [spl]
    split
    · rename_i h
      subst h
      have h1 := spl_join x r []
      cases hs : spl x [] r with
      | nil => exact absurd hs (spl_ne x r [])
      | cons y q =>
        rw [hs] at h1
        rw [Lib.join_cons] at h1 ⊢
        simp only [Lib.joinTail, List.map_cons, List.flatten_cons] at h1 ⊢
        rw [List.nil_append] at h1
        rw [← h1]
        simp [List.append_assoc]
    · rw [spl_join c r (cur ++ [x])]
      simp
theorem spl_free (c : UInt8) : ∀ (l cur : List UInt8), c ∉ cur → ∀ y ∈ spl c cur l, c ∉ y
  | [], cur, h, y, hy => by
    simp only [spl, List.mem_singleton] at hy
    subst hy
    exact h
  | x :: r, cur, h, y, hy => by
    simp only [spl] at hy
    split at hy
    · rcases List.mem_cons.1 hy with rfl | hy
      · exact h
      · exact spl_free c r [] (by simp) y hy
    · rename_i hx
      exact spl_free c r _ (by simp only [List.mem_append, List.mem_singleton]; rintro (h' | h'); exact h h'; exact hx h'.symm) y hy
theorem spl_skip (c : UInt8) : ∀ (a cur r : List UInt8), c ∉ a → spl c cur (a ++ r) = spl c (cur ++ a) r
  | [], cur, r, _ => by simp
  | x :: a, cur, r, h => by
    have hx : ¬ x = c := fun e => h (by rw [e]; exact List.mem_cons_self ..)
    simp only [List.cons_append, spl, if_neg hx]
    rw [spl_skip c a (cur ++ [x]) r fun e => h (List.mem_cons_of_mem _ e)]
    simp
/-- pieces without c, joined by c and cut at c, are these pieces -/
theorem spl_of_join (c : UInt8) : ∀ (q : List (List UInt8)) (y : List UInt8), (∀ z ∈ y :: q, c ∉ z) → spl c [] (Lib.join (y :: q) [c]) = y :: q
  | [], y, h => by
    rw [Lib.join_one]
    have := spl_skip c y [] [] (h y (List.mem_cons_self ..))
    rw [List.append_nil] at this
    rw [this]
    simp [spl]
  | z :: q, y, h => by
    have ih := spl_of_join c q z fun u hu => h u (List.mem_cons_of_mem _ hu)
    rw [Lib.join_cons] at ih ⊢
    simp only [Lib.joinTail, List.map_cons, List.flatten_cons, List.cons_append, List.nil_append] at ih ⊢
    rw [spl_skip c y [] _ (h y (List.mem_cons_self ..)), List.nil_append]
    simp only [spl, if_true]
    rw [ih]
end Go.Proofs.YthilfmmoeigeoaaDoor.St
