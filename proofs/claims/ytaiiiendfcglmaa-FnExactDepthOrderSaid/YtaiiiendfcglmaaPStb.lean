/-
  Sorting by swaps within a row: what the pieces leave. Plain.
-/
import Derived.Test.YtaiiiendfcglmaaStOwn
set_option linter.unusedSimpArgs false
set_option linter.unusedVariables false
namespace Go.Proofs.Ytaiiiendfcglmaa.St
open Go.RowKit
/-- a stands ahead of b -/
def ltK (nr : Int → Int) (a b : Int) : Prop := nr a < nr b ∨ (nr a = nr b ∧ a < b)
theorem ltK_asymm {nr : Int → Int} {a b : Int} (h : ltK nr a b) : ¬ ltK nr b a := by unfold ltK at *; omega
theorem leK_trans {nr : Int → Int} {a b c : Int} (h1 : ¬ ltK nr b a) (h2 : ¬ ltK nr c b) : ¬ ltK nr c a := by unfold ltK at *; omega
theorem leK_antisymm {nr : Int → Int} {a b : Int} (h1 : ¬ ltK nr b a) (h2 : ¬ ltK nr a b) : a = b := by unfold ltK at *; omega
theorem leK_refl {nr : Int → Int} {a : Int} : ¬ ltK nr a a := by unfold ltK; omega
abbrev So (nr : Int → Int) (l : List Int) : Prop := l.Pairwise fun a b => ¬ ltK nr b a
theorem so_get {nr : Int → Int} {l : List Int} (h : So nr l) {i j : Nat} {a b : Int} (hi : l[i]? = some a) (hj : l[j]? = some b) (hij : i ≤ j) : ¬ ltK nr b a := by
  obtain ⟨hi1, rfl⟩ := List.getElem?_eq_some_iff.1 hi
  obtain ⟨hj1, rfl⟩ := List.getElem?_eq_some_iff.1 hj
  rcases Nat.lt_or_ge i j with h1 | h1
  · exact List.pairwise_iff_getElem.1 h i j hi1 hj1 h1
  · obtain rfl : i = j := by omega
    exact leK_refl
theorem mem_take_ix {l : List Int} {i : Nat} {a : Int} (h : a ∈ l.take i) : ∃ k, k < i ∧ l[k]? = some a := by
  obtain ⟨k, hk, rfl⟩ := List.mem_iff_getElem.1 h
  rw [List.length_take] at hk
  exact ⟨k, by omega, by rw [List.getElem_take, List.getElem?_eq_getElem]⟩
theorem mem_drop_ix {l : List Int} {i : Nat} {a : Int} (h : a ∈ l.drop i) : ∃ k, i ≤ k ∧ l[k]? = some a := by
  obtain ⟨k, hk, rfl⟩ := List.mem_iff_getElem.1 h
  rw [List.length_drop] at hk
  exact ⟨i + k, by omega, by rw [List.getElem_drop, List.getElem?_eq_getElem]⟩
theorem so_ins {nr : Int → Int} {l : List Int} {x : Int} {i : Nat} (h : So nr l) (hi : i ≤ l.length) (hl : i = 0 ∨ ∃ y, l[i - 1]? = some y ∧ ¬ ltK nr x y) (hr : i = l.length ∨ ∃ y, l[i]? = some y ∧ ¬ ltK nr y x) : So nr (l.take i ++ x :: l.drop i) := by
  have h1 : ∀ a ∈ l.take i, ¬ ltK nr x a := fun a ha => by
    obtain ⟨k, hk, hk2⟩ := mem_take_ix ha
    rcases hl with h0 | ⟨y, hy, hxy⟩
    · omega
    · exact leK_trans (so_get h hk2 hy (by omega)) hxy
  have h2 : ∀ b ∈ l.drop i, ¬ ltK nr b x := fun b hb => by
    obtain ⟨k, hk, hk2⟩ := mem_drop_ix hb
    rcases hr with h0 | ⟨y, hy, hxy⟩
    · have := (List.getElem?_eq_some_iff.1 hk2).1
      omega
    · exact leK_trans hxy (so_get h hy hk2 hk)
  refine List.pairwise_append.2 ⟨h.sublist (List.take_sublist _ _), List.pairwise_cons.2 ⟨h2, h.sublist (List.drop_sublist _ _)⟩, fun a ha b hb => ?_⟩
  rcases List.mem_cons.1 hb with rfl | hb
  · exact h1 a ha
  · exact leK_trans (h1 a ha) (h2 b hb)
theorem perm_ins {l : List Int} {x : Int} {i : Nat} : (l.take i ++ x :: l.drop i).Perm (x :: l) := by
  refine List.perm_middle.trans ?_
  rw [List.take_append_drop]
theorem so_halves {nr : Int → Int} {F G C1 C2 : List Int} {s e : Nat} (hA : So nr F) (hB : So nr G) (h1 : C1.Perm (F.take s ++ G.take e)) (h2 : C2.Perm (F.drop s ++ G.drop e)) (hs1 : So nr C1) (hs2 : So nr C2)
    (hAB : s = 0 ∨ e = G.length ∨ ∃ u v, F[s - 1]? = some u ∧ G[e]? = some v ∧ ¬ ltK nr v u) (hBA : e = 0 ∨ s = F.length ∨ ∃ u v, G[e - 1]? = some u ∧ F[s]? = some v ∧ ¬ ltK nr v u) : So nr (C1 ++ C2) := by
  refine List.pairwise_append.2 ⟨hs1, hs2, fun x hx y hy => ?_⟩
  rcases List.mem_append.1 (h1.mem_iff.1 hx) with hx | hx <;> rcases List.mem_append.1 (h2.mem_iff.1 hy) with hy | hy
  all_goals
    obtain ⟨i, hi, hi2⟩ := mem_take_ix hx
    obtain ⟨j, hj, hj2⟩ := mem_drop_ix hy
  · exact so_get hA hi2 hj2 (by omega)
  · rcases hAB with h0 | h0 | ⟨u, v, hu, hv, huv⟩
    · omega
    · have := (List.getElem?_eq_some_iff.1 hj2).1
      omega
    · exact leK_trans (so_get hA hi2 hu (by omega)) (leK_trans huv (so_get hB hv hj2 hj))
  · rcases hBA with h0 | h0 | ⟨u, v, hu, hv, huv⟩
    · omega
    · have := (List.getElem?_eq_some_iff.1 hj2).1
      omega
    · exact leK_trans (so_get hB hi2 hu (by omega)) (leK_trans huv (so_get hA hv hj2 hj))
  · exact so_get hB hi2 hj2 (by omega)
theorem so_uniq {nr : Int → Int} : ∀ {l l' : List Int}, l.Perm l' → So nr l → So nr l' → l = l'
  | [], l', h, _, _ => (List.Perm.eq_nil h.symm).symm
  | x :: l, [], h, _, _ => absurd (List.Perm.eq_nil h) (by simp)
  | x :: l, y :: l', h, h1, h2 => by
    have hx : x ∈ y :: l' := h.mem_iff.1 (List.mem_cons_self ..)
    have hy : y ∈ x :: l := h.mem_iff.2 (List.mem_cons_self ..)
    have hxy : x = y := by
      rcases List.mem_cons.1 hx with e | hx
      · exact e
      rcases List.mem_cons.1 hy with e | hy
      · exact e.symm
      exact leK_antisymm ((List.pairwise_cons.1 h1).1 y hy) ((List.pairwise_cons.1 h2).1 x hx)
    subst hxy
    rw [so_uniq (List.Perm.cons_inv h) (List.pairwise_cons.1 h1).2 (List.pairwise_cons.1 h2).2]
theorem set_mid {α : Type} {U V : List α} {x y : α} {i : Nat} (h : i = U.length) : (U ++ x :: V).set i y = U ++ y :: V := by
  subst h
  simp
theorem get_mid {α : Type} {U V : List α} {x : α} {i : Nat} (h : i = U.length) : (U ++ x :: V)[i]? = some x := by
  subst h
  simp
/-- two neighbours swapped -/
theorem swap_near {U V : List Int} {x y : Int} {i j : Nat} (hi : i = U.length) (hj : j = U.length + 1) : ((U ++ x :: y :: V).set i y).set j x = U ++ y :: x :: V := by
  rw [set_mid hi, show U ++ y :: y :: V = (U ++ [y]) ++ y :: V by simp, set_mid (by simp [hj])]
  simp
theorem swap_near2 {U V : List Int} {x y : Int} {i j : Nat} (hi : i = U.length) (hj : j = U.length + 1) : ((U ++ x :: y :: V).set j x).set i y = U ++ y :: x :: V := by
  rw [show U ++ x :: y :: V = (U ++ [x]) ++ y :: V by simp, set_mid (by simp [hj]), show (U ++ [x]) ++ x :: V = U ++ x :: x :: V by simp, set_mid hi]
/-- two places swapped -/
theorem swap_far {U V W : List Int} {x y : Int} {i j : Nat} (hi : i = U.length) (hj : j = U.length + 1 + V.length) : ((U ++ x :: (V ++ y :: W)).set i y).set j x = U ++ y :: (V ++ x :: W) := by
  rw [set_mid hi, show U ++ y :: (V ++ y :: W) = (U ++ y :: V) ++ y :: W by simp, set_mid (by simp [hj]; omega)]
  simp
/-- the row in the midst of swapping two stretches -/
def swpK (P X M Y R : List Int) (k : Nat) : List Int := P ++ Y.take k ++ X.drop k ++ M ++ X.take k ++ Y.drop k ++ R
theorem swpK_zero (P X M Y R : List Int) : swpK P X M Y R 0 = P ++ X ++ M ++ Y ++ R := by simp [swpK]
theorem swpK_full {P X M Y R : List Int} {n : Nat} (hX : X.length = n) (hY : Y.length = n) : swpK P X M Y R n = P ++ Y ++ M ++ X ++ R := by
  simp [swpK, List.take_of_length_le (Nat.le_of_eq hX), List.take_of_length_le (Nat.le_of_eq hY), List.drop_of_length_le (Nat.le_of_eq hX), List.drop_of_length_le (Nat.le_of_eq hY)]
theorem swpK_parts {P X M Y R : List Int} {n k : Nat} (hX : X.length = n) (hY : Y.length = n) (hk : k < n) : ∃ U V W x y, swpK P X M Y R k = U ++ x :: (V ++ y :: W) ∧ swpK P X M Y R (k + 1) = U ++ y :: (V ++ x :: W) ∧ U.length = P.length + k ∧ U.length + 1 + V.length = P.length + n + M.length + k := by
  have hkX : k < X.length := by omega
  have hkY : k < Y.length := by omega
  refine ⟨P ++ Y.take k, X.drop (k + 1) ++ M ++ X.take k, Y.drop (k + 1) ++ R, X[k], Y[k], ?_, ?_, ?_, ?_⟩
  · rw [swpK, List.drop_eq_getElem_cons hkX, List.drop_eq_getElem_cons hkY]
    simp only [List.append_assoc, List.cons_append]
  · rw [swpK, List.take_add_one, List.take_add_one, List.getElem?_eq_getElem hkX, List.getElem?_eq_getElem hkY]
    simp only [List.append_assoc, List.cons_append, Option.toList_some, List.nil_append]
  · simp only [List.length_append, List.length_take]
    omega
  · simp only [List.length_append, List.length_take, List.length_drop]
    omega
theorem swpK_len (P X M Y R : List Int) (k : Nat) : (swpK P X M Y R k).length = P.length + X.length + M.length + Y.length + R.length := by
  simp only [swpK, List.length_append, List.length_take, List.length_drop]
  omega
end Go.Proofs.Ytaiiiendfcglmaa.St
