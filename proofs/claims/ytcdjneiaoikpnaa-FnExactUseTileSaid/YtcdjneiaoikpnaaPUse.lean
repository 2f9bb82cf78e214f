/-
  Plain laws of a cache: which tiles are kept.
-/
import Derived.Test.YtcdjneiaoikpnaaLOrs
set_option linter.unusedSimpArgs false
set_option linter.unusedVariables false
namespace Go.Proofs.Ytcdjneiaoikpnaa.St
open Go.RowKit
def entsF (xs : List TTile) (k : Nat) : List (MEnt TTile) := (xs.zipIdx k).map fun q => (q.1, (q.2 : Int), q.2)
abbrev ents (xs : List TTile) : List (MEnt TTile) := entsF xs 0
theorem entsF_cons (x : TTile) (xs : List TTile) (k : Nat) : entsF (x :: xs) k = (x, (k : Int), k) :: entsF xs (k + 1) := by simp [entsF]
theorem entsF_len (xs : List TTile) (k : Nat) : (entsF xs k).length = xs.length := by simp [entsF]
theorem ents_snoc (xs : List TTile) (x : TTile) : ents (xs ++ [x]) = ents xs ++ [(x, (xs.length : Int), xs.length)] := by simp [entsF, List.zipIdx_append]
theorem ents_keys (xs : List TTile) (k : Nat) : (entsF xs k).map (·.1) = xs := by
  induction xs generalizing k with
  | nil => rfl
  | cons x xs ih => rw [entsF_cons, List.map_cons, ih]
theorem ents_vals (xs : List TTile) : ∀ k, (entsF xs k).Pairwise (fun a b => a.2.1 < b.2.1) ∧ ∀ e ∈ entsF xs k, (k : Int) ≤ e.2.1 ∧ e.2.1 < k + xs.length ∧ e.2.1 = e.2.2 := by
  induction xs with
  | nil => intro k; simp [entsF]
  | cons x xs ih =>
    intro k
    obtain ⟨h1, h2⟩ := ih (k + 1)
    rw [entsF_cons]
    refine ⟨List.pairwise_cons.2 ⟨fun e he => ?_, h1⟩, fun e he => ?_⟩
    · have := h2 e he
      show (k : Int) < e.2.1
      omega
    · rcases List.mem_cons.1 he with rfl | he
      · refine ⟨Int.le_refl _, ?_, rfl⟩
        show (k : Int) < k + ((xs.length + 1 : Nat) : Int)
        omega
      · have := h2 e he
        simp only [List.length_cons]
        omega
theorem ents_borns (xs : List TTile) : ((ents xs).map (·.2.2)).Nodup := by
  have h := ents_vals xs 0
  rw [List.nodup_iff_pairwise_ne, List.pairwise_map]
  refine (List.Pairwise.and_mem.1 h.1).imp fun ⟨ha, hb, hlt⟩ => ?_
  have h1 := h.2 _ ha
  have h2 := h.2 _ hb
  omega
theorem fI_fnd : ∀ (xs : List TTile) (x : TTile) (k i : Nat), (fI xs x k = -1 ∧ fnd (entsF xs k) x i = none) ∨ ∃ m : Nat, fI xs x k = (k + m : Nat) ∧ fnd (entsF xs k) x i = some (i + m, ((k + m : Nat) : Int)) ∧ xs[m]? = some x
  | [], x, k, i => .inl ⟨rfl, rfl⟩
  | y :: ys, x, k, i => by
    rw [entsF_cons]
    simp only [fI, fnd]
    by_cases hxy : x = y
    · subst hxy
      exact .inr ⟨0, by simp, by simp, rfl⟩
    · have hyx : ¬ y = x := fun e => hxy e.symm
      simp only [hxy, hyx, if_false]
      have ih := fI_fnd ys x (k + 1) (i + 1)
      rw [show ((k + 1 : Nat) : Int) = (k : Int) + 1 by omega] at ih
      rcases ih with ⟨h1, h2⟩ | ⟨m, h1, h2, h3⟩
      · exact .inl ⟨h1, h2⟩
      · refine .inr ⟨m + 1, by rw [h1]; omega, ?_, h3⟩
        rw [h2]
        simp only [Option.some.injEq, Prod.mk.injEq]
        omega
theorem uq_nodup {xs : List TTile} (h : uq xs) : xs.Nodup := by
  rw [List.nodup_iff_pairwise_ne, List.pairwise_iff_getElem]
  intro i j hi hj hij e
  have h1 := h i xs[i] (List.getElem?_eq_getElem hi)
  have h2 := h j xs[j] (List.getElem?_eq_getElem hj)
  rw [e] at h1
  omega
/-- entries in the order of their values: the keys in the order of their ages -/
theorem sorted_of {es l : List (MEnt TTile)} (hp : es.Perm l) (hk : (l.map (·.1)).Nodup) (hs : es.Pairwise fun a b => a.2.1 < b.2.1) : (es.map (·.1)).Perm (l.map (·.1)) ∧ (es.map (·.1)).Pairwise fun x y => ageOf l x < ageOf l y := by
  refine ⟨hp.map _, ?_⟩
  rw [List.pairwise_map]
  refine (List.Pairwise.and_mem.1 hs).imp fun ⟨ha, hb, hlt⟩ => ?_
  unfold ageOf
  rw [lkT_of_mem hk (hp.mem_iff.1 ha), lkT_of_mem hk (hp.mem_iff.1 hb)]
  exact hlt
theorem map_eraseIdxT {α β : Type} (f : α → β) : ∀ (l : List α) (j : Nat), (l.eraseIdx j).map f = (l.map f).eraseIdx j
  | [], _ => rfl
  | _ :: _, 0 => rfl
  | x :: l, j + 1 => by simp only [List.eraseIdx_cons_succ, List.map_cons, map_eraseIdxT f l j]
theorem perm_modify {α : Type} (f : α → α) : ∀ {l : List α} {j : Nat} {x : α}, l[j]? = some x → (l.eraseIdx j ++ [f x]).Perm (l.modify j f)
  | [], _, _, h => by simp at h
  | y :: ys, 0, x, h => by
    simp only [List.getElem?_cons_zero, Option.some.injEq] at h
    subst h
    simp only [List.eraseIdx_cons_zero, List.modify_zero_cons]
    exact List.perm_append_comm
  | y :: ys, j + 1, x, h => by
    simp only [List.getElem?_cons_succ] at h
    simp only [List.eraseIdx_cons_succ, List.cons_append, List.modify_succ_cons]
    exact (perm_modify f h).cons y
/-- what the cache holds after a tile was used -/
def useL (r : Int) (xs : List TTile) (x : TTile) : List TTile := if 0 ≤ fI xs x 0 then xs.eraseIdx (fI xs x 0).toNat ++ [x] else if r < xs.length + 1 then (xs ++ [x]).drop 1 else xs ++ [x]
def useN (xs : List TTile) (x : TTile) (l : Int) : Int := if 0 ≤ fI xs x 0 then l else l + 1
theorem old_sorted {xs : List TTile} {x : TTile} {m : Nat} (hx : xs[m]? = some x) (hn : xs.Nodup) :
    (xs.eraseIdx m ++ [x]).Perm (((ents xs).modify m fun e => (x, (xs.length : Int), e.2.2)).map (·.1)) ∧ (xs.eraseIdx m ++ [x]).Pairwise fun a b => ageOf ((ents xs).modify m fun e => (x, (xs.length : Int), e.2.2)) a < ageOf ((ents xs).modify m fun e => (x, (xs.length : Int), e.2.2)) b := by
  have hm := (List.getElem?_eq_some_iff.1 hx).1
  have hem : (ents xs)[m]? = some (x, (m : Int), m) := by simp [entsF, hx]
  have hp := perm_modify (fun e : MEnt TTile => (x, (xs.length : Int), e.2.2)) hem
  have hv := ents_vals xs 0
  have hkeys : ((ents xs).modify m fun e => (x, (xs.length : Int), e.2.2)).map (·.1) = xs := by
    apply List.ext_getElem?
    intro i
    rw [List.getElem?_map, List.getElem?_modify]
    have h1 : ((ents xs)[i]?).map (·.1) = xs[i]? := by rw [← List.getElem?_map, ents_keys]
    by_cases him : m = i
    · subst him
      rw [hem, hx]
      simp
    · simp only [him, if_false]
      cases hq : (ents xs)[i]? with
      | none => rw [hq] at h1; exact h1
      | some e => rw [hq] at h1; exact h1
  have hs : ((ents xs).eraseIdx m ++ [(x, (xs.length : Int), m)]).Pairwise fun a b => a.2.1 < b.2.1 := by
    rw [List.pairwise_append]
    refine ⟨hv.1.sublist (List.eraseIdx_sublist _ _), by simp, fun a ha b hb => ?_⟩
    obtain rfl := List.mem_singleton.1 hb
    have := hv.2 a ((List.eraseIdx_sublist _ _).subset ha)
    show a.2.1 < (xs.length : Int)
    omega
  have := sorted_of hp (by rw [hkeys]; exact hn) hs
  have e : ((ents xs).eraseIdx m ++ [(x, (xs.length : Int), m)]).map (·.1) = xs.eraseIdx m ++ [x] := by
    rw [List.map_append, map_eraseIdxT, ents_keys]
    rfl
  rw [e] at this
  exact this
theorem new_sorted {ys : List TTile} (hn : ys.Nodup) : ys.Perm ((ents ys).map (·.1)) ∧ ys.Pairwise fun a b => ageOf (ents ys) a < ageOf (ents ys) b := by
  have := sorted_of (List.Perm.refl (ents ys)) (by rw [ents_keys]; exact hn) (ents_vals ys 0).1
  rw [ents_keys] at this ⊢
  exact this
theorem drop_sorted {ys : List TTile} (hn : ys.Nodup) : (ys.drop 1).Perm (((ents ys).eraseIdx 0).map (·.1)) ∧ (ys.drop 1).Pairwise fun a b => ageOf ((ents ys).eraseIdx 0) a < ageOf ((ents ys).eraseIdx 0) b := by
  have hs := (ents_vals ys 0).1.sublist (List.eraseIdx_sublist (ents ys) 0)
  have hk : ((ents ys).eraseIdx 0).map (·.1) = ys.drop 1 := by
    rw [map_eraseIdxT, ents_keys]
    cases ys <;> rfl
  have := sorted_of (List.Perm.refl _) (by rw [hk]; exact hn.sublist (List.drop_sublist _ _)) hs
  rw [hk] at this ⊢
  exact this
end Go.Proofs.Ytcdjneiaoikpnaa.St
