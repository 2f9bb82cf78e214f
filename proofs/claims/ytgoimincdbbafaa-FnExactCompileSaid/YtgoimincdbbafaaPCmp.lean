/-
  Plain laws of the instructions of a checked program.
-/
import Derived.Test.YtgoimincdbbafaaPUni
import Derived.Test.YtgoimincdbbafaaLCod
set_option linter.unusedSimpArgs false
set_option linter.unusedVariables false
namespace Go.Proofs.Ytgoimincdbbafaa.St
open Go.RowKit
open Classical in
noncomputable def insOf (ys : List TAssignment) (x : PNode) : TInstruction :=
  if x.op = 1 then (1, ⟨#[]⟩, x.num) else if x.op = 3 then (5, ⟨#[]⟩, 3) else if x.op = 2 then (if isVar x.name then (2, x.name, 0) else (3, ⟨#[]⟩, (firstA ys ys.length x.name).getD 0)) else if x.op = 8 then (7, x.name, 0) else (6, ⟨#[]⟩, x.op)
noncomputable def emF (ns : List PNode) (ys : List TAssignment) : Nat → Nat → List TInstruction
  | 0, _ => []
  | f + 1, m => match ns[m]? with
    | none => []
    | some x => (x.args.map fun c => emF ns ys f c.toNat).flatten ++ [insOf ys x]
theorem emF_st {ns : List PNode} {ys : List TAssignment} (hv : vProg ns ys) : ∀ (f m f' : Nat), m < f → m < f' → emF ns ys f m = emF ns ys f' m
  | 0, m, f', h, _ => absurd h (Nat.not_lt_zero _)
  | f + 1, m, 0, _, h => absurd h (Nat.not_lt_zero _)
  | f + 1, m, f' + 1, h, h' => by
    simp only [emF]
    cases hx : ns[m]? with
    | none => rfl
    | some x =>
      have : (x.args.map fun c => emF ns ys f c.toNat) = x.args.map fun c => emF ns ys f' c.toNat := by
        apply List.map_congr_left
        intro c hc
        obtain ⟨j, rfl, hj⟩ := args_nn hv hx hc
        exact emF_st hv f j f' (by omega) (by omega)
      simp only [this]
noncomputable def em (ns : List PNode) (ys : List TAssignment) (m : Nat) : List TInstruction := emF ns ys (m + 1) m
theorem em_eq {ns : List PNode} {ys : List TAssignment} (hv : vProg ns ys) {m : Nat} {x : PNode} (hx : ns[m]? = some x) : em ns ys m = (x.args.map fun c => em ns ys c.toNat).flatten ++ [insOf ys x] := by
  have : (x.args.map fun c => emF ns ys m c.toNat) = x.args.map fun c => em ns ys c.toNat := by
    apply List.map_congr_left
    intro c hc
    obtain ⟨j, rfl, hj⟩ := args_nn hv hx hc
    exact emF_st hv m j (j + 1) hj (by omega)
  rw [em, emF, hx]
  simp only [this]
/-- the instructions of the first j arguments -/
noncomputable def emA (ns : List PNode) (ys : List TAssignment) (x : PNode) (j : Nat) : List TInstruction := ((x.args.take j).map fun c => em ns ys c.toNat).flatten
theorem emA_succ {ns : List PNode} {ys : List TAssignment} {x : PNode} {j c : Nat} (h : x.args[j]? = some (c : Int)) : emA ns ys x (j + 1) = emA ns ys x j ++ em ns ys c := by
  obtain ⟨hl, he⟩ := List.getElem?_eq_some_iff.1 h
  rw [emA, List.take_succ_eq_append_getElem hl, List.map_append, List.flatten_append, he, emA]
  simp
theorem emA_all {ns : List PNode} {ys : List TAssignment} {x : PNode} (hv : vProg ns ys) {m : Nat} (hx : ns[m]? = some x) : emA ns ys x x.args.length ++ [insOf ys x] = em ns ys m := by
  rw [em_eq hv hx, emA, List.take_length]
theorem emA_zero {ns : List PNode} {ys : List TAssignment} {x : PNode} : emA ns ys x 0 = [] := by simp [emA]
def rootN (ys : List TAssignment) (k : Nat) : Nat := ((ys[k]?.map Prod.snd).getD 0).toNat
noncomputable def codeT (ns : List PNode) (ys : List TAssignment) : Nat → List TInstruction
  | 0 => []
  | k + 1 => codeT ns ys k ++ (em ns ys (rootN ys k) ++ [(4, ⟨#[]⟩, (k : Int))])
/-! ### How many instructions there are -/
def sumW (w : Int → Nat) (k : Int) : List Int → Nat
  | [] => 0
  | r :: l => (if r < k then w r else 0) + sumW w k l
theorem sumW_app (w : Int → Nat) (k : Int) : ∀ a b : List Int, sumW w k (a ++ b) = sumW w k a + sumW w k b
  | [], b => by simp [sumW]
  | r :: a, b => by
    simp only [List.cons_append, sumW, sumW_app w k a b]
    omega
theorem sumW_succ (w : Int → Nat) (k : Int) : ∀ l : List Int, sumW w (k + 1) l = sumW w k l + l.count k * w k
  | [] => by simp [sumW]
  | r :: l => by
    simp only [sumW, sumW_succ w k l, List.count_cons]
    by_cases hr : r = k
    · subst hr
      have h1 : r < r + 1 := by omega
      have h2 : ¬ r < r := by omega
      simp only [h1, h2, if_true, if_false, beq_self_eq_true, Nat.add_mul, Nat.one_mul]
      omega
    · have h1 : (r < k + 1) = (r < k) := propext ⟨fun h => by omega, fun h => by omega⟩
      have h2 : (r == k) = false := by simpa using hr
      simp only [h1, h2]
      simp only [Bool.false_eq_true, if_false, Nat.add_zero]
      omega
theorem sumW_none (w : Int → Nat) {k : Int} : ∀ {l : List Int}, (∀ r ∈ l, ¬ r < k) → sumW w k l = 0
  | [], _ => rfl
  | r :: l, h => by
    simp only [sumW, if_neg (h r (List.mem_cons_self ..)), sumW_none w fun r hr => h r (List.mem_cons_of_mem _ hr)]
theorem sumW_all (w : Int → Nat) {k : Int} : ∀ {l : List Int}, (∀ r ∈ l, r < k) → sumW w k l = (l.map w).sum
  | [], _ => rfl
  | r :: l, h => by
    simp only [sumW, if_pos (h r (List.mem_cons_self ..)), sumW_all w fun r hr => h r (List.mem_cons_of_mem _ hr), List.map_cons, List.sum_cons]
noncomputable abbrev szE (ns : List PNode) (ys : List TAssignment) (c : Int) : Nat := (em ns ys c.toNat).length
theorem flat_sum {α : Type} (f : Int → List α) : ∀ l : List Int, (l.map f).flatten.length = (l.map fun c => (f c).length).sum
  | [] => rfl
  | r :: l => by simp [flat_sum f l]
theorem sum_le {ns : List PNode} {ys : List TAssignment} (hv : vProg ns ys) : ∀ (d k : Nat), k + d = ns.length → ((ys.map Prod.snd).map (szE ns ys)).sum ≤ d + sumW (szE ns ys) k (ys.map Prod.snd ++ refsN (ns.drop k))
  | 0, k, h => by
    have hr : refsN (ns.drop k) = [] := by rw [show k = ns.length by omega, List.drop_length]; rfl
    rw [hr, List.append_nil, sumW_all _ fun r hr => ?_]
    · omega
    · obtain ⟨y, hy, rfl⟩ := List.mem_map.1 hr
      have := (hv.asg y hy).2
      omega
  | d + 1, k, h => by
    have ih := sum_le hv d (k + 1) (by omega)
    have hk : k < ns.length := by omega
    have hx : ns[k]? = some ns[k] := List.getElem?_eq_getElem hk
    have e1 : refsN (ns.drop k) = ns[k].args ++ refsN (ns.drop (k + 1)) := by
      rw [List.drop_eq_getElem_cons hk]
      simp only [refsN, List.map_cons, List.flatten_cons]
    have e2 : szE ns ys k = (ns[k].args.map (szE ns ys)).sum + 1 := by
      show (em ns ys ((k : Int)).toNat).length = _
      rw [Int.toNat_natCast, em_eq hv hx, List.length_append, flat_sum]
      rfl
    have e3 : sumW (szE ns ys) k ns[k].args = (ns[k].args.map (szE ns ys)).sum := sumW_all _ fun r hr => by
      obtain ⟨j, rfl, hj⟩ := args_nn hv hx hr
      omega
    have e4 : (ys.map Prod.snd ++ refsN (ns.drop (k + 1))).count (k : Int) ≤ 1 := by
      have h1 := hv.once k hk
      unfold cnt at h1
      have h2 : (refsN (ns.drop (k + 1))).count (k : Int) ≤ (refsN ns).count (k : Int) := by
        have : refsN ns = refsN (ns.take (k + 1)) ++ refsN (ns.drop (k + 1)) := by
          rw [refsN, refsN, refsN, ← List.flatten_append, ← List.map_append, List.take_append_drop]
        rw [this, List.count_append]
        omega
      rw [List.count_append] at h1 ⊢
      omega
    have e5 := sumW_succ (szE ns ys) k (ys.map Prod.snd ++ refsN (ns.drop (k + 1)))
    have e6 : (ys.map Prod.snd ++ refsN (ns.drop (k + 1))).count (k : Int) * szE ns ys k ≤ 1 * szE ns ys k := Nat.mul_le_mul_right _ e4
    rw [e1, sumW_app, sumW_app, e3]
    rw [sumW_app] at ih
    rw [sumW_app] at e5
    have e7 : ((k + 1 : Nat) : Int) = (k : Int) + 1 := by omega
    rw [e7] at ih
    rw [sumW_app] at e5
    omega
theorem codeT_len (ns : List PNode) (ys : List TAssignment) : ∀ k, k ≤ ys.length → (codeT ns ys k).length = (((ys.take k).map Prod.snd).map (szE ns ys)).sum + k
  | 0, _ => by simp [codeT]
  | k + 1, h => by
    have hk : k < ys.length := by omega
    have ih := codeT_len ns ys k (by omega)
    rw [codeT, List.length_append, ih, List.take_succ_eq_append_getElem hk]
    simp only [List.map_append, List.map_cons, List.map_nil, List.sum_append, List.sum_cons, List.sum_nil, List.length_append, List.length_cons, List.length_nil]
    have : rootN ys k = (ys[k].2).toNat := by simp [rootN, List.getElem?_eq_getElem hk]
    rw [this]
    have e : szE ns ys ys[k].2 = (em ns ys (ys[k].2).toNat).length := rfl
    rw [e]
    omega
theorem codeT_mono (ns : List PNode) (ys : List TAssignment) {k : Nat} : ∀ {n}, k ≤ n → (codeT ns ys k).length ≤ (codeT ns ys n).length
  | 0, h => by
    obtain rfl : k = 0 := by omega
    exact Nat.le_refl _
  | n + 1, h => by
    by_cases hk : k = n + 1
    · subst hk
      exact Nat.le_refl _
    · have := codeT_mono ns ys (k := k) (n := n) (by omega)
      rw [codeT, List.length_append]
      omega
theorem codeT_le {ns : List PNode} {ys : List TAssignment} (hv : vProg ns ys) {k : Nat} (hk : k ≤ ys.length) : (codeT ns ys k).length ≤ 60 + ys.length := by
  have h1 := codeT_mono ns ys hk
  have h2 := codeT_len ns ys ys.length (Nat.le_refl _)
  have h3 := sum_le hv ns.length 0 (by omega)
  have h4 : sumW (szE ns ys) ((0 : Nat) : Int) (ys.map Prod.snd ++ refsN (ns.drop 0)) = 0 := sumW_none _ fun r hr => by
    rcases List.mem_append.1 hr with hr | hr
    · obtain ⟨y, hy, rfl⟩ := List.mem_map.1 hr
      have := (hv.asg y hy).2
      omega
    · obtain ⟨l, hl, hrl⟩ := List.mem_flatten.1 hr
      obtain ⟨x, hx, rfl⟩ := List.mem_map.1 hl
      obtain ⟨i, hi⟩ := List.mem_iff_getElem?.1 hx
      obtain ⟨j, rfl, _⟩ := args_nn hv (by simpa using hi) hrl
      omega
  rw [h4] at h3
  rw [List.take_length] at h2
  have := hv.small
  omega
theorem em_le {ns : List PNode} {ys : List TAssignment} (hv : vProg ns ys) {k : Nat} (hk : k < ys.length) : (codeT ns ys k).length + (em ns ys (rootN ys k)).length + 1 ≤ 60 + ys.length := by
  have := codeT_le hv (k := k + 1) (by omega)
  rw [codeT, List.length_append, List.length_append] at this
  simp only [List.length_cons, List.length_nil] at this
  omega
end Go.Proofs.Ytgoimincdbbafaa.St
