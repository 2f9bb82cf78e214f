/-
  Plain facts on composed fragments: no program in sight.
-/
import Derived.Test.YtdjcehopalhalaaLFrN
import Derived.Test.YtdjcehopalhalaaLVis
import Derived.Test.YtdjcehopalhalaaLFrM
set_option linter.unusedSimpArgs false
set_option linter.unusedVariables false
namespace Go.Proofs.Ytdjcehopalhalaa.St
open Go.RowKit
theorem w64_id {n : Int} (h : -9223372036854775808 ≤ n ∧ n ≤ 9223372036854775807) : w64 n = n := by
  unfold w64
  simp only [IntKind.wrap, IntKind.bits, IntKind.signed]
  simp
  (try split) <;> omega
def cInv (a : Int × Int) : Prop := (0 ≤ a.2 ∧ a.2 ≤ 65536) ∧ 0 ≤ a.1 ∧ a.1 ≤ 256 * (65536 - a.2)
theorem step_inv {s : Int × Int} (h0 : cInv s) (f : TFragment) : cInv (compStep s f) ∧ (256 ≤ f.2.2.2.2 → (compStep s f).2 = 0) ∧ (s.2 = 0 → compStep s f = s) := by
  obtain ⟨x, t⟩ := s
  unfold cInv at h0 ⊢
  simp only at h0
  unfold compStep
  dsimp only
  generalize e1 : max 0 (min f.2.2.2.2 256) = al
  generalize e2 : max 0 (min f.2.2.2.1 256) = co
  have b1 : 0 ≤ al ∧ al ≤ 256 := by omega
  have b2 : 0 ≤ co ∧ co ≤ 256 := by omega
  have q0 : 0 ≤ t * al := Int.mul_nonneg (by omega) b1.1
  have q1 : t * al ≤ t * 256 := Int.mul_le_mul_of_nonneg_left b1.2 (by omega)
  have q2 : 256 ≤ f.2.2.2.2 → t * al = t * 256 := fun h => by rw [show al = 256 by omega]
  have q3 : t = 0 → t * al = 0 := fun h => by rw [h, Int.zero_mul]
  generalize t * al = q at q0 q1 q2 q3 ⊢
  rw [w64_id (n := q) (by omega), Int.tdiv_eq_ediv_of_nonneg q0]
  generalize e3 : q / 256 = m
  have c0 : 0 ≤ m ∧ m ≤ t := by omega
  have m0 : 0 ≤ m * co := Int.mul_nonneg c0.1 b2.1
  have m1 : m * co ≤ m * 256 := Int.mul_le_mul_of_nonneg_left b2.2 c0.1
  have m2 : m = 0 → m * co = 0 := fun h => by rw [h, Int.zero_mul]
  generalize m * co = r at m0 m1 m2 ⊢
  rw [w64_id (n := r) (by omega), w64_id (n := x + r) (by omega), w64_id (n := t - m) (by omega)]
  refine ⟨⟨⟨by omega, by omega⟩, by omega, by omega⟩, fun h => ?_, fun h => ?_⟩
  · have := q2 h
    omega
  · have := q3 h
    have hm0 : m = 0 := by omega
    have := m2 hm0
    exact Prod.ext (by show x + r = x; omega) (by show t - m = t; omega)
theorem fold_inv : ∀ (xs : List TFragment) {s : Int × Int}, cInv s → cInv (xs.foldl compStep s)
  | [], _, h => h
  | f :: r, _, h => fold_inv r (step_inv h f).1
theorem fold_zero : ∀ (xs : List TFragment) {s : Int × Int}, cInv s → s.2 = 0 → xs.foldl compStep s = s
  | [], _, _, _ => rfl
  | f :: r, s, h, h0 => by
    rw [List.foldl_cons, (step_inv h f).2.2 h0]
    exact fold_zero r h h0
theorem fold_vis : ∀ (xs : List TFragment) {s : Int × Int}, cInv s → (vis xs).foldl compStep s = xs.foldl compStep s
  | [], _, _ => rfl
  | f :: r, s, h => by
    have hi := step_inv h f
    by_cases ho : 256 ≤ f.2.2.2.2
    · rw [vis, if_pos ho, List.foldl_cons, List.foldl_cons, fold_zero r hi.1 (hi.2.1 ho)]
      rfl
    · rw [vis, if_neg ho, List.foldl_cons, List.foldl_cons]
      exact fold_vis r hi.1
theorem fold_opq : ∀ (xs : List TFragment) {s : Int × Int}, cInv s → (∃ f ∈ xs, 256 ≤ f.2.2.2.2) → (xs.foldl compStep s).2 = 0
  | [], _, _, h => by obtain ⟨f, hf, _⟩ := h; simp at hf
  | f :: r, s, h, hx => by
    have hi := step_inv h f
    rw [List.foldl_cons]
    by_cases ho : 256 ≤ f.2.2.2.2
    · rw [fold_zero r hi.1 (hi.2.1 ho)]
      exact hi.2.1 ho
    · obtain ⟨g, hg, hgo⟩ := hx
      rcases List.mem_cons.1 hg with rfl | hg
      · exact absurd hgo ho
      · exact fold_opq r hi.1 ⟨g, hg, hgo⟩
theorem ins_end {x : TFragment} : ∀ (xs : List TFragment), (∀ y ∈ xs, ¬ lsF x y) → ins x xs = xs ++ [x]
  | [], _ => rfl
  | y :: r, h => by
    rw [ins, if_neg (h y (List.mem_cons_self ..)), ins_end r (fun z hz => h z (List.mem_cons_of_mem _ hz))]
    rfl
theorem near_fold : ∀ (xs : List TFragment) {s : Int × Bool}, (∀ y ∈ xs, okF y) → 0 ≤ s.1 ∧ s.1 ≤ 55 → (0 ≤ (xs.foldl nearStep s).1 ∧ (xs.foldl nearStep s).1 ≤ 55) ∧ ((xs.foldl nearStep s).2 = true → s.2 = true ∨ ∃ f ∈ xs, 256 ≤ f.2.2.2.2)
  | [], _, _, h => ⟨h, .inl⟩
  | f :: r, s, hok, h => by
    have hf := hok f (List.mem_cons_self ..)
    unfold okF at hf
    have hr : ∀ y ∈ r, okF y := fun y hy => hok y (List.mem_cons_of_mem _ hy)
    rw [List.foldl_cons]
    by_cases hc : 256 ≤ f.2.2.2.2 ∧ (s.2 = false ∨ f.1 < s.1)
    · rw [nearStep, if_pos hc]
      have := near_fold r (s := (f.1, true)) hr ⟨by show 0 ≤ f.1; omega, by show f.1 ≤ 55; omega⟩
      exact ⟨this.1, fun _ => .inr ⟨f, List.mem_cons_self .., hc.1⟩⟩
    · rw [nearStep, if_neg hc]
      have := near_fold r (s := s) hr h
      refine ⟨this.1, fun e => ?_⟩
      rcases this.2 e with e | ⟨g, hg, hgo⟩
      · exact .inl e
      · exact .inr ⟨g, List.mem_cons_of_mem _ hg, hgo⟩
theorem inv0 : cInv (0, 65536) := by unfold cInv; dsimp only; omega
theorem comp_in (xs : List TFragment) : 0 ≤ (comp xs).1.tdiv 65536 ∧ (comp xs).1.tdiv 65536 ≤ 256 := by
  have h := fold_inv xs inv0
  unfold cInv at h
  unfold comp
  rw [Int.tdiv_eq_ediv_of_nonneg h.2.1]
  omega
theorem comp_vis (xs : List TFragment) : comp (vis xs) = comp xs := fold_vis xs inv0
theorem near_bd {xs : List TFragment} (h : ∀ y ∈ xs, okF y) : 0 ≤ (nearest xs).1 ∧ (nearest xs).1 ≤ 55 := (near_fold xs (s := (0, false)) h ⟨Int.le_refl _, by decide⟩).1
theorem comp_ins {xs : List TFragment} {z : Int} {x : TFragment} (h : ∀ y ∈ xs, okF y) (hn : nearest xs = (z, true)) (hx : x.1 = z + 1000) : comp (ins x xs) = comp xs := by
  have hz := near_bd h
  rw [hn] at hz
  simp only at hz
  have h2 := (near_fold xs (s := (0, false)) h ⟨Int.le_refl _, by decide⟩).2 (by show (nearest xs).2 = true; rw [hn])
  have hex : ∃ f ∈ xs, 256 ≤ f.2.2.2.2 := by
    rcases h2 with e | e
    · exact absurd e (by decide)
    · exact e
  rw [ins_end xs (fun y hy e => by
    have := h y hy
    unfold okF at this
    unfold lsF fLess at e
    omega)]
  unfold comp
  rw [List.foldl_append]
  exact (step_inv (fold_inv xs inv0) x).2.2 (fold_opq xs inv0 hex)
end Go.Proofs.Ytdjcehopalhalaa.St
