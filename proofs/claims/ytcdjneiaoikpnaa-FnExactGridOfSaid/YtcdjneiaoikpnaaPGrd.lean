/-
  Plain laws of diced patches: the weighted mean, its bounds, the points row by row.
-/
import Derived.Test.YtcdjneiaoikpnaaPFdv
set_option linter.unusedSimpArgs false
set_option linter.unusedVariables false
namespace Go.Proofs.Ytcdjneiaoikpnaa.St
open Go.RowKit
def wsum (a b d e i j n : Int) : Int := a * (n - i) * (n - j) + b * i * (n - j) + d * (n - i) * j + e * i * j
theorem wsum_steps (a b d e i j n : Int) : 0 + (n - i) * (n - j) * a + i * (n - j) * b + (n - i) * j * d + i * j * e = wsum a b d e i j n := by
  unfold wsum
  grind
theorem prod_bd {x w lo hi : Int} (hw : 0 ≤ w) (hx : lo ≤ x ∧ x ≤ hi) : lo * w ≤ w * x ∧ w * x ≤ hi * w := by
  have h1 := Int.mul_le_mul_of_nonneg_right hx.1 hw
  have h2 := Int.mul_le_mul_of_nonneg_right hx.2 hw
  rw [Int.mul_comm w x]
  exact ⟨h1, h2⟩
theorem w_nn {i j n : Int} (hi : 0 ≤ i ∧ i ≤ n) (hj : 0 ≤ j ∧ j ≤ n) : (0 ≤ (n - i) * (n - j) ∧ 0 ≤ i * (n - j)) ∧ 0 ≤ (n - i) * j ∧ 0 ≤ i * j :=
  ⟨⟨Int.mul_nonneg (by omega) (by omega), Int.mul_nonneg (by omega) (by omega)⟩, Int.mul_nonneg (by omega) (by omega), Int.mul_nonneg (by omega) (by omega)⟩
theorem w_le {i j n : Int} (hn : n ≤ 8) (hi : 0 ≤ i ∧ i ≤ n) (hj : 0 ≤ j ∧ j ≤ n) : ((n - i) * (n - j) ≤ 64 ∧ i * (n - j) ≤ 64) ∧ (n - i) * j ≤ 64 ∧ i * j ≤ 64 := by
  have key : ∀ {x y : Int}, x ≤ 8 → y ≤ 8 → 0 ≤ y → x * y ≤ 64 := fun hx hy h0 => by
    have := Int.mul_le_mul hx hy h0 (by omega : (0 : Int) ≤ 8)
    omega
  exact ⟨⟨key (by omega) (by omega) (by omega), key (by omega) (by omega) (by omega)⟩, key (by omega) (by omega) (by omega), key (by omega) (by omega) (by omega)⟩
theorem term_bd {x w : Int} (hw : 0 ≤ w ∧ w ≤ 64) (hx : -1000000 ≤ x ∧ x ≤ 1000000) : -64000000 ≤ w * x ∧ w * x ≤ 64000000 := by
  have := prod_bd hw.1 hx
  omega
theorem wmean_in {a b d e i j n lo hi : Int} (hn : 1 ≤ n) (hi0 : 0 ≤ i ∧ i ≤ n) (hj0 : 0 ≤ j ∧ j ≤ n) (ha : lo ≤ a ∧ a ≤ hi) (hb : lo ≤ b ∧ b ≤ hi) (hd : lo ≤ d ∧ d ≤ hi) (he : lo ≤ e ∧ e ≤ hi) :
    lo ≤ fDiv (wsum a b d e i j n) (n * n) ∧ fDiv (wsum a b d e i j n) (n * n) ≤ hi := by
  obtain ⟨⟨w0, w1⟩, w2, w3⟩ := w_nn hi0 hj0
  have e0 := wsum_steps a b d e i j n
  have es : (n - i) * (n - j) + i * (n - j) + (n - i) * j + i * j = n * n := by grind
  have p0 := prod_bd w0 ha
  have p1 := prod_bd w1 hb
  have p2 := prod_bd w2 hd
  have p3 := prod_bd w3 he
  have hnn : 1 ≤ n * n := by
    have := Int.mul_le_mul hn hn (by omega) (by omega)
    omega
  refine fDiv_in hnn ?_ ?_
  · rw [← es, ← e0, Int.mul_add, Int.mul_add, Int.mul_add]
    omega
  · rw [← es, ← e0, Int.mul_add, Int.mul_add, Int.mul_add]
    omega
theorem cell_mod {n i j : Nat} (h : i < n) : (j * n + i) % n = i ∧ (j * n + i) / n = j := by
  have hn : 0 < n := by omega
  constructor
  · rw [Nat.add_comm, Nat.add_mul_mod_self_right, Nat.mod_eq_of_lt h]
  · rw [Nat.add_comm, Nat.add_mul_div_right _ _ hn, Nat.div_eq_of_lt h, Nat.zero_add]
def cellsL {α : Type} (n : Nat) (f : Nat → Nat → α) (m : Nat) : List α := (List.range m).map fun k => f (k % n) (k / n)
theorem cellsL_len {α : Type} (n : Nat) (f : Nat → Nat → α) (m : Nat) : (cellsL n f m).length = m := by simp [cellsL]
theorem cellsL_succ {α : Type} (n : Nat) (f : Nat → Nat → α) (m : Nat) : cellsL n f (m + 1) = cellsL n f m ++ [f (m % n) (m / n)] := by simp [cellsL, List.range_succ]
theorem cellsL_row {α : Type} {n i j : Nat} (f : Nat → Nat → α) (h : i < n) : cellsL n f (j * n + i + 1) = cellsL n f (j * n + i) ++ [f i j] := by
  rw [cellsL_succ, (cell_mod h).1, (cell_mod h).2]
end Go.Proofs.Ytcdjneiaoikpnaa.St
