/-
  Plain laws of triangles: the depth lies between those of the corners.
-/
import Derived.Test.YtdjcehopalhalaaPRas
import Derived.Test.YtdjcehopalhalaaLDep
set_option linter.unusedSimpArgs false
set_option linter.unusedVariables false
namespace Go.Proofs.Ytdjcehopalhalaa.St
open Go.RowKit
theorem fDiv_in {s n lo hi : Int} (hn : 1 ≤ n) (h1 : lo * n ≤ s) (h2 : s ≤ hi * n) : lo ≤ fDiv s n ∧ fDiv s n ≤ hi := by
  have hd := Int.mul_tdiv_add_tmod s n
  have hb1 : -n < s.tmod n := by
    have := Int.lt_tmod_of_pos s (show 0 < n by omega)
    omega
  have hb2 : s.tmod n < n := Int.tmod_lt_of_pos s (by omega)
  have key : ∃ q, fDiv s n = q ∧ n * q ≤ s ∧ s < n * (q + 1) := by
    unfold fDiv
    rw [if_neg (by omega)]
    split
    · refine ⟨_, rfl, ?_, ?_⟩
      · rw [Int.mul_sub]; omega
      · rw [Int.sub_add_cancel]; omega
    · refine ⟨_, rfl, ?_, ?_⟩
      · rw [Int.sub_zero]; omega
      · rw [Int.sub_zero, Int.mul_add]; omega
  obtain ⟨q, hq, k1, k2⟩ := key
  rw [hq]
  constructor
  · apply Classical.byContradiction
    intro h
    have : n * (q + 1) ≤ n * lo := Int.mul_le_mul_of_nonneg_left (by omega) (by omega)
    rw [Int.mul_comm n lo] at this
    omega
  · apply Classical.byContradiction
    intro h
    have : n * (hi + 1) ≤ n * q := Int.mul_le_mul_of_nonneg_left (by omega) (by omega)
    rw [Int.mul_add, Int.mul_comm n hi] at this
    omega
theorem mean_in {c f j s0 s1 s2 n lo hi : Int} (h0 : 0 ≤ s0) (h1 : 0 ≤ s1) (h2 : 0 ≤ s2) (hn : s0 + s1 + s2 = n) (hp : 1 ≤ n) (hc : lo ≤ c ∧ c ≤ hi) (hf : lo ≤ f ∧ f ≤ hi) (hj : lo ≤ j ∧ j ≤ hi) :
    lo ≤ fDiv (c * s0 + f * s1 + j * s2) n ∧ fDiv (c * s0 + f * s1 + j * s2) n ≤ hi := by
  have a0 := Int.mul_le_mul_of_nonneg_right hc.1 h0
  have a1 := Int.mul_le_mul_of_nonneg_right hf.1 h1
  have a2 := Int.mul_le_mul_of_nonneg_right hj.1 h2
  have b0 := Int.mul_le_mul_of_nonneg_right hc.2 h0
  have b1 := Int.mul_le_mul_of_nonneg_right hf.2 h1
  have b2 := Int.mul_le_mul_of_nonneg_right hj.2 h2
  refine fDiv_in hp ?_ ?_
  · rw [← hn, Int.mul_add, Int.mul_add]; omega
  · rw [← hn, Int.mul_add, Int.mul_add]; omega
theorem abs_nn {s : Int} (h : 0 ≤ s) : max s (-s) = s := by omega
theorem abs_np {s : Int} (h : s ≤ 0) : max s (-s) = -s := by omega
theorem dep_in {a b c d e f g i j x y lo hi : Int} (h : covT a b d e g i x y) (hc : lo ≤ c ∧ c ≤ hi) (hf : lo ≤ f ∧ f ≤ hi) (hj : lo ≤ j ∧ j ≤ hi) : lo ≤ dep a b c d e f g i j x y ∧ dep a b c d e f g i j x y ≤ hi := by
  have hs := side_sum a b d e g i x y
  have sw0 : sideV g i d e x y = -sideV d e g i x y := by unfold sideV; grind
  have sw1 : sideV a b g i x y = -sideV g i a b x y := by unfold sideV; grind
  have sw2 : sideV d e a b x y = -sideV a b d e x y := by unfold sideV; grind
  unfold dep
  rcases h with ⟨h, k0, k1, k2⟩ | ⟨h, k0, k1, k2⟩
  · have g0 := lf_nn k0
    have g1 := lf_nn k1
    have g2 := lf_nn k2
    rw [sw1] at g0
    rw [sw0] at g1
    rw [sw2] at g2
    rw [abs_np (show sideV d e g i x y ≤ 0 by omega), abs_np (show sideV g i a b x y ≤ 0 by omega), abs_np (show sideV a b d e x y ≤ 0 by omega), abs_np (Int.le_of_lt h)]
    exact mean_in g1 g0 g2 (by omega) (by omega) hc hf hj
  · have g0 := lf_nn k0
    have g1 := lf_nn k1
    have g2 := lf_nn k2
    rw [abs_nn g0, abs_nn g1, abs_nn g2, abs_nn (Int.le_of_lt h)]
    exact mean_in g1 g2 g0 (by omega) (by omega) hc hf hj
theorem dep_flip (a b c d e f g i j x y : Int) : dep a b c g i j d e f x y = dep a b c d e f g i j x y := by
  have sw0 : sideV g i d e x y = -sideV d e g i x y := by unfold sideV; grind
  have sw1 : sideV a b g i x y = -sideV g i a b x y := by unfold sideV; grind
  have sw2 : sideV d e a b x y = -sideV a b d e x y := by unfold sideV; grind
  have sw3 : sideV a b g i d e = -sideV a b d e g i := side_swap a b d e g i
  unfold dep
  rw [sw0, sw1, sw2, sw3]
  simp only [Int.neg_neg]
  have m : ∀ s : Int, max (-s) s = max s (-s) := fun s => by omega
  rw [m, m, m, m]
  congr 1
  omega
end Go.Proofs.Ytdjcehopalhalaa.St
