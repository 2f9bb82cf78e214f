/-
  A plain law of division rounded down.
-/
import Derived.Test.YtcdjneiaoikpnaaLVec
set_option linter.unusedSimpArgs false
set_option linter.unusedVariables false
namespace Go.Proofs.Ytcdjneiaoikpnaa.St
open Go.RowKit
theorem fDiv_in {s n lo hi : Int} (hn : 1 ≤ n) (h1 : lo * n ≤ s) (h2 : s ≤ hi * n) : lo ≤ fDiv s n ∧ fDiv s n ≤ hi := by
  have hd := Int.mul_tdiv_add_tmod s n
  have hb1 : -n < s.tmod n := by
    have := Int.lt_tmod_of_pos s (show 0 < n by omega)
    omega
  have hb2 : s.tmod n < n := Int.tmod_lt_of_pos s (by omega)
  have key : ∃ q, fDiv s n = q ∧ n * q ≤ s ∧ s < n * (q + 1) := by
    unfold fDiv
    rw [if_neg (by omega)]
    split
    · refine ⟨_, rfl, ?_, ?_⟩
      · rw [Int.mul_sub]; omega
      · rw [Int.sub_add_cancel]; omega
    · refine ⟨_, rfl, ?_, ?_⟩
      · rw [Int.sub_zero]; omega
      · rw [Int.sub_zero, Int.mul_add]; omega
  obtain ⟨q, hq, k1, k2⟩ := key
  rw [hq]
  constructor
  · apply Classical.byContradiction
    intro h
    have : n * (q + 1) ≤ n * lo := Int.mul_le_mul_of_nonneg_left (by omega) (by omega)
    rw [Int.mul_comm n lo] at this
    omega
  · apply Classical.byContradiction
    intro h
    have : n * (hi + 1) ≤ n * q := Int.mul_le_mul_of_nonneg_left (by omega) (by omega)
    rw [Int.mul_add, Int.mul_comm n hi] at this
    omega
end Go.Proofs.Ytcdjneiaoikpnaa.St
