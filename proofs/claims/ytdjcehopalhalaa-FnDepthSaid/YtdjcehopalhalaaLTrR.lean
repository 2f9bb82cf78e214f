/-
  Contracts of the functions on triangles whose corners lie on the screen.
-/
import Derived.Test.YtdjcehopalhalaaLDep
import Derived.Test.YtdjcehopalhalaaLSrf
import Derived.Test.YtdjcehopalhalaaPDep
set_option linter.unusedSimpArgs false
set_option linter.unusedVariables false
namespace Go.Proofs.Ytdjcehopalhalaa.St
open Go.RowKit
theorem cl_id {a : Int} (h : -100000 ≤ a ∧ a ≤ 100000) : (max (-100000) (min a 100000)) = a := by omega
theorem cn_id {a : Int} (h : -100000 ≤ a ∧ a ≤ 100000) : (max (-1000000) (min a 1000000)) = a := by omega
def inS (a b d e g i : Int) : Prop := ((-100000 ≤ a ∧ a ≤ 100000) ∧ (-100000 ≤ b ∧ b ≤ 100000)) ∧ ((-100000 ≤ d ∧ d ≤ 100000) ∧ (-100000 ≤ e ∧ e ≤ 100000)) ∧ ((-100000 ≤ g ∧ g ≤ 100000) ∧ (-100000 ≤ i ∧ i ≤ 100000))
theorem covR_y (a b c d e f g i j x y : Int) (hs : inS a b d e g i) (hc : cov a b d e g i x y) : Fun Try.prog 21 [.agg #[I a, I b, I c, I d, I e, I f, I g, I i, I j], I x, I y] (.bool true) := by
  have := implCovers_ok a b c d e f g i j x y
  rw [cl_id hs.1.1, cl_id hs.1.2, cl_id hs.2.1.1, cl_id hs.2.1.2, cl_id hs.2.2.1, cl_id hs.2.2.2, bT hc] at this
  exact this
theorem covR_n (a b c d e f g i j x y : Int) (hs : inS a b d e g i) (hc : ¬ cov a b d e g i x y) : Fun Try.prog 21 [.agg #[I a, I b, I c, I d, I e, I f, I g, I i, I j], I x, I y] (.bool false) := by
  have := implCovers_ok a b c d e f g i j x y
  rw [cl_id hs.1.1, cl_id hs.1.2, cl_id hs.2.1.1, cl_id hs.2.1.2, cl_id hs.2.2.1, cl_id hs.2.2.2, bF hc] at this
  exact this
theorem depR_y (a b c d e f g i j x y : Int) (hs : inS a b d e g i) (hz : (-100000 ≤ c ∧ c ≤ 100000) ∧ (-100000 ≤ f ∧ f ≤ 100000) ∧ (-100000 ≤ j ∧ j ≤ 100000)) (hc : cov a b d e g i x y) : Fun Try.prog 50 [.agg #[I a, I b, I c, I d, I e, I f, I g, I i, I j], I x, I y] (.tuple #[I (dep a b c d e f g i j x y), .bool true]) := by
  have := depthAt_yes a b c d e f g i j x y (by rw [cl_id hs.1.1, cl_id hs.1.2, cl_id hs.2.1.1, cl_id hs.2.1.2, cl_id hs.2.2.1, cl_id hs.2.2.2]; exact hc)
  rw [cl_id hs.1.1, cl_id hs.1.2, cl_id hs.2.1.1, cl_id hs.2.1.2, cl_id hs.2.2.1, cl_id hs.2.2.2, cn_id hz.1, cn_id hz.2.1, cn_id hz.2.2] at this
  exact this
theorem depR_n (a b c d e f g i j x y : Int) (hs : inS a b d e g i) (hc : ¬ cov a b d e g i x y) : Fun Try.prog 50 [.agg #[I a, I b, I c, I d, I e, I f, I g, I i, I j], I x, I y] (.tuple #[I 0, .bool false]) :=
  depthAt_no a b c d e f g i j x y (by rw [cl_id hs.1.1, cl_id hs.1.2, cl_id hs.2.1.1, cl_id hs.2.1.2, cl_id hs.2.2.1, cl_id hs.2.2.2]; exact hc)
theorem sarR (a b c d e f g i j : Int) (hs : inS a b d e g i) : Fun Try.prog 52 [.agg #[I a, I b, I c, I d, I e, I f, I g, I i, I j]] (I (sideV a b d e g i)) := by
  have := signedArea2_ok a b c d e f g i j
  rw [cl_id hs.1.1, cl_id hs.1.2, cl_id hs.2.1.1, cl_id hs.2.1.2, cl_id hs.2.2.1, cl_id hs.2.2.2] at this
  exact this
theorem tbR (a b c d e f g i j : Int) (hz : (50 ≤ c ∧ c ≤ 139) ∧ (50 ≤ f ∧ f ≤ 139) ∧ (50 ≤ j ∧ j ≤ 139)) : ∃ l0 l1 l2 h0 h1 h2 : Int, Fun Try.prog 51 [.agg #[I a, I b, I c, I d, I e, I f, I g, I i, I j]] (.agg #[I l0, I l1, I l2, I h0, I h1, I h2]) ∧
    (0 < l2 ∧ l2 ≤ c ∧ l2 ≤ f ∧ l2 ≤ j) ∧ c ≤ h2 ∧ f ≤ h2 ∧ j ≤ h2 := by
  refine ⟨_, _, _, _, _, _, triangleBounds_ok a b c d e f g i j, ?_⟩
  simp only [boundsOf, P3, List.foldl, stepB, minV, maxV, clV, sLim, clN]
  omega
end Go.Proofs.Ytdjcehopalhalaa.St
