/-
  Plain laws of triangles: parts around a point of a triangle cover each position as often as the triangle.
-/
import Derived.Test.YtdjcehopalhalaaLCov
set_option linter.unusedSimpArgs false
set_option linter.unusedVariables false
namespace Go.Proofs.Ytdjcehopalhalaa.St
open Go.RowKit
def Ps (s m n : Int) : Prop := 0 < s ∨ (s = 0 ∧ (0 < m ∨ (m = 0 ∧ 0 < n)))
theorem lf_Ps {ax ay bx by_ x y : Int} : lf ax ay bx by_ x y ↔ Ps (sideV ax ay bx by_ x y) (ay - by_) (bx - ax) := by
  unfold lf Ps; omega
theorem sgn {k s : Int} (hk : 0 < k) : (0 < k * s ↔ 0 < s) ∧ (k * s = 0 ↔ s = 0) := by
  have h0 : k * s = 0 ↔ s = 0 := by
    constructor
    · intro h
      rcases Int.mul_eq_zero.1 h with h | h
      · omega
      · exact h
    · intro h; rw [h, Int.mul_zero]
  refine ⟨⟨fun h => ?_, fun h => Int.mul_pos hk h⟩, h0⟩
  rcases Int.lt_trichotomy s 0 with hs | hs | hs
  · have := Int.mul_neg_of_pos_of_neg hk hs
    omega
  · rw [hs, Int.mul_zero] at h; omega
  · exact hs
theorem Ps_mul {k s m n : Int} (hk : 0 < k) : Ps (k * s) (k * m) (k * n) ↔ Ps s m n := by
  have h1 := sgn (s := s) hk
  have h2 := sgn (s := m) hk
  have h3 := sgn (s := n) hk
  unfold Ps
  rw [h1.1, h1.2, h2.1, h2.2, h3.1]
/-- k u = a v + b w with v, w above zero -/
theorem Ps_of {k a b s m n s1 m1 n1 s2 m2 n2 : Int} (hk : 0 < k) (ha : 0 < a) (hb : 0 ≤ b) (h1 : Ps s1 m1 n1) (h2 : Ps s2 m2 n2) (e1 : k * s = a * s1 + b * s2) (e2 : k * m = a * m1 + b * m2) (e3 : k * n = a * n1 + b * n2) : Ps s m n := by
  rw [← Ps_mul hk, e1, e2, e3]
  have h1' := (Ps_mul ha).2 h1
  rcases Int.lt_or_eq_of_le hb with hb | hb
  · have h2' := (Ps_mul hb).2 h2
    revert h1' h2'
    generalize a * s1 = u1; generalize a * m1 = u2; generalize a * n1 = u3; generalize b * s2 = v1; generalize b * m2 = v2; generalize b * n2 = v3
    unfold Ps; omega
  · subst hb
    simpa using h1'
theorem Ps_opp {s m n : Int} (h : Ps s m n) (h' : Ps (-s) (-m) (-n)) : False := by unfold Ps at *; omega
theorem lf_opp {a b d e x y : Int} (h : lf a b d e x y) (h' : lf d e a b x y) : False := by
  rw [lf_Ps] at h h'
  have e1 : sideV d e a b x y = -sideV a b d e x y := by unfold sideV; grind
  rw [e1] at h'
  exact Ps_opp h (by rw [show -(b - e) = e - b by omega, show -(d - a) = a - d by omega]; exact h')
theorem lf_or {a b d e x y : Int} (h : ¬ lf a b d e x y) (h' : ¬ lf d e a b x y) : a = d ∧ b = e := by
  rw [lf_Ps] at h h'
  have e1 : sideV d e a b x y = -sideV a b d e x y := by unfold sideV; grind
  rw [e1] at h'
  unfold Ps at h h'
  omega
/-- a part of the triangle lies in it -/
theorem sub_in {a b d e g i x y u v : Int} (hA : 0 < sideV a b d e g i) (h0 : 0 < sideV a b d e x y) (h1 : 0 ≤ sideV d e g i x y) (h2 : 0 ≤ sideV g i a b x y) (hq : lf3 a b d e x y u v) : lf3 a b d e g i u v := by
  obtain ⟨q0, q1, q2⟩ := hq
  refine ⟨q0, ?_, ?_⟩
  · rw [lf_Ps] at *
    refine Ps_of h0 hA h1 q1 q0 ?_ ?_ ?_ <;> unfold sideV <;> grind
  · rw [lf_Ps] at *
    refine Ps_of h0 hA h2 q2 q0 ?_ ?_ ?_ <;> unfold sideV <;> grind
theorem side_rot (a b d e g i : Int) : sideV d e g i a b = sideV a b d e g i := by unfold sideV; grind
theorem side_swap (a b d e g i : Int) : sideV a b g i d e = -sideV a b d e g i := by unfold sideV; grind
theorem side_sum (a b d e g i x y : Int) : sideV a b d e x y + sideV d e g i x y + sideV g i a b x y = sideV a b d e g i := by unfold sideV; grind
theorem side_self (a b x y : Int) : sideV a b x y x y = 0 := by unfold sideV; grind
theorem lf_nn {a b d e x y : Int} (h : lf a b d e x y) : 0 ≤ sideV a b d e x y := by unfold lf at h; omega
/-- no point lies to the left of all three spokes, nor to the right of all -/
theorem spokes_l {a b d e g i x y u v : Int} (h0 : 0 < sideV a b d e x y) (h1 : 0 < sideV d e g i x y) (h2 : 0 < sideV g i a b x y) (m0 : lf x y a b u v) (m1 : lf x y d e u v) (m2 : lf x y g i u v) : False := by
  rw [lf_Ps] at *
  have m1' := (Ps_mul h2).2 m1
  refine Ps_opp m0 (Ps_of (k := sideV d e g i x y) h1 h2 (Int.le_of_lt h0) m1 m2 ?_ ?_ ?_) <;> unfold sideV <;> grind
theorem spokes_r {a b d e g i x y u v : Int} (h0 : 0 < sideV a b d e x y) (h1 : 0 < sideV d e g i x y) (h2 : 0 < sideV g i a b x y) (m0 : lf a b x y u v) (m1 : lf d e x y u v) (m2 : lf g i x y u v) : False := by
  rw [lf_Ps] at *
  refine Ps_opp m0 (Ps_of (k := sideV d e g i x y) h1 h2 (Int.le_of_lt h0) m1 m2 ?_ ?_ ?_) <;> unfold sideV <;> grind
theorem ne_of_side {a b d e x y : Int} (h : 0 < sideV a b d e x y) : ¬ (x = d ∧ y = e) ∧ ¬ (x = a ∧ y = b) := by
  constructor
  · rintro ⟨rfl, rfl⟩
    rw [side_self] at h
    omega
  · rintro ⟨rfl, rfl⟩
    have : sideV x y d e x y = 0 := by unfold sideV; grind
    omega
theorem spoke {x y a b u v : Int} (hn : ¬ (x = a ∧ y = b)) (h : ¬ lf x y a b u v) : lf a b x y u v := by
  apply Classical.byContradiction
  intro h'
  exact hn (lf_or h h')
def in3 (a b d e g i x y u v : Int) : Prop := (0 < sideV a b d e x y ∧ lf3 a b d e x y u v) ∨ (0 < sideV d e g i x y ∧ lf3 d e g i x y u v) ∨ (0 < sideV g i a b x y ∧ lf3 g i a b x y u v)
theorem cover_pos {a b d e g i x y u v : Int} (h0 : 0 < sideV a b d e x y) (h1 : 0 < sideV d e g i x y) (h2 : 0 < sideV g i a b x y) (hq : lf3 a b d e g i u v) : in3 a b d e g i x y u v := by
  obtain ⟨q0, q1, q2⟩ := hq
  have n1 := ne_of_side h0
  have n2 := ne_of_side h1
  unfold in3 lf3
  by_cases m0 : lf x y a b u v <;> by_cases m1 : lf x y d e u v <;> by_cases m2 : lf x y g i u v
  · exact (spokes_l h0 h1 h2 m0 m1 m2).elim
  · exact .inr (.inl ⟨h1, q1, spoke n2.1 m2, m1⟩)
  · exact .inl ⟨h0, q0, spoke n1.1 m1, m0⟩
  · exact .inl ⟨h0, q0, spoke n1.1 m1, m0⟩
  · exact .inr (.inr ⟨h2, q2, spoke n1.2 m0, m2⟩)
  · exact .inr (.inl ⟨h1, q1, spoke n2.1 m2, m1⟩)
  · exact .inr (.inr ⟨h2, q2, spoke n1.2 m0, m2⟩)
  · exact (spokes_r h0 h1 h2 (spoke n1.2 m0) (spoke n1.1 m1) (spoke n2.1 m2)).elim
theorem cover_zero {a b d e g i x y u v : Int} (hA : 0 < sideV a b d e g i) (h0 : sideV a b d e x y = 0) (h1 : 0 < sideV d e g i x y) (h2 : 0 < sideV g i a b x y) (hq : lf3 a b d e g i u v) : in3 a b d e g i x y u v := by
  obtain ⟨q0, q1, q2⟩ := hq
  have n2 := ne_of_side h1
  have m1 : lf x y d e u v := by
    rw [lf_Ps] at *
    refine Ps_of (a := sideV d e g i x y) (b := 0) hA h1 (Int.le_refl _) q0 q0 ?_ ?_ ?_
    · have : sideV a b d e g i * sideV x y d e u v = sideV d e g i x y * sideV a b d e u v + sideV a b d e x y * sideV g i d e u v := by unfold sideV; grind
      rw [this, h0]; omega
    · have : sideV a b d e g i * (y - e) = sideV d e g i x y * (b - e) + sideV a b d e x y * (i - e) := by unfold sideV; grind
      rw [this, h0]; omega
    · have : sideV a b d e g i * (d - x) = sideV d e g i x y * (d - a) + sideV a b d e x y * (d - g) := by unfold sideV; grind
      rw [this, h0]; omega
  have m0 : lf a b x y u v := by
    rw [lf_Ps] at *
    refine Ps_of (a := sideV g i a b x y) (b := 0) hA h2 (Int.le_refl _) q0 q0 ?_ ?_ ?_
    · have : sideV a b d e g i * sideV a b x y u v = sideV g i a b x y * sideV a b d e u v + sideV a b d e x y * sideV a b g i u v := by unfold sideV; grind
      rw [this, h0]; omega
    · have : sideV a b d e g i * (b - y) = sideV g i a b x y * (b - e) + sideV a b d e x y * (b - i) := by unfold sideV; grind
      rw [this, h0]; omega
    · have : sideV a b d e g i * (x - a) = sideV g i a b x y * (d - a) + sideV a b d e x y * (g - a) := by unfold sideV; grind
      rw [this, h0]; omega
  by_cases m2 : lf x y g i u v
  · exact .inr (.inr ⟨h2, q2, m0, m2⟩)
  · exact .inr (.inl ⟨h1, q1, spoke n2.1 m2, m1⟩)
theorem cover_corner {a b d e g i x y u v : Int} (hA : 0 < sideV a b d e g i) (h0 : sideV a b d e x y = 0) (h1 : sideV d e g i x y = 0) (h2 : 0 < sideV g i a b x y) (hq : lf3 a b d e g i u v) : in3 a b d e g i x y u v := by
  obtain ⟨q0, q1, q2⟩ := hq
  have hx : sideV a b d e g i * (x - d) = 0 := by
    have : sideV a b d e g i * (x - d) = sideV d e g i x y * (a - d) + sideV a b d e x y * (g - d) := by unfold sideV; grind
    rw [this, h0, h1]; omega
  have hy : sideV a b d e g i * (y - e) = 0 := by
    have : sideV a b d e g i * (y - e) = sideV d e g i x y * (b - e) + sideV a b d e x y * (i - e) := by unfold sideV; grind
    rw [this, h0, h1]; omega
  have hx' := (sgn hA).2.1 hx
  have hy' := (sgn hA).2.1 hy
  obtain rfl : x = d := by omega
  obtain rfl : y = e := by omega
  exact .inr (.inr ⟨h2, q2, q0, q1⟩)
theorem in3_rot {a b d e g i x y u v : Int} (h : in3 d e g i a b x y u v) : in3 a b d e g i x y u v := by
  unfold in3 at *
  rcases h with h | h | h
  · exact .inr (.inl h)
  · exact .inr (.inr h)
  · exact .inl h
theorem lf3_rot {a b d e g i u v : Int} (h : lf3 a b d e g i u v) : lf3 d e g i a b u v := ⟨h.2.1, h.2.2, h.1⟩
theorem cover_all {a b d e g i x y u v : Int} (hA : 0 < sideV a b d e g i) (hp : lf3 a b d e g i x y) (hq : lf3 a b d e g i u v) : in3 a b d e g i x y u v := by
  have g0 := lf_nn hp.1
  have g1 := lf_nn hp.2.1
  have g2 := lf_nn hp.2.2
  have hs := side_sum a b d e g i x y
  have hA1 : 0 < sideV d e g i a b := by rw [side_rot]; exact hA
  have hA2 : 0 < sideV g i a b d e := by rw [side_rot]; exact hA1
  have hq1 := lf3_rot hq
  have hq2 := lf3_rot hq1
  by_cases z0 : sideV a b d e x y = 0 <;> by_cases z1 : sideV d e g i x y = 0 <;> by_cases z2 : sideV g i a b x y = 0
  · omega
  · exact cover_corner hA z0 z1 (by omega) hq
  · exact in3_rot (in3_rot (cover_corner hA2 z2 z0 (by omega) hq2))
  · exact cover_zero hA z0 (by omega) (by omega) hq
  · exact in3_rot (cover_corner hA1 z1 z2 (by omega) hq1)
  · exact in3_rot (cover_zero hA1 z1 (by omega) (by omega) hq1)
  · exact in3_rot (in3_rot (cover_zero hA2 z2 (by omega) (by omega) hq2))
  · exact cover_pos (by omega) (by omega) (by omega) hq
theorem covT_swap {a b d e g i u v : Int} : covT a b d e g i u v ↔ covT a b g i d e u v := by
  have hs := side_swap a b d e g i
  have hs' := side_swap a b g i d e
  unfold covT
  constructor
  · rintro (⟨h, k⟩ | ⟨h, k⟩)
    · exact .inr ⟨by omega, k⟩
    · exact .inl ⟨by omega, k⟩
  · rintro (⟨h, k⟩ | ⟨h, k⟩)
    · exact .inr ⟨by omega, k⟩
    · exact .inl ⟨by omega, k⟩
theorem covT_rot {a b d e g i u v : Int} : covT a b d e g i u v ↔ covT d e g i a b u v := by
  have hs := side_rot a b d e g i
  unfold covT lf3
  rw [hs]
  constructor
  · rintro (⟨h, k1, k2, k3⟩ | ⟨h, k1, k2, k3⟩)
    · exact .inl ⟨h, k3, k1, k2⟩
    · exact .inr ⟨h, k2, k3, k1⟩
  · rintro (⟨h, k1, k2, k3⟩ | ⟨h, k1, k2, k3⟩)
    · exact .inl ⟨h, k2, k3, k1⟩
    · exact .inr ⟨h, k3, k1, k2⟩
theorem covT_nn {a b d e x y u v : Int} (h : 0 ≤ sideV a b d e x y) : covT a b d e x y u v ↔ 0 < sideV a b d e x y ∧ lf3 a b d e x y u v := by
  unfold covT
  exact ⟨fun k => k.elim (fun k => by omega) id, fun k => .inr k⟩
def RasP (t c0 c1 c2 : Prop) : Prop := ¬ (c0 ∧ c1) ∧ ¬ (c1 ∧ c2) ∧ ¬ (c2 ∧ c0) ∧ (t ↔ c0 ∨ c1 ∨ c2)
theorem raster_pos {a b d e g i x y u v : Int} (hA : 0 < sideV a b d e g i) (hp : lf3 a b d e g i x y) :
    RasP (covT a b d e g i u v) (covT a b d e x y u v) (covT d e g i x y u v) (covT g i a b x y u v) := by
  have g0 := lf_nn hp.1
  have g1 := lf_nn hp.2.1
  have g2 := lf_nn hp.2.2
  have hA1 : 0 < sideV d e g i a b := by rw [side_rot]; exact hA
  have hA2 : 0 < sideV g i a b d e := by rw [side_rot]; exact hA1
  unfold RasP
  rw [covT_nn g0, covT_nn g1, covT_nn g2, covT_nn (Int.le_of_lt hA)]
  refine ⟨fun ⟨h, k⟩ => lf_opp h.2.2.1 k.2.2.2, fun ⟨h, k⟩ => lf_opp h.2.2.1 k.2.2.2, fun ⟨h, k⟩ => lf_opp h.2.2.1 k.2.2.2, fun h => cover_all hA hp h.2, ?_⟩
  rintro (h | h | h)
  · exact ⟨hA, sub_in hA h.1 g1 g2 h.2⟩
  · exact ⟨hA, lf3_rot (lf3_rot (sub_in hA1 h.1 g2 g0 h.2))⟩
  · exact ⟨hA, lf3_rot (sub_in hA2 h.1 g0 g1 h.2)⟩
theorem RasP_perm {t c0 c1 c2 t' c0' c1' c2' : Prop} (h : RasP t c0 c1 c2) (ht : t ↔ t') (h0 : c0 ↔ c2') (h1 : c1 ↔ c1') (h2 : c2 ↔ c0') : RasP t' c0' c1' c2' := by
  unfold RasP at *
  rw [← ht, ← h0, ← h1, ← h2]
  obtain ⟨k1, k2, k3, k4⟩ := h
  exact ⟨fun e => k2 e.symm, fun e => k1 e.symm, fun e => k3 e.symm, k4.trans ⟨fun e => e.elim (fun e => .inr (.inr e)) fun e => e.elim (fun e => .inr (.inl e)) .inl, fun e => e.elim (fun e => .inr (.inr e)) fun e => e.elim (fun e => .inr (.inl e)) .inl⟩⟩
theorem covT_flip01 {a b d e x y u v : Int} : covT a b d e x y u v ↔ covT d e a b x y u v := by
  rw [covT_swap, covT_rot, covT_rot]
theorem raster {a b d e g i x y u v : Int} (hp : covT a b d e g i x y) :
    RasP (covT a b d e g i u v) (covT a b d e x y u v) (covT d e g i x y u v) (covT g i a b x y u v) := by
  rcases hp with ⟨hA, hp⟩ | ⟨hA, hp⟩
  · have hA' : 0 < sideV a b g i d e := by rw [side_swap]; omega
    exact RasP_perm (raster_pos hA' hp) covT_swap.symm covT_flip01 covT_flip01 covT_flip01
  · exact raster_pos hA hp
end Go.Proofs.Ytdjcehopalhalaa.St
