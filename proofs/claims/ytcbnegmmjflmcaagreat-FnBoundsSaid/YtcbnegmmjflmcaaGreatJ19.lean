/-
  Plain laws of bounds on the screen: a surface's points at a time lie in its box.
-/
import Derived.Test.YtcbnegmmjflmcaaGreatJ10
import Derived.Test.YtcbnegmmjflmcaaGreatJ18
import Derived.Test.YtcbnegmmjflmcaaGreatJ6
import Derived.Test.YtcbnegmmjflmcaaGreatLDsp
import Derived.Test.YtcbnegmmjflmcaaGreatLCur

section
set_option linter.unusedSimpArgs false
set_option linter.unusedVariables false
namespace Go.Proofs.YtcbnegmmjflmcaaGreat.St
open Go.RowKit
theorem lrp_in {x u t lo hi : Int} (ht : 0 ≤ t ∧ t ≤ 16) (hx : lo ≤ (max (-1000000) (min x 1000000)) ∧ (max (-1000000) (min x 1000000)) ≤ hi) (hu : lo ≤ (max (-1000000) (min u 1000000)) ∧ (max (-1000000) (min u 1000000)) ≤ hi) : lo ≤ lrp x u t 16 ∧ lrp x u t 16 ≤ hi := by
  unfold lrp
  obtain ⟨p, hp⟩ : ∃ p, p = (max (-1000000) (min x 1000000)) := ⟨_, rfl⟩
  obtain ⟨q, hq⟩ : ∃ q, q = (max (-1000000) (min u 1000000)) := ⟨_, rfl⟩
  rw [← hp] at hx ⊢
  rw [← hq] at hu ⊢
  have k1 := Int.mul_le_mul_of_nonneg_left hx.1 (show 0 ≤ 16 - t by omega)
  have k2 := Int.mul_le_mul_of_nonneg_left hu.1 ht.1
  have k3 := Int.mul_le_mul_of_nonneg_left hx.2 (show 0 ≤ 16 - t by omega)
  have k4 := Int.mul_le_mul_of_nonneg_left hu.2 ht.1
  have e1 : (16 - t) * lo + t * lo = lo * 16 := by rw [← Int.add_mul, show 16 - t + t = 16 by omega, Int.mul_comm]
  have e2 : (16 - t) * hi + t * hi = hi * 16 := by rw [← Int.add_mul, show 16 - t + t = 16 by omega, Int.mul_comm]
  exact fDiv_in (by omega) (by omega) (by omega)
theorem cn_id {x lo hi : Int} (h : lo ≤ x ∧ x ≤ hi) (hl : -1000000 ≤ lo) (hh : hi ≤ 1000000) : lo ≤ (max (-1000000) (min x 1000000)) ∧ (max (-1000000) (min x 1000000)) ≤ hi := by omega
theorem mnl_in {x0 x1 x2 x3 u0 u1 u2 u3 t i j n lo hi : Int} (ht : 0 ≤ t ∧ t ≤ 16) (hn : 1 ≤ n) (hi0 : 0 ≤ i ∧ i ≤ n) (hj0 : 0 ≤ j ∧ j ≤ n) (hl : -1000000 ≤ lo) (hh : hi ≤ 1000000)
    (h0 : lo ≤ (max (-1000000) (min x0 1000000)) ∧ (max (-1000000) (min x0 1000000)) ≤ hi) (h1 : lo ≤ (max (-1000000) (min x1 1000000)) ∧ (max (-1000000) (min x1 1000000)) ≤ hi) (h2 : lo ≤ (max (-1000000) (min x2 1000000)) ∧ (max (-1000000) (min x2 1000000)) ≤ hi) (h3 : lo ≤ (max (-1000000) (min x3 1000000)) ∧ (max (-1000000) (min x3 1000000)) ≤ hi)
    (g0 : lo ≤ (max (-1000000) (min u0 1000000)) ∧ (max (-1000000) (min u0 1000000)) ≤ hi) (g1 : lo ≤ (max (-1000000) (min u1 1000000)) ∧ (max (-1000000) (min u1 1000000)) ≤ hi) (g2 : lo ≤ (max (-1000000) (min u2 1000000)) ∧ (max (-1000000) (min u2 1000000)) ≤ hi) (g3 : lo ≤ (max (-1000000) (min u3 1000000)) ∧ (max (-1000000) (min u3 1000000)) ≤ hi) :
    lo ≤ mn (lrp x0 u0 t 16) (lrp x1 u1 t 16) (lrp x2 u2 t 16) (lrp x3 u3 t 16) i j n ∧ mn (lrp x0 u0 t 16) (lrp x1 u1 t 16) (lrp x2 u2 t 16) (lrp x3 u3 t 16) i j n ≤ hi :=
  wmean_in hn hi0 hj0 (cn_id (lrp_in ht h0 g0) hl hh) (cn_id (lrp_in ht h1 g1) hl hh) (cn_id (lrp_in ht h2 g2) hl hh) (cn_id (lrp_in ht h3 g3) hl hh)
end Go.Proofs.YtcbnegmmjflmcaaGreat.St
namespace Go.Proofs.YtcbnegmmjflmcaaGreat.St.G
open Go.RowKit
abbrev kN (x : Int) : Int := max (-1000000) (min x 1000000)
theorem cn_bd (x : Int) : -1000000 ≤ (kN (x)) ∧ (kN (x)) ≤ 1000000 := by unfold kN; omega
theorem cn_of {x : Int} (h : -1000000 ≤ x ∧ x ≤ 1000000) : (kN (x)) = x := by unfold kN; omega
theorem lo4_in (x0 x1 x2 x3 : Int) {l : Int} (h : min (kN (min (kN (min (kN ((kN (x0)))) (kN (x1)))) (kN (x2)))) (kN (x3)) = l) : (l ≤ (kN (x0)) ∧ l ≤ (kN (x1)) ∧ l ≤ (kN (x2)) ∧ l ≤ (kN (x3))) ∧ -1000000 ≤ l ∧ l ≤ 1000000 := by
  have b0 := cn_bd x0
  have b1 := cn_bd x1
  have b2 := cn_bd x2
  have b3 := cn_bd x3
  generalize (kN (x0)) = p0 at *
  generalize (kN (x1)) = p1 at *
  generalize (kN (x2)) = p2 at *
  generalize (kN (x3)) = p3 at *
  rw [cn_of b0] at h
  obtain ⟨m1, hm1⟩ : ∃ m, m = min p0 p1 := ⟨_, rfl⟩
  rw [← hm1, cn_of (x := m1) (by omega)] at h
  obtain ⟨m2, hm2⟩ : ∃ m, m = min m1 p2 := ⟨_, rfl⟩
  rw [← hm2, cn_of (x := m2) (by omega)] at h
  omega
theorem hi4_in (x0 x1 x2 x3 : Int) {l : Int} (h : max (kN (max (kN (max (kN ((kN (x0)))) (kN (x1)))) (kN (x2)))) (kN (x3)) = l) : ((kN (x0)) ≤ l ∧ (kN (x1)) ≤ l ∧ (kN (x2)) ≤ l ∧ (kN (x3)) ≤ l) ∧ -1000000 ≤ l ∧ l ≤ 1000000 := by
  have b0 := cn_bd x0
  have b1 := cn_bd x1
  have b2 := cn_bd x2
  have b3 := cn_bd x3
  generalize (kN (x0)) = p0 at *
  generalize (kN (x1)) = p1 at *
  generalize (kN (x2)) = p2 at *
  generalize (kN (x3)) = p3 at *
  rw [cn_of b0] at h
  obtain ⟨m1, hm1⟩ : ∃ m, m = max p0 p1 := ⟨_, rfl⟩
  rw [← hm1, cn_of (x := m1) (by omega)] at h
  obtain ⟨m2, hm2⟩ : ∃ m, m = max m1 p2 := ⟨_, rfl⟩
  rw [← hm2, cn_of (x := m2) (by omega)] at h
  omega
abbrev inB (a d x : Int) : Prop := a ≤ (kN (x)) ∧ (kN (x)) ≤ d
theorem ax8_in (x0 x1 x2 x3 u0 u1 u2 u3 : Int) {a d : Int} (ha : min (kN (min (kN (min (kN (min (kN ((kN (x0)))) (kN (x1)))) (kN (x2)))) (kN (x3)))) (kN (min (kN (min (kN (min (kN ((kN (u0)))) (kN (u1)))) (kN (u2)))) (kN (u3)))) = a) (hd : max (kN (max (kN (max (kN (max (kN ((kN (x0)))) (kN (x1)))) (kN (x2)))) (kN (x3)))) (kN (max (kN (max (kN (max (kN ((kN (u0)))) (kN (u1)))) (kN (u2)))) (kN (u3)))) = d) :
    (inB a d x0 ∧ inB a d x1 ∧ inB a d x2 ∧ inB a d x3 ∧ inB a d u0 ∧ inB a d u1 ∧ inB a d u2 ∧ inB a d u3) ∧ -1000000 ≤ a ∧ d ≤ 1000000 ∧ a ≤ d := by
  have l1 := lo4_in x0 x1 x2 x3 rfl
  have l2 := lo4_in u0 u1 u2 u3 rfl
  have k1 := hi4_in x0 x1 x2 x3 rfl
  have k2 := hi4_in u0 u1 u2 u3 rfl
  generalize min (kN (min (kN (min (kN ((kN (x0)))) (kN (x1)))) (kN (x2)))) (kN (x3)) = A at *
  generalize min (kN (min (kN (min (kN ((kN (u0)))) (kN (u1)))) (kN (u2)))) (kN (u3)) = B at *
  generalize max (kN (max (kN (max (kN ((kN (x0)))) (kN (x1)))) (kN (x2)))) (kN (x3)) = C at *
  generalize max (kN (max (kN (max (kN ((kN (u0)))) (kN (u1)))) (kN (u2)))) (kN (u3)) = D at *
  rw [cn_of l1.2, cn_of l2.2] at ha
  rw [cn_of k1.2, cn_of k2.2] at hd
  unfold inB
  generalize (kN (x0)) = p0 at *
  generalize (kN (x1)) = p1 at *
  generalize (kN (x2)) = p2 at *
  generalize (kN (x3)) = p3 at *
  generalize (kN (u0)) = q0 at *
  generalize (kN (u1)) = q1 at *
  generalize (kN (u2)) = q2 at *
  generalize (kN (u3)) = q3 at *
  refine ⟨⟨?_, ?_, ?_, ?_, ?_, ?_, ?_, ?_⟩, ?_, ?_, ?_⟩ <;> omega
theorem SC_in (x0 y0 z0 x1 y1 z1 x2 y2 z2 x3 y3 z3 u0 v0 w0 u1 v1 w1 u2 v2 w2 u3 v3 w3 : Int) {a b c d e g : Int} (hS : SC x0 y0 z0 x1 y1 z1 x2 y2 z2 x3 y3 z3 u0 v0 w0 u1 v1 w1 u2 v2 w2 u3 v3 w3 = ((a, b, c), (d, e, g))) :
    ((inB a d x0 ∧ inB a d x1 ∧ inB a d x2 ∧ inB a d x3 ∧ inB a d u0 ∧ inB a d u1 ∧ inB a d u2 ∧ inB a d u3) ∧ -1000000 ≤ a ∧ d ≤ 1000000 ∧ a ≤ d) ∧
    ((inB b e y0 ∧ inB b e y1 ∧ inB b e y2 ∧ inB b e y3 ∧ inB b e v0 ∧ inB b e v1 ∧ inB b e v2 ∧ inB b e v3) ∧ -1000000 ≤ b ∧ e ≤ 1000000 ∧ b ≤ e) ∧
    ((inB c g z0 ∧ inB c g z1 ∧ inB c g z2 ∧ inB c g z3 ∧ inB c g w0 ∧ inB c g w1 ∧ inB c g w2 ∧ inB c g w3) ∧ -1000000 ≤ c ∧ g ≤ 1000000 ∧ c ≤ g) := by
  have h := Prod.mk.inj hS
  have h1 := Prod.mk.inj h.1
  have h2 := Prod.mk.inj h1.2
  have k1 := Prod.mk.inj h.2
  have k2 := Prod.mk.inj k1.2
  exact ⟨ax8_in x0 x1 x2 x3 u0 u1 u2 u3 h1.1 k1.1, ax8_in y0 y1 y2 y3 v0 v1 v2 v3 h2.1 k2.1, ax8_in z0 z1 z2 z3 w0 w1 w2 w3 h2.2 k2.2⟩
end Go.Proofs.YtcbnegmmjflmcaaGreat.St.G
end

section
/-
  What is diced of a surface lies within its bounds on the screen.
-/
set_option linter.unusedSimpArgs false
set_option linter.unusedVariables false
namespace Go.Proofs.YtcbnegmmjflmcaaGreat.St
open Go.RowKit
abbrev dpS (s : TSf) (S : TSn) (t sx sy : Int) : DPar := ⟨S.cw, S.ch, S.z, S.ne, S.dd, S.l, S.f, lrp s.x0 s.u0 t 16, lrp s.y0 s.v0 t 16, lrp s.z0 s.w0 t 16, lrp s.x1 s.u1 t 16, lrp s.y1 s.v1 t 16, lrp s.z1 s.w1 t 16, lrp s.x2 s.u2 t 16, lrp s.y2 s.v2 t 16, lrp s.z2 s.w2 t 16, lrp s.x3 s.u3 t 16, lrp s.y3 s.v3 t 16, lrp s.z3 s.w3 t 16, s.ra, sx, sy⟩
abbrev scS (s : TSf) : G.TVec × G.TVec := G.SC s.x0 s.y0 s.z0 s.x1 s.y1 s.z1 s.x2 s.y2 s.z2 s.x3 s.y3 s.z3 s.u0 s.v0 s.w0 s.u1 s.v1 s.w1 s.u2 s.v2 s.w2 s.u3 s.v3 s.w3
theorem good_in (s : TSf) (S : TSn) (t sx sy : Int) {a b c d e g : Int} (hS : scS s = ((a, b, c), (d, e, g))) (hc : G.vCm S.cw S.ch S.z S.ne S.l S.f) (hs : goodS s) (ht : 0 ≤ t ∧ t ≤ 16) (hx : -16 ≤ sx ∧ sx ≤ 16) (hy : -16 ≤ sy ∧ sy ≤ 16) (v : TVec) (hv : goodV (dpS s S t sx sy) v) :
    max c S.ne ≤ g ∧ ((axLo S.dd S.z S.l S.f a (max c S.ne) g ((S.cw * 16).tdiv 2) ≤ v.1 ∧ v.1 ≤ axHi S.dd S.z S.l S.f d (max c S.ne) g ((S.cw * 16).tdiv 2)) ∧ (axLo S.dd S.z S.l S.f b (max c S.ne) g ((S.ch * 16).tdiv 2) ≤ v.2.1 ∧ v.2.1 ≤ axHi S.dd S.z S.l S.f e (max c S.ne) g ((S.ch * 16).tdiv 2)) ∧ max c S.ne ≤ v.2.2 ∧ v.2.2 ≤ g) := by
  obtain ⟨⟨p0, p1, p2, p3, p4, p5, p6, p7⟩, pa, pd, _⟩ := (G.SC_in _ _ _ _ _ _ _ _ _ _ _ _ _ _ _ _ _ _ _ _ _ _ _ _ hS).1
  obtain ⟨⟨q0, q1, q2, q3, q4, q5, q6, q7⟩, qa, qd, _⟩ := (G.SC_in _ _ _ _ _ _ _ _ _ _ _ _ _ _ _ _ _ _ _ _ _ _ _ _ hS).2.1
  obtain ⟨⟨r0, r1, r2, r3, r4, r5, r6, r7⟩, ra, rd, _⟩ := (G.SC_in _ _ _ _ _ _ _ _ _ _ _ _ _ _ _ _ _ _ _ _ _ _ _ _ hS).2.2
  obtain ⟨i, j, hi, hj, hz, rfl⟩ := hv
  unfold G.vCm at hc
  unfold goodS at hs
  have m1 := mnl_in (i := i) (j := j) (n := s.ra) ht hs.1 hi hj pa pd p0 p1 p2 p3 p4 p5 p6 p7
  have m2 := mnl_in (i := i) (j := j) (n := s.ra) ht hs.1 hi hj qa qd q0 q1 q2 q3 q4 q5 q6 q7
  have m3 := mnl_in (i := i) (j := j) (n := s.ra) ht hs.1 hi hj ra rd r0 r1 r2 r3 r4 r5 r6 r7
  change S.ne ≤ mn (lrp s.z0 s.w0 t 16) (lrp s.z1 s.w1 t 16) (lrp s.z2 s.w2 t 16) (lrp s.z3 s.w3 t 16) i j s.ra at hz
  have hzz : max c S.ne ≤ mn (lrp s.z0 s.w0 t 16) (lrp s.z1 s.w1 t 16) (lrp s.z2 s.w2 t 16) (lrp s.z3 s.w3 t 16) i j s.ra := by omega
  refine ⟨by omega, ?_, ?_, hzz, m3.2⟩
  · exact prj_in (by omega) (by omega) (by omega) m1 ⟨hzz, m3.2⟩ hx
  · exact prj_in (by omega) (by omega) (by omega) m2 ⟨hzz, m3.2⟩ hy
end Go.Proofs.YtcbnegmmjflmcaaGreat.St
end

section
/-
  An argument that is a list of bytes.
-/
set_option linter.unusedSimpArgs false
set_option linter.unusedVariables false
namespace Go.Proofs.YtcbnegmmjflmcaaGreat.St
open Go.RowKit
theorem openByteS {H : Type} {enc : TypeId × Value → H} {P : Program} {w : World} {spare : Nat → Bool} {held : Bool} {t e : TypeId} {fuel : Nat} {c : Value} {x : DataW H × List MemPlace} (hu : P.underlying t = some (.slice e)) (hf : flatT P 9 e = some [.int .u8]) (hc : P.cellsOf e = 1)
    (h : DataW.trod enc P w 0 spare held fuel t [c] = some x) : ∃ (p : Option Addr) (xs : List Int) (cap : Nat), c = .slice p xs.length cap ∧ xs.length ≤ cap ∧ cap ≤ maxLen ∧ Sl (fun b => w.heap[b]?) p eB 1 xs ∧ bytesOk xs := by
  obtain ⟨p, css, cap, rfl, h1, h2, h3, h4⟩ := openSlice hu hf (by simp) (by simpa using hc) h
  obtain ⟨xs, rfl, hq⟩ := list_of eB (fun x => 0 ≤ x ∧ x ≤ 255) css fun cs hcs => by
    obtain ⟨n0, r0, rfl, b0, f1⟩ := fits_int (h4 cs hcs)
    obtain rfl := fits_nil f1
    exact ⟨n0, rfl, b0⟩
  refine ⟨p, xs, cap, by rw [List.length_map], by rwa [List.length_map] at h1, h2, fun i x hi => ?_, hq⟩
  exact h3 i (eB x) (by rw [List.getElem?_map, hi]; rfl)
end Go.Proofs.YtcbnegmmjflmcaaGreat.St
end
