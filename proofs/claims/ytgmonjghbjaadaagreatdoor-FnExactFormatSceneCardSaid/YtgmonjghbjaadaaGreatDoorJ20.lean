/-
  The reference's comparison of programs.
-/
import Derived.Test.YtgmonjghbjaadaaGreatDoorJ19
import Derived.Test.YtgmonjghbjaadaaGreatDoorLSce

section
set_option linter.unusedSimpArgs false
set_option linter.unusedVariables false
namespace Go.Proofs.YtgmonjghbjaadaaGreatDoor.St
open Go.RowKit
end Go.Proofs.YtgmonjghbjaadaaGreatDoor.St
end

section
/-
  The reference's comparison of scenes.
-/
set_option linter.unusedSimpArgs false
set_option linter.unusedVariables false
namespace Go.Proofs.YtgmonjghbjaadaaGreatDoor.St
open Go.RowKit
end Go.Proofs.YtgmonjghbjaadaaGreatDoor.St
end

section
/-
  Scenes that come in; copies of scenes.
-/
set_option linter.unusedSimpArgs false
set_option linter.unusedVariables false
namespace Go.Proofs.YtgmonjghbjaadaaGreatDoor.St
open Go.RowKit Go.WideShapes
theorem openProgramS {H : Type} {enc : TypeId × Value → H} {P : Program} {w : World} {spare : Nat → Bool} {held : Bool} {t e tn en ti ei ta ea : TypeId} {fuel : Nat} {c : Value} {x : DataW H × List MemPlace} (hu : P.underlying t = some (.slice e)) (hf : flatT P 9 e = some [.cell tn, .cell ta]) (hc : P.cellsOf e = 2)
    (hu1 : P.underlying tn = some (.slice en)) (hf1 : flatT P 9 en = some [.int .i64, .str, .int .i64, .cell ti]) (hc1 : P.cellsOf en = 4) (hu2 : P.underlying ti = some (.slice ei)) (hf2 : flatT P 9 ei = some [.int .i64]) (hc2 : P.cellsOf ei = 1)
    (hu3 : P.underlying ta = some (.slice ea)) (hf3 : flatT P 9 ea = some [.str, .int .i64]) (hc3 : P.cellsOf ea = 2)
    (h : DataW.trod enc P w 0 spare held fuel t [c] = some x) : ∃ (p : Option Addr) (xs : List TProg) (cap : Nat), c = .slice p xs.length cap ∧ xs.length ≤ cap ∧ cap ≤ maxLen ∧ ProgsH (fun b => w.heap[b]?) p xs ∧ ∀ x ∈ xs, bdP x := by
  obtain ⟨p, css, cap, rfl, h1, h2, h3, h4⟩ := openSlice hu hf (by simp) (by simpa using hc) h
  obtain ⟨xs, rfl, hq⟩ := list_of eP (fun x => bdP x ∧ ProgH (fun b => w.heap[b]?) x.p x.q x.xs x.ys) css fun cs hcs => by
    obtain ⟨n0, r0, rfl, ⟨u0, x0, g0⟩, f1⟩ := fits_cell (h4 cs hcs)
    obtain ⟨n1, r1, rfl, ⟨u1, x1, g1⟩, f2⟩ := fits_cell f1
    obtain rfl := fits_nil f2
    obtain ⟨p0, xs0, c0, rfl, hle0, hn0, hi0, hbd0⟩ := openNodeS hu1 hf1 hc1 hu2 hf2 hc2 g0
    obtain ⟨p1, xs1, c1, rfl, hle1, hn1, hi1, hbd1⟩ := openAssignmentS hu3 hf3 hc3 g1
    exact ⟨⟨xs0, xs1, p0, c0, p1, c1⟩, rfl, ⟨hbd0, fun x hx => (hbd1 x hx).1, by simp only; omega, by simp only; omega⟩, hi0, hi1⟩
  refine ⟨p, xs, cap, by rw [List.length_map], by rwa [List.length_map] at h1, h2, ⟨fun i x hi => ?_, fun x hx => (hq x hx).2⟩, fun x hx => (hq x hx).1⟩
  exact h3 i (eP x) (by rw [List.getElem?_map, hi]; rfl)
theorem smP_of {x y : TProg} (h : aP x = aP y) (hy : smP y) : smP x := by
  obtain ⟨⟨h1, h2⟩, h3⟩ := hy
  obtain ⟨e1, e2⟩ := Prod.mk.inj h
  have hl : x.xs.length = y.xs.length := by simpa using congrArg List.length e1
  refine ⟨⟨by omega, fun z hz => ?_⟩, by rw [e2]; exact h3⟩
  have hm : z.a ∈ x.xs.map aN := List.mem_map_of_mem hz
  rw [e1] at hm
  obtain ⟨z', hz', hzz⟩ := List.mem_map.1 hm
  have h2' := h2 z' hz'
  have e : z'.a = z.a := hzz
  simp only [smN] at h2' ⊢
  rw [← e]
  exact h2'
theorem smSc_of {x y : TScene} (h : aSc x = aSc y) (hy : smSc y) : smSc x := by
  obtain ⟨h1, h2, h3, h4⟩ := hy
  simp only [aSc, PScene.mk.injEq] at h
  obtain ⟨_, _, _, _, _, _, _, _, e1, e2, e3, _⟩ := h
  have hl : x.sh.length = y.sh.length := by simpa using congrArg List.length e2
  refine ⟨by rw [e1]; exact h1, by omega, fun z hz => ?_, by rw [e3]; exact h4⟩
  have hm : aP z ∈ x.sh.map aP := List.mem_map_of_mem hz
  rw [e2] at hm
  obtain ⟨z', hz', hzz⟩ := List.mem_map.1 hm
  exact smP_of hzz.symm (h3 z' hz')
structure CopyR (x : TScene) (v : Value) (N : Heap) : Prop where
  out : ∃ y, v = .agg (eSc y).toArray ∧ aSc y = aSc x ∧ smSc y ∧ SceneH N y
instance (x : TScene) : MonoR (CopyR x) := ⟨fun _ _ _ hle ⟨⟨y, h1, h2, h3, h4⟩⟩ => ⟨⟨y, h1, h2, h3, h4.mono hle⟩⟩⟩
theorem toSceneC_ok (x : TScene) (hs : smSc x) : FunR Tryz.prog 6 [.agg (eSc x).toArray] (fun H => SceneH H x) (CopyR x) :=
  ⟨fun w hp => ((toScene_ok x hs).out w hp).mono fun _ w' ⟨v, he, hx, ⟨⟨y, h1, h2, h3⟩⟩⟩ => ⟨v, he, hx, ⟨⟨y, h1, h2, smSc_of h2 hs, h3⟩⟩⟩⟩
end Go.Proofs.YtgmonjghbjaadaaGreatDoor.St
end
