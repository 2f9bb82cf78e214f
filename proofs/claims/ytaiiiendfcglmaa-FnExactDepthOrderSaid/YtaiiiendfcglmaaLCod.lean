/-
  Contracts of the functions on compiled code.
-/
import Derived.Test.YtaiiiendfcglmaaLNum
import Derived.Test.YtaiiiendfcglmaaJ2
import Derived.Test.YtaiiiendfcglmaaStZip
import Derived.Test.YtaiiiendfcglmaaStCur
import Derived.Test.YtaiiiendfcglmaaScal
set_option linter.unusedSimpArgs false
set_option linter.unusedVariables false
namespace Go.Proofs.Ytaiiiendfcglmaa.St
open Go.RowKit Go.WideShapes
/-- what is left of a size's bound, or -1 -/
def leftR (n left : Int) (v : Value) : Prop := ∃ r, v = I r ∧ (r = -1 ∨ (0 ≤ r ∧ r + n ≤ left))
abbrev eS (s : ByteArray) : List Value := [.string s]
theorem Sl.atS {B : Heap} {p : Option Addr} {xs : List ByteArray} (h : Sl B p eS 1 xs) {k : Nat} (hk : k < xs.length) : ∃ a, p = some a ∧ At B (a.add k) [.string xs[k]] := by
  obtain ⟨a, ha, hat⟩ := h.at hk
  rw [Nat.mul_one] at hat
  exact ⟨a, ha, hat⟩
def smallS (xs : List ByteArray) : Prop := ∀ s ∈ xs, s.size ≤ maxLen
theorem smallS.get {xs : List ByteArray} (h : smallS xs) {k : Nat} (hk : k < xs.length) : xs[k].size ≤ 9223372036854775807 := by
  have := h _ (List.getElem_mem hk)
  simp only [maxLen] at this
  omega
theorem openStringS {H : Type} {enc : TypeId × Value → H} {P : Program} {w : World} {spare : Nat → Bool} {held : Bool} {t e : TypeId} {fuel : Nat} {c : Value} {x : DataW H × List MemPlace} (hu : P.underlying t = some (.slice e)) (hf : flatT P 9 e = some [.str]) (hc : P.cellsOf e = 1)
    (h : DataW.trod enc P w 0 spare held fuel t [c] = some x) : ∃ (p : Option Addr) (xs : List ByteArray) (cap : Nat), c = .slice p xs.length cap ∧ xs.length ≤ cap ∧ cap ≤ maxLen ∧ Sl (fun b => w.heap[b]?) p eS 1 xs ∧ smallS xs := by
  obtain ⟨p, css, cap, rfl, h1, h2, h3, h4⟩ := openSlice hu hf (by simp) (by simpa using hc) h
  obtain ⟨xs, rfl, hq⟩ := list_of eS (fun x => x.size ≤ maxLen) css fun cs hcs => by
    obtain ⟨n0, r0, rfl, b0, f1⟩ := fits_str (h4 cs hcs)
    obtain rfl := fits_nil f1
    exact ⟨n0, rfl, b0⟩
  refine ⟨p, xs, cap, by rw [List.length_map], by rwa [List.length_map] at h1, h2, fun i x hi => ?_, hq⟩
  exact h3 i (eS x) (by rw [List.getElem?_map, hi]; rfl)
abbrev TInstruction := Int × ByteArray × Int
abbrev eInstruction (x : TInstruction) : List Value := [I x.1, .string x.2.1, I x.2.2]

def bdInstruction (x : TInstruction) : Prop := (-9223372036854775808 ≤ x.1 ∧ x.1 ≤ 9223372036854775807) ∧ (x.2.1).size ≤ maxLen ∧ (-9223372036854775808 ≤ x.2.2 ∧ x.2.2 ≤ 9223372036854775807)
theorem openInstructionS {H : Type} {enc : TypeId × Value → H} {P : Program} {w : World} {spare : Nat → Bool} {held : Bool} {t e : TypeId} {fuel : Nat} {c : Value} {x : DataW H × List MemPlace} (hu : P.underlying t = some (.slice e)) (hf : flatT P 9 e = some [.int .i64, .str, .int .i64]) (hc : P.cellsOf e = 3)
    (h : DataW.trod enc P w 0 spare held fuel t [c] = some x) : ∃ (p : Option Addr) (xs : List TInstruction) (cap : Nat), c = .slice p xs.length cap ∧ xs.length ≤ cap ∧ cap ≤ maxLen ∧ Sl (fun b => w.heap[b]?) p eInstruction 3 xs ∧ ∀ x ∈ xs, bdInstruction x := by
  obtain ⟨p, css, cap, rfl, h1, h2, h3, h4⟩ := openSlice hu hf (by simp) (by simpa using hc) h
  obtain ⟨xs, rfl, hq⟩ := list_of eInstruction bdInstruction css fun cs hcs => by
    have f0 := h4 cs hcs
    obtain ⟨n0, r0, rfl, b0, f1⟩ := fits_i64 f0
    obtain ⟨n1, r1, rfl, b1, f2⟩ := fits_str f1
    obtain ⟨n2, r2, rfl, b2, f3⟩ := fits_i64 f2
    obtain rfl := fits_nil f3
    exact ⟨(n0, n1, n2), rfl, b0, b1, b2⟩
  refine ⟨p, xs, cap, by rw [List.length_map], by rwa [List.length_map] at h1, h2, fun i x hi => ?_, hq⟩
  exact h3 i (eInstruction x) (by rw [List.getElem?_map, hi]; rfl)
theorem eInstruction_inj {x y : TInstruction} (h : eInstruction x = eInstruction y) : x = y := by
  obtain ⟨x0, x1, x2⟩ := x
  obtain ⟨y0, y1, y2⟩ := y
  simp only [eInstruction, List.cons.injEq, Value.int.injEq, Value.string.injEq, Value.bool.injEq, true_and, and_true] at h
  simp only [Prod.mk.injEq]
  exact h

def smallI (xs : List TInstruction) : Prop := ∀ x ∈ xs, x.2.1.size ≤ maxLen
theorem smallI.get {xs : List TInstruction} (h : smallI xs) {k : Nat} (hk : k < xs.length) : xs[k].2.1.size ≤ 9223372036854775807 := by
  have := h _ (List.getElem_mem hk)
  simp only [maxLen] at this
  omega
def CodeR (xs : List TInstruction) (ys : List ByteArray) (v : Value) (H : Heap) : Prop := ∃ p c q d, v = .agg #[.slice p xs.length c, .slice q ys.length d] ∧ (xs.length ≤ c ∧ c ≤ maxLen) ∧ (ys.length ≤ d ∧ d ≤ maxLen) ∧ Sl H p eInstruction 3 xs ∧ Sl H q eS 1 ys
instance (xs : List TInstruction) (ys : List ByteArray) : MonoR (CodeR xs ys) := ⟨fun _ _ _ hle ⟨p, c, q, d, h0, h1, h2, h3, h4⟩ => ⟨p, c, q, d, h0, h1, h2, h3.mono hle, h4.mono hle⟩⟩
end Go.Proofs.Ytaiiiendfcglmaa.St
