/-
  Frozen memory that is new: what a call hands back with slices within slices.
-/
import Derived.Test.YtnclbllhflinfaaStCur
set_option linter.unusedSimpArgs false
set_option linter.unusedVariables false
namespace Go.Proofs.Ytnclbllhflinfaa.St
open Go.RowKit
def newPart (W0 : World) (B : Heap) : Heap := fun b => if b < W0.heap.size then none else B b
section
variable {P : Program} {E : Env} {w W0 : World} {X : List Nat} {B B' : Heap} {L : List Own} {Φ : Value → World → Prop} {ty t : TypeId} {x y : Operand}
theorem newPart_le : Heap.le (newPart W0 B) B := fun b o h => by
  unfold newPart at h
  split at h
  · cases h
  · exact h
theorem newPart_mono (hB : Heap.le B B') : Heap.le (newPart W0 B) (newPart W0 B') := fun b o h => by
  unfold newPart at h ⊢
  split at h
  · cases h
  · rw [if_neg (by assumption)]; exact hB b o h
theorem newPart_new (hm : Mem W0 X B L w) : Heap.le (newPart W0 B) (newHeap W0 w) := fun b o h => by
  unfold newPart at h
  unfold newHeap
  split at h
  · cases h
  · rw [if_neg (by assumption)]; exact hm.base b o h
theorem does_funRN {f : FuncId} {args : List Operand} {ats : Array TypeId} {vs : List Value} {pre : Heap → Prop} {R : Value → Heap → Prop} (hm : Mem W0 X B L w) (hen : Enters P f) (hx : evs E args = some vs) (hc : FunR P f vs pre R)
    (hp : pre (fun b => w.heap[b]?)) (k : ∀ v w' N B', Heap.le B B' → Heap.le N (newPart W0 B') → R v N → Mem W0 X B' L w' → Φ v w') : Does P (.call { callee := .value (.func f), args := args.toArray, argTypes := ats }) ty E w Φ :=
  does_call hen hx ((hc.out w hp).mono fun _ w' ⟨v, he, hw, hR⟩ => ⟨v, he, k v w' (newHeap w w') _ (le_joinL B _) (fun b o h => by
    have h2 := (hm.join hw).2 b o h
    have hge : w.heap.size ≤ b := by
      unfold newHeap at h
      split at h
      · cases h
      · omega
    have := hm.size
    unfold newPart
    rw [if_neg (by omega)]
    exact h2) hR (hm.join hw).1⟩)
theorem At.newPart {q : Addr} {cs : List Value} (h : At B q cs) (hb : W0.heap.size ≤ q.block) : At (newPart W0 B) q cs := by
  obtain ⟨h1, arr, T, fz, h2, h3⟩ := h
  refine ⟨h1, arr, T, fz, ?_, h3⟩
  show (if q.block < W0.heap.size then none else B q.block) = _
  rw [if_neg (by omega)]
  exact h2
theorem add_block (q : Addr) (n : Nat) : (q.add n).block = q.block := by
  unfold Addr.add
  split <;> rfl
theorem Sl.newPart {α : Type} {p : Option Addr} {enc : α → List Value} {sz : Nat} {xs : List α} (h : Sl B p enc sz xs) (hb : ∀ a, p = some a → W0.heap.size ≤ a.block) : Sl (newPart W0 B) p enc sz xs := fun i x hi => by
  obtain ⟨a, ha, hat⟩ := h i x hi
  exact ⟨a, ha, hat.newPart (by rw [add_block]; exact hb a ha)⟩
/-- a new row of structs that is only read from now on -/
theorem Mem.frozenN {α : Type} {enc : α → List Value} {sz : Nat} {xs : List α} {v : Value} {T : TypeId} (hm : Mem W0 [] B (.row v T sz (xs.map enc).flatten :: L) w) (hf : ∀ x, (enc x).length = sz) (hsz : 0 < sz) :
    ∃ B' p cap, Heap.le B B' ∧ Mem W0 [] B' L w ∧ v = .slice p xs.length cap ∧ xs.length ≤ cap ∧ cap ≤ maxLen ∧ Sl (newPart W0 B') p enc sz xs := by
  have hfr := hm.fresh _ (List.mem_cons_self ..)
  obtain ⟨B', p, cap, h1, h2, rfl, h4, h5, h6⟩ := hm.frozen hf hsz
  refine ⟨B', p, cap, h1, h2, rfl, h4, h5, h6.newPart fun a ha => ?_⟩
  subst ha
  rcases hfr a.block rfl with h | h
  · exact h
  · simp at h
end
end Go.Proofs.Ytnclbllhflinfaa.St
