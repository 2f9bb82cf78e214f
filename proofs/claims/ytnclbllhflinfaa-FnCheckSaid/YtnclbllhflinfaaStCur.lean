/-
  Calls that write into one block that they are given.
-/
import Derived.Test.YtnclbllhflinfaaStOwn
set_option linter.unusedSimpArgs false
set_option linter.unusedVariables false
namespace Go.Proofs.Ytnclbllhflinfaa.St
open Go.RowKit
def hole (w : World) (b : Nat) : Heap := fun k => if k = b then none else w.heap[k]?
section
variable {P : Program} {E : Env} {w W0 : World} {X : List Nat} {B : Heap} {L : List Own} {Φ : Value → World → Prop} {ty t : TypeId} {x y : Operand}
theorem le_hole {i b : Nat} {o : Obj} (hm : Mem W0 X B L w) (hL : L[i]? = some (.blk b o)) : Heap.le B (hole w b) := fun k o' hk => by
  have hne : k ≠ b := fun e => by
    subst e
    rw [hm.apart _ (List.mem_of_getElem? hL) k rfl] at hk
    cases hk
  show (if k = b then none else w.heap[k]?) = some o'
  rw [if_neg hne, hm.base k o' hk]
theorem hole_le (w : World) (b : Nat) : Heap.le (hole w b) (fun k => w.heap[k]?) := fun k o h => by
  unfold hole at h
  split at h
  · cases h
  · exact h
/-- given the block b of these cells, it returns some value, leaves other cells in b and new blocks of its own: R speaks of all three -/
structure FunU (P : Program) (f : FuncId) (vs : List Value) (b : Nat) (T : TypeId) (cs : List Value) (pre : Heap → Prop) (R : Value → List Value → List Own → Prop) : Prop where
  out : ∀ w, w.heap[b]? = some (.cells cs.toArray T (0, 0)) → pre (hole w b) → Calls P f vs.toArray w fun e w' => ∃ v cs' L', e = .returned v ∧ R v cs' L' ∧ Mem w [b] (hole w b) (.blk b (.cells cs'.toArray T (0, 0)) :: L') w'
theorem FunU.weaken {f : FuncId} {vs : List Value} {b : Nat} {T : TypeId} {cs : List Value} {pre : Heap → Prop} {R R' : Value → List Value → List Own → Prop} (h : FunU P f vs b T cs pre R) (hR : ∀ v c l, R v c l → R' v c l) : FunU P f vs b T cs pre R' :=
  ⟨fun w hb hp => (h.out w hb hp).mono fun _ _ ⟨v, cs', L', he, hr, hm⟩ => ⟨v, cs', L', he, hR _ _ _ hr, hm⟩⟩
theorem Mem.touch (i : Nat) {L' : List Own} {w' : World} {b : Nat} {o o' : Obj} (hm : Mem W0 X B L w) (hL : L[i]? = some (.blk b o)) (hn : Mem w [b] (hole w b) (.blk b o' :: L') w') : Mem W0 X B (L' ++ L.set i (.blk b o')) w' := by
  have hkeep : ∀ c, c ≠ b → c < w.heap.size → w'.heap[c]? = w.heap[c]? := fun c hc hl => hn.block c hl (by simpa using hc)
  have e := hm.update i (o' := o') hL hn.os hn.tape hn.output hn.size (hn.own _ (List.mem_cons_self ..)) hkeep
  have hnd := hn.nodup
  simp only [List.filterMap_cons, Own.dom] at hnd
  have hnd := List.nodup_cons.1 hnd
  have hge : ∀ x ∈ L', ∀ c, x.dom = some c → w.heap.size ≤ c := fun x hx c hc => by
    rcases hn.fresh x (List.mem_cons_of_mem _ hx) c hc with h | h
    · exact h
    · simp only [List.mem_singleton] at h
      subst h
      exact absurd (List.mem_filterMap.2 ⟨x, hx, hc⟩) hnd.1
  have hlt : ∀ y ∈ L.set i (.blk b o'), ∀ c, y.dom = some c → c < w.heap.size := fun y hy c hc => by
    obtain ⟨j, hj⟩ := List.mem_iff_getElem?.1 hy
    by_cases hij : i = j
    · subst hij
      rw [List.getElem?_set_self (List.getElem?_eq_some_iff.1 hL).1] at hj
      cases hj
      exact Own.lt (mem_idx hm hL) hc
    · rw [List.getElem?_set_ne hij] at hj
      exact Own.lt (mem_idx hm hj) hc
  refine ⟨e.os, e.tape, e.output, e.size, e.block, e.base, fun x hx => ?_, fun x hx c hc => ?_, fun x hx c hc => ?_, ?_⟩
  · rcases List.mem_append.1 hx with hx | hx
    · exact hn.own x (List.mem_cons_of_mem _ hx)
    · exact e.own x hx
  · rcases List.mem_append.1 hx with hx | hx
    · exact .inl (Nat.le_trans hm.size (hge x hx c hc))
    · exact e.fresh x hx c hc
  · rcases List.mem_append.1 hx with hx | hx
    · cases hB : B c with
      | none => rfl
      | some o2 =>
        have h1 := (Array.getElem?_eq_some_iff.1 (hm.base c o2 hB)).1
        have h2 := hge x hx c hc
        omega
    · exact e.apart x hx c hc
  · rw [List.filterMap_append]
    refine List.nodup_append.2 ⟨hnd.2, e.nodup, fun a ha c hc hac => ?_⟩
    subst hac
    obtain ⟨x, hx, hxb⟩ := List.mem_filterMap.1 ha
    obtain ⟨y, hy, hyb⟩ := List.mem_filterMap.1 hc
    have h1 := hge x hx _ hxb
    have h2 := hlt y hy _ hyb
    omega
theorem does_funU (i : Nat) {f : FuncId} {args : List Operand} {ats : Array TypeId} {vs : List Value} {b : Nat} {T : TypeId} {cs : List Value} {pre : Heap → Prop} {R : Value → List Value → List Own → Prop} (hm : Mem W0 X B L w) (hen : Enters P f) (hx : evs E args = some vs)
    (hL : L[i]? = some (.blk b (.cells cs.toArray T (0, 0)))) (hc : FunU P f vs b T cs pre R) (hp : pre (hole w b)) (k : ∀ v cs' L' w', R v cs' L' → Mem W0 X B (L' ++ L.set i (.blk b (.cells cs'.toArray T (0, 0)))) w' → Φ v w') :
    Does P (.call { callee := .value (.func f), args := args.toArray, argTypes := ats }) ty E w Φ :=
  does_call hen hx ((hc.out w (mem_idx hm hL) hp).mono fun _ w' ⟨v, cs', L', he, hR, hn⟩ => ⟨v, he, k v cs' L' w' hR (hm.touch i hL hn)⟩)
theorem Mem.startU {b : Nat} {o : Obj} (h : w.heap[b]? = some o) : Mem w [b] (hole w b) [.blk b o] w := Mem.startX h
theorem enterFunU {f : FuncId} {fn : Func} {c : Code} {vs : List Value} {n b : Nat} {T : TypeId} {cs : List Value} {pre : Heap → Prop} {R : Value → List Value → List Own → Prop} (hf : P.funcs[f]? = some fn) (hb : fn.body = some c) (hn : fn.ntmps = n) (hl : Nat.ble vs.length n = true)
    (h : ∀ W0 w a, pre (hole W0 b) → Mem W0 [b] (hole W0 b) [.blk b (.cells cs.toArray T (0, 0))] w → Holds (enumE 0 vs) n a → CW P c (Post P fn fun u w' => ∃ cs' L', R u cs' L' ∧ Mem W0 [b] (hole W0 b) (.blk b (.cells cs'.toArray T (0, 0)) :: L') w') a w) : FunU P f vs b T cs pre R := by
  refine ⟨fun w hw hp => ?_⟩
  refine (enter (R := fun u w' => ∃ cs' L', R u cs' L' ∧ Mem w [b] (hole w b) (.blk b (.cells cs'.toArray T (0, 0)) :: L') w') hf hb hn hl (fun a ha => h w w a hp (Mem.startU hw) ha)).mono ?_
  rintro e w' ⟨u, rfl, cs', L', hR, hm⟩
  exact ⟨u, cs', L', rfl, hR, hm⟩
end
/-- the last of one's own goes to the front -/
theorem Mem.front {W0 w : World} {X : List Nat} {B : Heap} {x : Own} {L : List Own} (hm : Mem W0 X B (L ++ [x]) w) : Mem W0 X B (x :: L) w :=
  ⟨hm.os, hm.tape, hm.output, hm.size, hm.block, hm.base, fun y hy => hm.own y (by simp only [List.mem_cons, List.mem_append, List.not_mem_nil, or_false] at hy ⊢; exact hy.symm),
    fun y hy => hm.fresh y (by simp only [List.mem_cons, List.mem_append, List.not_mem_nil, or_false] at hy ⊢; exact hy.symm),
    fun y hy => hm.apart y (by simp only [List.mem_cons, List.mem_append, List.not_mem_nil, or_false] at hy ⊢; exact hy.symm), by
    have h := hm.nodup
    rw [List.filterMap_append] at h
    have hp : (List.filterMap Own.dom [x] ++ List.filterMap Own.dom L).Perm (List.filterMap Own.dom L ++ List.filterMap Own.dom [x]) := List.perm_append_comm
    have := hp.nodup_iff.2 h
    rwa [← List.filterMap_append] at this⟩
/-- a function that only computes, its value told by R -/
structure FunV (P : Program) (f : FuncId) (vs : List Value) (pre : Heap → Prop) (R : Value → Prop) : Prop where
  out : ∀ w, pre (fun b => w.heap[b]?) → Calls P f vs.toArray w fun e w' => ∃ v, e = .returned v ∧ R v ∧ Ext w w'
section
variable {P : Program} {E : Env} {w W0 : World} {X : List Nat} {B : Heap} {L : List Own} {Φ : Value → World → Prop} {ty t : TypeId} {x y : Operand}
theorem does_funVal {f : FuncId} {args : List Operand} {ats : Array TypeId} {vs : List Value} {pre : Heap → Prop} {R : Value → Prop} (hm : Mem W0 X B L w) (hen : Enters P f) (hx : evs E args = some vs) (hc : FunV P f vs pre R) (hp : pre (fun b => w.heap[b]?))
    (k : ∀ v w', R v → Mem W0 X B L w' → Φ v w') : Does P (.call { callee := .value (.func f), args := args.toArray, argTypes := ats }) ty E w Φ :=
  does_call hen hx ((hc.out w hp).mono fun _ w' ⟨v, he, hR, hn⟩ => ⟨v, he, k v w' hR (hm.ext hn)⟩)
theorem enterFunV {f : FuncId} {fn : Func} {c : Code} {vs : List Value} {n : Nat} {pre : Heap → Prop} {R : Value → Prop} (hf : P.funcs[f]? = some fn) (hb : fn.body = some c) (hn : fn.ntmps = n) (hl : Nat.ble vs.length n = true)
    (h : ∀ W0 w a, pre (fun b => W0.heap[b]?) → Mem W0 [] (fun b => W0.heap[b]?) [] w → Holds (enumE 0 vs) n a → CW P c (Post P fn fun u w' => R u ∧ Ext W0 w') a w) : FunV P f vs pre R := by
  refine ⟨fun w hp => ?_⟩
  refine (enter (R := fun u w' => R u ∧ Ext w w') hf hb hn hl (fun a ha => h w w a hp (Mem.start w) ha)).mono ?_
  rintro e w' ⟨u, rfl, hR, hm⟩
  exact ⟨u, rfl, hR, hm⟩
end
theorem row_newsI {α : Type} {enc : α → List Value} {sz i : Nat} {xs : List α} {v : Value} {T : TypeId} {W0 w : World} {B : Heap} {L : List Own} (hm : Mem W0 [] B L w) (hL : L[i]? = some (.row v T sz (xs.map enc).flatten)) (hf : ∀ x, (enc x).length = sz) (hsz : 0 < sz) :
    ∃ p cap, v = .slice p xs.length cap ∧ xs.length ≤ cap ∧ cap ≤ maxLen ∧ Sl (newHeap W0 w) p enc sz xs := by
  obtain ⟨p, n, cap, rfl, h4, h5, h6, h7⟩ := row_at (i := i) hm hL
  rw [flat_len hf] at h4
  have hn : n = xs.length := (Nat.eq_of_mul_eq_mul_right hsz h4).symm
  subst hn
  refine ⟨p, cap, rfl, h5, h6, sl_of_flat hf rfl fun h0 => ?_⟩
  obtain ⟨b, rfl, hat⟩ := h7 h0
  refine ⟨b, rfl, ?_⟩
  obtain ⟨g1, arr, T', fz, g2, g3⟩ := hat
  have hb : W0.heap.size ≤ b := by
    rcases hm.fresh _ (List.mem_of_getElem? hL) b rfl with h | h
    · exact h
    · simp at h
  refine ⟨g1, arr, T', fz, ?_, g3⟩
  have : ¬ b < W0.heap.size := by omega
  simp only [newHeap, this, if_false]
  exact g2
end Go.Proofs.Ytnclbllhflinfaa.St
