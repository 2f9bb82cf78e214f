/-
  A strings.Builder of one's own: its block, and its bytes as a row.
-/
import Derived.Test.YthilfmmoeigeoaaDoorStOwn
import Derived.Shelf.Strings.OnBuilder
set_option linter.unusedSimpArgs false
set_option linter.unusedVariables false
namespace Go.Proofs.YthilfmmoeigeoaaDoor.St
open Go.RowKit
section
variable {P : Program} {w w' W0 : World} {X : List Nat} {L : List Own} {b : Nat} {T e : TypeId} {v p : Value} {bs : List Value}
theorem is_builder (hm : Mem W0 X (fun b => W0.heap[b]?) (.blk b (.cells [p, v].toArray T (0, 0)) :: .row v e 1 bs :: L) w) (hp : p = .pointer none ∨ p = .pointer (some ⟨b, 0, none⟩)) (hv : ∀ k, v.ownBlock = some k → b ≤ k) : Lib.IsBuilder T e b b bs w := by
  have h1 : w.heap[b]? = some (.cells [p, v].toArray T (0, 0)) := hm.own _ (List.mem_cons_self ..)
  obtain ⟨n, h2⟩ := hm.own (.row v e 1 bs) (List.mem_cons_of_mem _ (List.mem_cons_self ..))
  have hn : n = bs.length := by have := h2.1; omega
  subst hn
  have h3 := ownsRow_base h2 hv
  have h4 : v.ownBlock ≠ some b := fun e' => by
    have hnd := hm.nodup
    have : Own.dom (.row v e 1 bs) = some b := e'
    simp only [List.filterMap_cons, Own.dom, e'] at hnd
    simp at hnd
  have hA : ∀ p', p = p' → Lib.BuilderAt T e b b p' bs w := fun p' hp' => ⟨Nat.le_refl _, v, by rw [← hp']; exact h1, h3, h4⟩
  rcases hp with h | h
  · exact .inl (hA _ h)
  · exact .inr (hA _ h)
theorem mem_builder {p' : Value} {bs' : List Value} (hm : Mem W0 X (fun b => W0.heap[b]?) (.blk b (.cells [p, v].toArray T (0, 0)) :: .row v e 1 bs :: L) w) (hb : W0.heap.size ≤ b) (hL : ∀ o ∈ L, ∀ k, o.dom = some k → k < b) (hA : Lib.BuilderAt T e b b p' bs' w') (hx : Below b w w') :
    ∃ v', (∀ k, v'.ownBlock = some k → b ≤ k) ∧ Mem W0 X (fun b => W0.heap[b]?) (.blk b (.cells [p', v'].toArray T (0, 0)) :: .row v' e 1 bs' :: L) w' := by
  obtain ⟨_, v', h1, h2, h3⟩ := hA
  have hge : ∀ k, v'.ownBlock = some k → b ≤ k := fun k hk => by
    rcases h2.2 with ⟨h, _⟩ | ⟨g, cap, cur, h, hg, _⟩
    · rw [h] at hk
      cases hk
    · rw [h] at hk
      cases hk
      exact hg
  refine ⟨v', hge, ?_, ?_, ?_, ?_, fun k hk hX => ?_, fun k o ho => ?_, fun x hx' => ?_, fun x hx' k hk => ?_, fun x hx' k hk => ?_, ?_⟩
  · rw [hx.os, hm.os]
  · rw [hx.tape, hm.tape]
  · rw [hx.output, hm.output]
  · exact Nat.le_trans hm.size hx.size
  · rw [hx.block k (by omega), hm.block k hk hX]
  · have hk : k < W0.heap.size := (Array.getElem?_eq_some_iff.1 ho).1
    rw [hx.block k (by omega)]
    exact hm.base k o ho
  · rcases List.mem_cons.1 hx' with rfl | hx'
    · exact h1
    · rcases List.mem_cons.1 hx' with rfl | hx'
      · exact ⟨_, ownsRow_base h2 fun k _ => Nat.zero_le _⟩
      · exact Own.keep (hm.own x (List.mem_cons_of_mem _ (List.mem_cons_of_mem _ hx'))) fun k hk => hx.block k (hL x hx' k hk)
  · rcases List.mem_cons.1 hx' with rfl | hx'
    · cases hk; exact .inl hb
    · rcases List.mem_cons.1 hx' with rfl | hx'
      · exact .inl (Nat.le_trans hb (hge k hk))
      · exact hm.fresh x (List.mem_cons_of_mem _ (List.mem_cons_of_mem _ hx')) k hk
  · rcases List.mem_cons.1 hx' with rfl | hx'
    · cases hk; exact Array.getElem?_eq_none hb
    · rcases List.mem_cons.1 hx' with rfl | hx'
      · exact Array.getElem?_eq_none (Nat.le_trans hb (hge k hk))
      · exact hm.apart x (List.mem_cons_of_mem _ (List.mem_cons_of_mem _ hx')) k hk
  · have hnd : (L.filterMap Own.dom).Nodup := ((List.sublist_cons_self _ _).trans (List.sublist_cons_self _ _) |>.filterMap _).nodup hm.nodup
    have hlt : ∀ k ∈ L.filterMap Own.dom, k < b := fun k hk => by
      obtain ⟨x, hx', hk'⟩ := List.mem_filterMap.1 hk
      exact hL x hx' k hk'
    cases hvo : v'.ownBlock with
    | none =>
      simp only [List.filterMap_cons, Own.dom, hvo]
      exact List.nodup_cons.2 ⟨fun h => absurd (hlt b h) (Nat.lt_irrefl _), hnd⟩
    | some k =>
      have hk := hge k hvo
      have hne : b ≠ k := fun e' => h3 (by rw [hvo, e'])
      simp only [List.filterMap_cons, Own.dom, hvo]
      refine List.nodup_cons.2 ⟨fun h => ?_, List.nodup_cons.2 ⟨fun h => absurd (hlt k h) (by omega), hnd⟩⟩
      rcases List.mem_cons.1 h with h | h
      · exact hne h
      · exact absurd (hlt b h) (Nat.lt_irrefl _)
end
end Go.Proofs.YthilfmmoeigeoaaDoor.St
