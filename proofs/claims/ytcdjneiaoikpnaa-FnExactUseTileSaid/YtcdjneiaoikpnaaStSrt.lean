/-
  The library's sort of a slice of structs with a function that compares them, as an operation on a row of one's own.
-/
import Derived.Test.YtcdjneiaoikpnaaStIns
import Derived.Test.YtcdjneiaoikpnaaStHld
import Derived.Shelf.SlSortCmp.InsertionK
set_option linter.unusedSimpArgs false
set_option linter.unusedVariables false
namespace Go.Proofs.Ytcdjneiaoikpnaa.St
open Go.RowKit
theorem flatK_flat {α : Type} [Inhabited α] (enc : α → List Value) {k : Nat} (hk : ∀ x, (enc x).length = k) (hk0 : 0 < k) (xs : List α) : (Sort.flatK enc k xs.toArray).toList = (xs.map enc).flatten := by
  apply List.ext_getElem?
  intro t
  have hl := flat_len hk xs
  by_cases ht : t < xs.length * k
  · have h1 : t / k < xs.length := Nat.div_lt_of_lt_mul (by rw [Nat.mul_comm]; exact ht)
    have h2 : t % k < (enc xs[t / k]).length := by rw [hk]; exact Nat.mod_lt _ hk0
    have h3 : (xs.map enc).flatten[(t / k) * k + t % k]? = some (enc xs[t / k])[t % k] := flatten_get (sz := k) (fun cs hc => by
      obtain ⟨x, _, rfl⟩ := List.mem_map.1 hc
      exact hk x) (i := t / k) (j := t % k) (cs := enc xs[t / k]) (by rw [List.getElem?_map, List.getElem?_eq_getElem h1]; rfl) (List.getElem?_eq_getElem h2)
    rw [Nat.mul_comm, Nat.div_add_mod] at h3
    rw [h3]
    have h4 : t < (Sort.flatK enc k xs.toArray).size := by simpa using ht
    rw [Array.getElem?_toList, Array.getElem?_eq_getElem h4]
    simp [Sort.flatK, h1, h2]
  · rw [List.getElem?_eq_none (by simp; omega), List.getElem?_eq_none (by omega)]
theorem sw_other {α : Type} [Inhabited α] {enc : α → List Value} {k blk off m c : Nat} {w : World} {d : Array α} {os : Array Obj} (hc : c ≠ blk) (hlt : c < w.heap.size) : (sortWorldK enc k w blk off m d os).heap[c]? = w.heap[c]? := by
  simp only [sortWorldK, Sort.grow, Sort.putRowK, Sort.putRow, Sort.mapBlock, Sort.ahead]
  rw [Array.getElem?_append_left (by simpa using hlt), Array.getElem?_modify, if_neg (fun e => hc e.symm)]
theorem sw_blk {α : Type} [Inhabited α] {enc : α → List Value} {k blk m : Nat} {w : World} {ys : List α} {os : Array Obj} {cs spare : List Value} {T : TypeId} (hk : ∀ x, (enc x).length = k) (hk0 : 0 < k) (hb : w.heap[blk]? = some (.cells (cs ++ spare).toArray T (0, 0))) (hl : cs.length = ys.length * k) :
    (sortWorldK enc k w blk 0 m ys.toArray os).heap[blk]? = some (.cells ((ys.map enc).flatten ++ spare).toArray T (0, 0)) := by
  have hlt : blk < w.heap.size := (Array.getElem?_eq_some_iff.1 hb).1
  simp only [sortWorldK, Sort.grow, Sort.putRowK, Sort.putRow, Sort.mapBlock, Sort.ahead]
  rw [Array.getElem?_append_left (by simpa using hlt), Array.getElem?_modify, if_pos rfl, hb]
  simp only [Option.map_some, Sort.onCells, Option.some.injEq, Obj.cells.injEq, and_true]
  have hf := flatK_flat enc hk hk0 ys
  have hfl := flat_len hk ys
  apply Array.ext_getElem?
  intro t
  simp only [Sort.putCells, Array.getElem?_mapIdx, List.getElem?_toArray, id_eq, Nat.zero_le, true_and, Nat.zero_add, Nat.sub_zero, Sort.size_flatK, List.size_toArray]
  have h2 : ((ys.map enc).flatten ++ spare)[t]? = if t < ys.length * k then (Sort.flatK enc k ys.toArray)[t]? else spare[t - ys.length * k]? := by
    by_cases ht : t < ys.length * k
    · rw [if_pos ht, List.getElem?_append_left (by omega), ← hf, Array.getElem?_toList]
    · rw [if_neg ht, List.getElem?_append_right (by omega), hfl]
  have h3 : (cs ++ spare)[t]? = if t < ys.length * k then cs[t]? else spare[t - ys.length * k]? := by
    by_cases ht : t < ys.length * k
    · rw [if_pos ht, List.getElem?_append_left (by omega)]
    · rw [if_neg ht, List.getElem?_append_right (by omega), hl]
  rw [h2, h3]
  by_cases ht : t < ys.length * k
  · have h4 : t < (Sort.flatK enc k ys.toArray).size := by simpa using ht
    have h5 : t < cs.length := by omega
    simp only [ht, if_true]
    rw [List.getElem?_eq_getElem h5, Array.getElem?_eq_getElem h4, getElem!_pos _ t h4]
    rfl
  · simp only [ht, if_false]
    cases spare[t - ys.length * k]? <;> rfl
theorem holdsK_of {α : Type} [Inhabited α] {enc : α → List Value} {k blk : Nat} {w : World} {xs : List α} {spare : List Value} {T : TypeId} (hk : ∀ x, (enc x).length = k) (hk0 : 0 < k) (hb : w.heap[blk]? = some (.cells ((xs.map enc).flatten ++ spare).toArray T (0, 0))) : Sort.HoldsK enc k w blk 0 xs.toArray := by
  intro j hj
  have hj' : j < xs.length * k := by simpa using hj
  have hf := flatK_flat enc hk hk0 xs
  have hfl := flat_len hk xs
  have h4 : j < (Sort.flatK enc k xs.toArray).size := by simpa using hj'
  constructor
  · simp only [World.cell?, Nat.zero_add, hb]
    have : ((xs.map enc).flatten ++ spare)[j]? = some (Sort.flatK enc k xs.toArray)[j] := by
      rw [List.getElem?_append_left (by omega), ← hf, Array.getElem?_toList, Array.getElem?_eq_getElem h4]
    rw [getElem!_pos _ j h4]
    simp [this]
  · simp [World.frozen?, hb]
theorem does_sort (i : Nat) {P : Program} {E : Env} {w W0 : World} {X : List Nat} {B : Heap} {L : List Own} {Φ : Value → World → Prop} {ty T : TypeId} {α : Type} [Inhabited α] {enc : α → List Value} {k g : Nat} {f : FuncId} {cb : Array Value} {cf : α → α → Int} {args : List Operand} {ats : Array TypeId} {v : Value} {xs : List α}
    (hm : Mem W0 X B L w) (hen : Enters P f) (hx : evs E args = some [v, .func (.func g) #[] cb]) (hL : L[i]? = some (.row v T k (xs.map enc).flatten)) (hk : ∀ x, (enc x).length = k) (hk0 : 0 < k) (h0 : 0 < xs.length) (hsz : xs.length < 4611686018427387904)
    (hcall : ∀ (blk cap : Nat) (d : Array α) (w : World), CmpLays P g cb enc k cf blk 0 d.size w → Sort.HoldsK enc k w blk 0 d → blk < w.heap.size → d.size < 4611686018427387904 →
      Calls P f #[.slice (some ⟨blk, 0, none⟩) d.size cap, .func (.func g) #[] cb] w fun e w' => e = .returned (.tuple #[]) ∧ ∃ d' n os, Sort.PermIn 0 d.size d d' ∧ Sort.SortedIn (ltOf cf) 0 d.size d' ∧ w' = sortWorldK enc k w blk 0 n d' os)
    (hcmp : ∀ blk, v.ownBlock = some blk → ∀ w', (∀ c, c ≠ blk → c < w.heap.size → w'.heap[c]? = w.heap[c]?) → ∀ x y : α, Calls P g (#[.agg (enc x).toArray, .agg (enc y).toArray] ++ cb) w' fun e w2 => e = .returned (.int .i64 (cf x y)) ∧ ∃ q os', w2 = Sort.grow (w'.drewN q) os')
    (kk : ∀ (ys : List α) w', ys.Perm xs → (∀ i j, i < j → j < ys.length → ltOf cf ys[j]! ys[i]! = false) → Mem W0 X B (L.set i (.row v T k (ys.map enc).flatten)) w' → Φ (.tuple #[]) w') :
    Does P (.call { callee := .value (.func f), args := args.toArray, argTypes := ats }) ty E w Φ := by
  obtain ⟨b, cap, spare, rfl, hn, hcm, hlen, hmb⟩ := hm.toBlk i hL (flat_len hk xs) h0 hk0
  have hi : i < L.length := (List.getElem?_eq_some_iff.1 hL).1
  have hLb : (L.set i (.blk b (.cells ((xs.map enc).flatten ++ spare).toArray T (0, 0))))[i]? = some (.blk b (.cells ((xs.map enc).flatten ++ spare).toArray T (0, 0))) := by simp [hi]
  have hb : w.heap[b]? = some (.cells ((xs.map enc).flatten ++ spare).toArray T (0, 0)) := mem_idx hmb hLb
  have hlt : b < w.heap.size := (Array.getElem?_eq_some_iff.1 hb).1
  have hc := hcall b cap xs.toArray w (fun m os dk _ x y => hcmp b rfl _ (fun c hc hlt => sw_other hc hlt) x y) (holdsK_of hk hk0 hb) hlt (by simpa using hsz)
  refine does_call hen hx (hc.mono ?_)
  rintro e w' ⟨rfl, d', n, os, ⟨hp1, _, hp3⟩, hs, rfl⟩
  refine ⟨_, rfl, ?_⟩
  obtain ⟨ys, rfl⟩ : ∃ ys : List α, d' = ys.toArray := ⟨d'.toList, rfl⟩
  have hyl : ys.length = xs.length := by simpa using hp1
  have hperm : ys.Perm xs := by
    have e1 : (ys.toArray.extract 0 xs.toArray.size).toList = ys := by simp [← hyl]
    have e2 : (xs.toArray.extract 0 xs.toArray.size).toList = xs := by simp
    rw [e1, e2] at hp3
    exact hp3
  have hup := Mem.update i (o' := .cells ((ys.map enc).flatten ++ spare).toArray T (0, 0)) (w' := sortWorldK enc k w b 0 n ys.toArray os) hmb hLb rfl rfl rfl (by simp [sortWorldK, Sort.grow, Sort.putRowK, Sort.putRow, Sort.mapBlock, Sort.ahead]) (sw_blk hk hk0 hb (by rw [flat_len hk, hyl])) (fun c hc hlt => sw_other hc hlt)
  rw [List.set_set] at hup
  have hof := hup.ofBlk i (b := b) (T := T) (cs := (ys.map enc).flatten) (spare := spare) (sz := k) (n := xs.length) (cap := cap) (by simp [hi]) (by rw [flat_len hk, hyl]) (by rw [List.length_append, flat_len hk, hyl, ← flat_len hk xs, ← List.length_append]; exact hlen) hn hcm
  rw [List.set_set] at hof
  refine kk ys _ hperm (fun i j hij hj => ?_) hof
  have := hs i j (Nat.zero_le _) hij (by simp; omega)
  simpa using this
end Go.Proofs.Ytcdjneiaoikpnaa.St
