/-
  Rows appended, copied within and stored into.
-/
import Derived.Test.YtcbnegmmjflmcaaGreatJ3
import Derived.Laws.Cover3

section
set_option linter.unusedSimpArgs false
set_option linter.unusedVariables false
namespace Go.Proofs.YtcbnegmmjflmcaaGreat.St
open Go.RowKit
/-- the cells of a slice lie side by side -/
theorem Sl.flat {α : Type} {B : Heap} {q : Addr} {enc : α → List Value} {sz : Nat} {xs : List α} (hf : ∀ x, (enc x).length = sz) (hsz : 0 < sz) (h : Sl B (some q) enc sz xs) (hne : 0 < xs.length) : At B q (xs.map enc).flatten := by
  obtain ⟨a, ha, hat⟩ := h.at hne
  cases ha
  rw [Nat.zero_mul] at hat
  have hq : q.spot = none := by
    have := hat.1
    unfold Addr.add at this
    simpa using this
  obtain ⟨_, arr, T, fz, hb, _⟩ := hat
  rw [add_add q 0 0 hq] at hb
  refine ⟨hq, arr, T, fz, hb, fun j v hj => ?_⟩
  have hlt : j < (xs.map enc).flatten.length := (List.getElem?_eq_some_iff.1 hj).1
  rw [flat_len hf] at hlt
  have hi : j / sz < xs.length := Nat.div_lt_of_lt_mul (by rwa [Nat.mul_comm] at hlt)
  have hr : j % sz < sz := Nat.mod_lt _ hsz
  obtain ⟨a2, ha2, hat2⟩ := h.at hi
  cases ha2
  have hr2 : j % sz < (enc xs[j / sz]).length := by rw [hf]; exact hr
  have hg := flatten_get (oneLen enc sz hf xs) (i := j / sz) (j := j % sz) (cs := enc xs[j / sz]) (v := (enc xs[j / sz])[j % sz]) (by simp [hi]) (List.getElem?_eq_getElem hr2)
  rw [Nat.div_add_mod'] at hg
  rw [hg] at hj
  cases hj
  obtain ⟨_, arr2, T2, fz2, hb2, hat3⟩ := hat2
  rw [add_add q 0 _ hq] at hb2 hat3
  simp only at hb hb2 hat3
  rw [hb] at hb2
  cases hb2
  have := hat3 _ _ (List.getElem?_eq_getElem hr2)
  rwa [Nat.add_assoc, Nat.div_add_mod'] at this
section
variable {P : Program} {E : Env} {w W0 : World} {X : List Nat} {B : Heap} {L : List Own} {Φ : Value → World → Prop} {ty t : TypeId} {x y : Operand}
/-- append to a row; the new slice's length is told -/
theorem does_appS (i : Nat) {e n m c bytes sz : Nat} {zs cs news : List Value} {z : Value} {q : Addr} {v : Value} [hs : SliceT P t e] [hz : ZeroC P e zs] [hb : Sz P e z sz bytes] (hm : Mem W0 X B L w) (hx : ev E x = some v) (hy : ev E y = some (.slice (some q) m c)) (hL : L[i]? = some (.row v e sz cs)) (hsz : 0 < sz) (hcs : cs.length = n * sz)
    (hl : news.length = m * sz) (hat : At (fun b => w.heap[b]?) q news) (ho : ∀ u ∈ news, u.oneCell' = true) (hby : (n + m) * bytes ≤ 140737488355328) (h63 : n + m ≤ maxLen)
    (k : ∀ p' c' w', n + m ≤ c' → c' ≤ maxLen → Mem W0 X B (L.set i (.row (.slice p' (n + m) c') e sz (cs ++ news))) w' → Φ (.slice p' (n + m) c') w') :
    Does P (.call { callee := .builtin .append, args := [x, y].toArray, argTypes := [t, t].toArray }) ty E w Φ := by
  refine does_app i hm hx hy hL hsz hcs hl hat ho hby h63 fun v' w' hm' => ?_
  have hlt : i < L.length := (List.getElem?_eq_some_iff.1 hL).1
  obtain ⟨p, n', cap, rfl, h4, h5, h6, _⟩ := row_at (i := i) hm' (List.getElem?_set_self hlt)
  have hn' : n' = n + m := by
    rw [List.length_append, hcs, hl, ← Nat.add_mul] at h4
    exact (Nat.eq_of_mul_eq_mul_right hsz h4).symm
  subst hn'
  exact k p cap w' h5 h6 hm'
/-- append a slice, empty or not, to a row -/
theorem does_appX (i : Nat) {e n m c bytes sz : Nat} {zs cs news : List Value} {z : Value} {p : Option Addr} {v : Value} [hs : SliceT P t e] [hz : ZeroC P e zs] [hb : Sz P e z sz bytes] (hm : Mem W0 X B L w) (hx : ev E x = some v) (hy : ev E y = some (.slice p m c)) (hL : L[i]? = some (.row v e sz cs)) (hsz : 0 < sz) (hcs : cs.length = n * sz)
    (hl : news.length = m * sz) (hat : m = 0 ∨ ∃ q, p = some q ∧ At (fun b => w.heap[b]?) q news) (ho : ∀ u ∈ news, u.oneCell' = true) (hby : (n + m) * bytes ≤ 140737488355328) (h63 : n + m ≤ maxLen)
    (k : ∀ p' c' w', n + m ≤ c' → c' ≤ maxLen → Mem W0 X B (L.set i (.row (.slice p' (n + m) c') e sz (cs ++ news))) w' → Φ (.slice p' (n + m) c') w') :
    Does P (.call { callee := .builtin .append, args := [x, y].toArray, argTypes := [t, t].toArray }) ty E w Φ := by
  by_cases hm0 : m = 0
  · subst hm0
    have hnews : news = [] := List.eq_nil_of_length_eq_zero (by simpa using hl)
    subst hnews
    obtain ⟨p', n', cap, rfl, h4, h5, h6, _⟩ := row_at hm hL
    have hn' : n' = n := by
      rw [hcs] at h4
      exact (Nat.eq_of_mul_eq_mul_right hsz h4).symm
    subst hn'
    obtain ⟨inf, hi, hzz, hsize, hbytes⟩ := sz_parts (h := hb)
    have hset : L.set i (.row (.slice p' n' cap) e sz cs) = L := by
      apply List.ext_getElem?
      intro j
      by_cases hij : i = j
      · subst hij
        rw [List.getElem?_set_self (List.getElem?_eq_some_iff.1 hL).1, hL]
      · rw [List.getElem?_set_ne hij]
    refine does_builtin (vs := [.slice p' n' cap, .slice p 0 c]) (by simp [evs, hx, hy]) (r := .slice p' n' cap) (w' := w) ?_ (k p' cap w h5 h6 (by rw [Nat.add_zero, List.append_nil, hset]; exact hm))
    intro _
    cases p' <;> cases p <;> simp [builtin, Builtin.append_, run_underlying hs.out, sizeOf, typeInfo, hi, Builtin.lenOf, Builtin.firstCells, h5, loadCells, loadCellsFrom, storeCells]
  · rcases hat with h | ⟨q, rfl, hat⟩
    · exact absurd h hm0
    · exact does_appS i hm hx hy hL hsz hcs hl hat ho hby h63 k
end
/-- a call that takes some of one's own and gives others: whatever else one owns stays -/
structure FunL (P : Program) (f : FuncId) (vs : List Value) (L0 : List Own) (pre : Heap → Prop) (R : Value → List Own → Prop) : Prop where
  out : ∀ W0 X B L w, pre B → Mem W0 X B (L0 ++ L) w → Calls P f vs.toArray w fun e w' => ∃ v L', e = .returned v ∧ R v L' ∧ Mem W0 X B (L' ++ L) w'
section
variable {P : Program} {E : Env} {w W0 : World} {X : List Nat} {B : Heap} {L : List Own} {Φ : Value → World → Prop} {ty t : TypeId} {x y : Operand}
theorem does_funL {f : FuncId} {args : List Operand} {ats : Array TypeId} {vs : List Value} {L0 : List Own} {pre : Heap → Prop} {R : Value → List Own → Prop} (hm : Mem W0 X B (L0 ++ L) w) (hen : Enters P f) (hx : evs E args = some vs) (hc : FunL P f vs L0 pre R) (hp : pre B)
    (k : ∀ v L' w', R v L' → Mem W0 X B (L' ++ L) w' → Φ v w') : Does P (.call { callee := .value (.func f), args := args.toArray, argTypes := ats }) ty E w Φ :=
  does_call hen hx ((hc.out W0 X B L w hp hm).mono fun _ w' ⟨v, L', he, hR, hn⟩ => ⟨v, he, k v L' w' hR hn⟩)
theorem enterFunL {f : FuncId} {fn : Func} {c : Code} {vs : List Value} {n : Nat} {L0 : List Own} {pre : Heap → Prop} {R : Value → List Own → Prop} (hf : P.funcs[f]? = some fn) (hb : fn.body = some c) (hn : fn.ntmps = n) (hl : Nat.ble vs.length n = true)
    (h : ∀ W0 X B L w a, pre B → Mem W0 X B (L0 ++ L) w → Holds (enumE 0 vs) n a → CW P c (Post P fn fun u w' => ∃ L', R u L' ∧ Mem W0 X B (L' ++ L) w') a w) : FunL P f vs L0 pre R := by
  refine ⟨fun W0 X B L w hp hm => ?_⟩
  refine (enter (R := fun u w' => ∃ L', R u L' ∧ Mem W0 X B (L' ++ L) w') hf hb hn hl (fun a ha => h W0 X B L w a hp hm ha)).mono ?_
  rintro e w' ⟨u, rfl, L', hR, hm⟩
  exact ⟨u, L', rfl, hR, hm⟩
end
end Go.Proofs.YtcbnegmmjflmcaaGreat.St
end

section
/-
  Slices with both bounds; copies, clearings and appends within a block; comparison with nil.
-/
set_option linter.unusedSimpArgs false
set_option linter.unusedVariables false
namespace Go.Proofs.YtcbnegmmjflmcaaGreat.St
open Go.RowKit
section
variable {P : Program} {E : Env} {w W0 : World} {X : List Nat} {B : Heap} {L : List Own} {Φ : Value → World → Prop} {ty t t' : TypeId} {x y : Operand}
end
end Go.Proofs.YtcbnegmmjflmcaaGreat.St
end

section
/-
  slices.Clone at integers.
-/
set_option linter.unusedSimpArgs false
set_option linter.unusedVariables false
namespace Go.Proofs.YtcbnegmmjflmcaaGreat.St
open Go.RowKit
theorem Sl.allI {α : Type} {B : Heap} {p : Option Addr} {enc : α → List Value} {sz : Nat} {xs : List α} (hf : ∀ x, (enc x).length = sz) (hsz : 0 < sz) (h : Sl B p enc sz xs) : xs.length = 0 ∨ ∃ q, p = some q ∧ At B q (xs.map enc).flatten := by
  by_cases h0 : xs.length = 0
  · exact .inl h0
  · obtain ⟨q, rfl, _⟩ := h.at (k := 0) (by omega)
    exact .inr ⟨q, rfl, Sl.flat hf hsz h (by omega)⟩
theorem ones_flatI {α : Type} {enc : α → List Value} (h : ∀ x, oneCells (enc x) = true) (xs : List α) : ∀ u ∈ (xs.map enc).flatten, u.oneCell' = true := by
  intro u hu
  obtain ⟨l, hl, hul⟩ := List.mem_flatten.1 hu
  obtain ⟨x, _, rfl⟩ := List.mem_map.1 hl
  exact oneCells_mem (h x) u hul
end Go.Proofs.YtcbnegmmjflmcaaGreat.St
end
