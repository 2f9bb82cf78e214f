/-
  Slices: made, built, appended to, read.
-/
import Derived.Test.YtedgbmefajnjeaaStDraw
set_option linter.unusedSimpArgs false
set_option linter.unusedVariables false
namespace Go.Proofs.Ytedgbmefajnjeaa.St
open Go.RowKit Go.Proofs.Ytedgbmefajnjeaa.Co

section
variable {P : Program} {E : Env} {w W0 : World} {X : List Nat} {B : Heap} {L : List Own} {Φ : Value → World → Prop} {ty t : TypeId} {x y : Operand}

/-! ### Contracts of functions that read memory -/
/-- in every world of which the given holds, it returns v, and what was there stays -/
structure FunP (P : Program) (f : FuncId) (vs : List Value) (pre : Heap → Prop) (v : Value) : Prop where
  out : ∀ w, pre (fun b => w.heap[b]?) → Calls P f vs.toArray w fun e w' => e = .returned v ∧ Ext w w'

theorem Fun.toP {f : FuncId} {vs : List Value} {v : Value} (h : Fun P f vs v) : FunP P f vs (fun _ => True) v := ⟨fun w _ => h.out w⟩

theorem does_funP {f : FuncId} {args : List Operand} {ats : Array TypeId} {vs : List Value} {v : Value} {pre : Heap → Prop} (hm : Mem W0 X B L w) (hen : Enters P f) (hx : evs E args = some vs) (hc : FunP P f vs pre v)
    (hp : pre (fun b => w.heap[b]?)) (k : ∀ w', Mem W0 X B L w' → Φ v w') : Does P (.call { callee := .value (.func f), args := args.toArray, argTypes := ats }) ty E w Φ :=
  does_call hen hx ((hc.out w hp).mono fun _ w' ⟨he, hw⟩ => ⟨v, he, k w' (hm.ext hw)⟩)

theorem does_funPX {f : FuncId} {args : List Operand} {ats : Array TypeId} {vs : List Value} {v : Value} {pre : Heap → Prop} (hen : Enters P f) (hx : evs E args = some vs) (hc : FunP P f vs pre v)
    (hp : pre (fun b => w.heap[b]?)) (k : ∀ w', Ext w w' → Φ v w') : Does P (.call { callee := .value (.func f), args := args.toArray, argTypes := ats }) ty E w Φ :=
  does_call hen hx ((hc.out w hp).mono fun _ w' ⟨he, hw⟩ => ⟨v, he, k w' hw⟩)

theorem enterFunP {f : FuncId} {fn : Func} {c : Code} {vs : List Value} {n : Nat} {v : Value} {pre : Heap → Prop} (hf : P.funcs[f]? = some fn) (hb : fn.body = some c) (hn : fn.ntmps = n) (hl : Nat.ble vs.length n = true)
    (h : ∀ W0 w a, pre (fun b => W0.heap[b]?) → Mem W0 [] (fun b => W0.heap[b]?) [] w → Holds (enumE 0 vs) n a → CW P c (Post P fn fun u w' => u = v ∧ Ext W0 w') a w) : FunP P f vs pre v := by
  refine ⟨fun w hp => ?_⟩
  refine (enter (R := fun u w' => u = v ∧ Ext w w') hf hb hn hl (fun a ha => h w w a hp (Mem.start w) ha)).mono ?_
  rintro e w' ⟨u, rfl, rfl, hx⟩
  exact ⟨rfl, hx⟩

/-- what a call leaves that is new -/
def newHeap (w w' : World) : Heap := fun b => if b < w.heap.size then none else w'.heap[b]?

/-- it returns some v of which R speaks, in new memory, and what was there stays -/
structure FunR (P : Program) (f : FuncId) (vs : List Value) (pre : Heap → Prop) (R : Value → Heap → Prop) : Prop where
  out : ∀ w, pre (fun b => w.heap[b]?) → Calls P f vs.toArray w fun e w' => ∃ v, e = .returned v ∧ Ext w w' ∧ R v (newHeap w w')

def joinH (B N : Heap) : Heap := fun b => match B b with | some o => some o | none => N b
theorem le_joinL (B N : Heap) : Heap.le B (joinH B N) := fun b o h => by simp [joinH, h]
theorem le_joinR {B N : Heap} (hd : ∀ b o, N b = some o → B b = none) : Heap.le N (joinH B N) := fun b o h => by simp [joinH, hd b o h, h]

theorem Mem.join {w' : World} (hm : Mem W0 X B L w) (hx : Ext w w') : Mem W0 X (joinH B (newHeap w w')) L w' ∧ Heap.le (newHeap w w') (joinH B (newHeap w w')) := by
  have e := hm.ext hx
  have hnew : ∀ b o, newHeap w w' b = some o → w.heap.size ≤ b ∧ w'.heap[b]? = some o := fun b o h => by
    unfold newHeap at h
    split at h
    · cases h
    · exact ⟨by omega, h⟩
  have hdis : ∀ b o, newHeap w w' b = some o → B b = none := fun b o h => by
    cases hB : B b with
    | none => rfl
    | some o' =>
      have h1 := (Array.getElem?_eq_some_iff.1 (hm.base b o' hB)).1
      have h2 := (hnew b o h).1
      omega
  refine ⟨⟨e.os, e.tape, e.output, e.size, e.block, fun b o h => ?_, e.own, e.fresh, fun x hx' b hb => ?_, e.nodup⟩, le_joinR hdis⟩
  · unfold joinH at h
    split at h
    · rename_i o' ho'
      cases h
      exact e.base b _ ho'
    · exact (hnew b o h).2
  · unfold joinH
    rw [e.apart x hx' b hb]
    have hlt := Own.lt (hm.own x hx') hb
    simp [newHeap, hlt]

theorem does_funR {f : FuncId} {args : List Operand} {ats : Array TypeId} {vs : List Value} {pre : Heap → Prop} {R : Value → Heap → Prop} (hm : Mem W0 X B L w) (hen : Enters P f) (hx : evs E args = some vs) (hc : FunR P f vs pre R)
    (hp : pre (fun b => w.heap[b]?)) (k : ∀ v w' N B', Heap.le B B' → Heap.le N B' → R v N → Mem W0 X B' L w' → Φ v w') : Does P (.call { callee := .value (.func f), args := args.toArray, argTypes := ats }) ty E w Φ :=
  does_call hen hx ((hc.out w hp).mono fun _ w' ⟨v, he, hw, hR⟩ => ⟨v, he, k v w' (newHeap w w') _ (le_joinL B _) (hm.join hw).2 hR (hm.join hw).1⟩)

theorem enterFunR {f : FuncId} {fn : Func} {c : Code} {vs : List Value} {n : Nat} {pre : Heap → Prop} {R : Value → Heap → Prop} (hf : P.funcs[f]? = some fn) (hb : fn.body = some c) (hn : fn.ntmps = n) (hl : Nat.ble vs.length n = true)
    (h : ∀ W0 w a, pre (fun b => W0.heap[b]?) → Mem W0 [] (fun b => W0.heap[b]?) [] w → Holds (enumE 0 vs) n a → CW P c (Post P fn fun u w' => Ext W0 w' ∧ R u (newHeap W0 w')) a w) : FunR P f vs pre R := by
  refine ⟨fun w hp => ?_⟩
  refine (enter (R := fun u w' => Ext w w' ∧ R u (newHeap w w')) hf hb hn hl (fun a ha => h w w a hp (Mem.start w) ha)).mono ?_
  rintro e w' ⟨u, rfl, hx, hR⟩
  exact ⟨u, rfl, hx, hR⟩

/-! ### Places -/
/-- a place in a block of one's own, as new memory -/
theorem at_new {i b off : Nat} {cs ds : List Value} {T : TypeId} {fz : Nat × Nat} (hm : Mem W0 [] B L w) (hL : L[i]? = some (.blk b (.cells cs.toArray T fz))) (hd : ∀ j v, ds[j]? = some v → cs[off + j]? = some v) : At (newHeap W0 w) ⟨b, off, none⟩ ds := by
  refine ⟨rfl, cs.toArray, T, fz, ?_, fun j v hv => by simpa using hd j v hv⟩
  have h1 : W0.heap.size ≤ b := by
    rcases hm.fresh _ (List.mem_of_getElem? hL) b rfl with h | h
    · exact h
    · simp at h
  have h2 : ¬ b < W0.heap.size := by omega
  simp only [newHeap, h2, if_false]
  exact mem_idx hm hL

theorem at_own {i b off : Nat} {cs ds : List Value} {T : TypeId} {fz : Nat × Nat} (hm : Mem W0 X B L w) (hL : L[i]? = some (.blk b (.cells cs.toArray T fz))) (hd : ∀ j v, ds[j]? = some v → cs[off + j]? = some v) : At (fun b => w.heap[b]?) ⟨b, off, none⟩ ds :=
  ⟨rfl, cs.toArray, T, fz, mem_idx hm hL, fun j v hv => by simpa using hd j v hv⟩

theorem Mem.le (hm : Mem W0 X B L w) : Heap.le B (fun b => w.heap[b]?) := hm.base

theorem At.up {q : Addr} {cs : List Value} (h : At B q cs) (hm : Mem W0 X B L w) : At (fun b => w.heap[b]?) q cs := h.mono hm.base

/-- a slice of integers -/
def Ints (B : Heap) (p : Option Addr) (xs : List Int) : Prop := ∀ i n, xs[i]? = some n → ∃ a, p = some a ∧ At B (a.add i) [.int .i64 n]
theorem Ints.mono {B B' : Heap} {p : Option Addr} {xs : List Int} (h : Ints B p xs) (hB : Heap.le B B') : Ints B' p xs := fun i n hi =>
  let ⟨a, ha, hat⟩ := h i n hi
  ⟨a, ha, hat.mono hB⟩
theorem Ints.up {p : Option Addr} {xs : List Int} (h : Ints B p xs) (hm : Mem W0 X B L w) : Ints (fun b => w.heap[b]?) p xs := h.mono hm.base
theorem Ints.at {p : Option Addr} {xs : List Int} (h : Ints B p xs) {k : Nat} (hk : k < xs.length) : ∃ a, p = some a ∧ At B (a.add k) [.int .i64 xs[k]] := h k xs[k] (List.getElem?_eq_getElem hk)

/-- a slice of structs: each element's cells -/
def Sl {α : Type} (B : Heap) (p : Option Addr) (enc : α → List Value) (sz : Nat) (xs : List α) : Prop := ∀ i x, xs[i]? = some x → ∃ a, p = some a ∧ At B (a.add (i * sz)) (enc x)
theorem Sl.mono {α : Type} {B B' : Heap} {p : Option Addr} {enc : α → List Value} {sz : Nat} {xs : List α} (h : Sl B p enc sz xs) (hB : Heap.le B B') : Sl B' p enc sz xs := fun i n hi =>
  let ⟨a, ha, hat⟩ := h i n hi
  ⟨a, ha, hat.mono hB⟩
theorem Sl.up {α : Type} {p : Option Addr} {enc : α → List Value} {sz : Nat} {xs : List α} (h : Sl B p enc sz xs) (hm : Mem W0 X B L w) : Sl (fun b => w.heap[b]?) p enc sz xs := h.mono hm.base
theorem Sl.at {α : Type} {p : Option Addr} {enc : α → List Value} {sz : Nat} {xs : List α} (h : Sl B p enc sz xs) {k : Nat} (hk : k < xs.length) : ∃ a, p = some a ∧ At B (a.add (k * sz)) (enc xs[k]) := h k xs[k] (List.getElem?_eq_getElem hk)

/-! ### A slice that is filled from its head on -/
def rep (n : Nat) (zs : List Value) : List Value := (List.replicate n zs).flatten

theorem rep_length (n : Nat) (zs : List Value) : (rep n zs).length = n * zs.length := by simp [rep]

theorem rep_eq (zs : List Value) : ∀ n, ((List.range (n * zs.length)).map fun i => zs[i % zs.length]!) = rep n zs
  | 0 => by simp [rep]
  | n + 1 => by
    have ih := rep_eq zs n
    have : (n + 1) * zs.length = n * zs.length + zs.length := by rw [Nat.add_mul, Nat.one_mul]
    rw [this, List.range_add, List.map_append, ih]
    have h2 : rep (n + 1) zs = rep n zs ++ zs := by simp [rep, List.replicate_succ']
    rw [h2]
    congr 1
    apply List.ext_getElem?
    intro i
    by_cases hi : i < zs.length
    · have hm : (n * zs.length + i) % zs.length = i := by rw [Nat.mul_comm, Nat.mul_add_mod, Nat.mod_eq_of_lt hi]
      simp [hi, hm]
    · simp [hi]

theorem splice_eq : ∀ (vs cs : List Value) (off : Nat), off + vs.length ≤ cs.length → splice cs off vs = cs.take off ++ vs ++ cs.drop (off + vs.length)
  | [], cs, off, _ => by simp [splice]
  | v :: vs, cs, off, h => by
    simp only [List.length_cons] at h
    rw [splice, splice_eq vs (cs.set off v) (off + 1) (by simp; omega)]
    have h1 : (cs.set off v).take (off + 1) = cs.take off ++ [v] := by
      rw [List.take_succ_eq_append_getElem (by simp; omega)]
      simp [List.take_set_of_le]
    have h2 : (cs.set off v).drop (off + 1 + vs.length) = cs.drop (off + (v :: vs).length) := by
      rw [List.drop_set_of_lt (by omega)]
      congr 1
      simp; omega
    rw [h1, h2]
    simp

def fillTo (n : Nat) (zs : List Value) (css : List (List Value)) : List Value := css.flatten ++ rep (n - css.length) zs

theorem fillTo_nil (n : Nat) (zs : List Value) : rep n zs = fillTo n zs [] := by simp [fillTo]

theorem flatten_length {sz : Nat} : ∀ {css : List (List Value)}, (∀ cs ∈ css, cs.length = sz) → css.flatten.length = css.length * sz
  | [], _ => by simp
  | c :: css, h => by
    have := flatten_length (sz := sz) (css := css) fun cs hc => h cs (List.mem_cons_of_mem _ hc)
    simp only [List.flatten_cons, List.length_append, List.length_cons, this, h c (List.mem_cons_self ..), Nat.add_mul]
    omega

theorem fillTo_length {n sz : Nat} {zs : List Value} {css : List (List Value)} (hz : zs.length = sz) (hc : ∀ cs ∈ css, cs.length = sz) (hn : css.length ≤ n) : (fillTo n zs css).length = n * sz := by
  simp only [fillTo, List.length_append, flatten_length hc, rep_length, hz, ← Nat.add_mul]
  congr 1
  omega

theorem fillTo_set {n sz off : Nat} {zs vs : List Value} {css : List (List Value)} (hz : zs.length = sz) (hc : ∀ cs ∈ css, cs.length = sz) (hv : vs.length = sz) (hn : css.length < n) (ho : off = css.length * sz) :
    splice (fillTo n zs css) off vs = fillTo n zs (css ++ [vs]) := by
  have hl := fillTo_length (n := n) hz hc (Nat.le_of_lt hn)
  have hf := flatten_length hc
  have hle : css.length * sz + sz ≤ n * sz := by
    have := Nat.mul_le_mul_right sz (show css.length + 1 ≤ n from hn)
    rw [Nat.add_mul] at this
    omega
  rw [splice_eq vs _ off (by rw [hl, hv]; omega)]
  have h1 : (fillTo n zs css).take off = css.flatten := by
    rw [fillTo, ho, ← hf]; exact List.take_left
  have h2 : (fillTo n zs css).drop (off + vs.length) = rep (n - (css.length + 1)) zs := by
    rw [fillTo, ho, hv, ← hf, ← List.drop_drop, List.drop_left]
    have : n - css.length = (n - (css.length + 1)) + 1 := by omega
    rw [this, rep, List.replicate_succ, List.flatten_cons, ← hz, List.drop_left]
    rfl
  rw [h1, h2]
  simp [fillTo]

theorem fillTo_full {n : Nat} {zs : List Value} {css : List (List Value)} (hn : n ≤ css.length) : fillTo n zs css = css.flatten := by
  have : n - css.length = 0 := by omega
  simp [fillTo, this, rep]

theorem flatten_get {sz : Nat} : ∀ {css : List (List Value)} (_ : ∀ cs ∈ css, cs.length = sz) {i j : Nat} {cs : List Value} {v : Value}, css[i]? = some cs → cs[j]? = some v → css.flatten[i * sz + j]? = some v
  | [], _, i, j, cs, v, h, _ => by simp at h
  | c :: css, hc, 0, j, cs, v, h, hv => by
    simp only [List.getElem?_cons_zero, Option.some.injEq] at h
    subst h
    have hj := (List.getElem?_eq_some_iff.1 hv).1
    simp only [List.flatten_cons, Nat.zero_mul, Nat.zero_add]
    rw [List.getElem?_append_left hj]
    exact hv
  | c :: css, hc, i + 1, j, cs, v, h, hv => by
    have hcl := hc c (List.mem_cons_self ..)
    simp only [List.flatten_cons]
    rw [List.getElem?_append_right (by rw [hcl, Nat.add_mul]; omega), hcl]
    rw [show (i + 1) * sz + j - sz = i * sz + j by rw [Nat.add_mul]; omega]
    exact flatten_get (fun cs hm => hc cs (List.mem_cons_of_mem _ hm)) (by simpa using h) hv

/-! ### Rows of one's own -/
theorem Mem.addNil (hm : Mem W0 X B L w) (T : TypeId) (sz : Nat) : Mem W0 X B (.row (.slice none 0 0) T sz [] :: L) w where
  os := hm.os
  tape := hm.tape
  output := hm.output
  size := hm.size
  block := hm.block
  base := hm.base
  own := fun x hx => by
    rcases List.mem_cons.1 hx with rfl | hx
    · exact ⟨0, World.ownsRow_nil w 0 T sz⟩
    · exact hm.own x hx
  fresh := fun x hx b hb => by
    rcases List.mem_cons.1 hx with rfl | hx
    · cases hb
    · exact hm.fresh x hx b hb
  apart := fun x hx b hb => by
    rcases List.mem_cons.1 hx with rfl | hx
    · cases hb
    · exact hm.apart x hx b hb
  nodup := by simpa [List.filterMap_cons, Own.dom, Value.ownBlock] using hm.nodup

/-- a part of what one owns is another of the same block -/
theorem Mem.swap (i : Nat) {o o' : Own} (hm : Mem W0 X B L w) (hL : L[i]? = some o) (hd : o'.dom = o.dom) (ho : o'.holds w) : Mem W0 X B (L.set i o') w := by
  have hlt : i < L.length := (List.getElem?_eq_some_iff.1 hL).1
  have hset : ∀ x ∈ L.set i o', x = o' ∨ x ∈ L := fun x hx => by
    obtain ⟨j, hj⟩ := List.mem_iff_getElem?.1 hx
    by_cases hij : i = j
    · subst hij
      rw [List.getElem?_set_self hlt] at hj
      exact .inl (Option.some.inj hj).symm
    · rw [List.getElem?_set_ne hij] at hj
      exact .inr (List.mem_of_getElem? hj)
  refine ⟨hm.os, hm.tape, hm.output, hm.size, hm.block, hm.base, fun x hx => ?_, fun x hx b hb => ?_, fun x hx b hb => ?_, ?_⟩
  · rcases hset x hx with rfl | hx
    · exact ho
    · exact hm.own x hx
  · rcases hset x hx with rfl | hx
    · exact hm.fresh o (List.mem_of_getElem? hL) b (hd ▸ hb)
    · exact hm.fresh x hx b hb
  · rcases hset x hx with rfl | hx
    · exact hm.apart o (List.mem_of_getElem? hL) b (hd ▸ hb)
    · exact hm.apart x hx b hb
  · rw [filterMap_set hL hd]; exact hm.nodup

theorem Mem.toRow (i : Nat) {b n cap : Nat} {cs : List Value} {T : TypeId} (sz : Nat) (hm : Mem W0 X B L w) (hL : L[i]? = some (.blk b (.cells cs.toArray T (0, 0)))) (hl : cs.length = n * sz) (hn : n ≤ maxLen) :
    Mem W0 X B (L.set i (.row (.slice (some ⟨b, 0, none⟩) n n) T sz cs)) w :=
  hm.swap i hL rfl ⟨n, hl, .inr ⟨b, n, cs.toArray, rfl, Nat.zero_le _, mem_idx hm hL, Nat.le_refl _, hn, by simpa using hl, by simp [← hl]⟩⟩

theorem row_lengths {i : Nat} {v : Value} {T : TypeId} {sz : Nat} {cs : List Value} (hm : Mem W0 X B L w) (hL : L[i]? = some (.row v T sz cs)) : ∃ n cap p, v = .slice p n cap ∧ cs.length = n * sz ∧ n ≤ cap ∧ cap ≤ maxLen := by
  obtain ⟨n, h1, h2⟩ := mem_idx hm hL
  rcases h2 with ⟨rfl, rfl⟩ | ⟨g, cap, cur, rfl, _, _, hc, hcm, _⟩
  · exact ⟨0, 0, none, rfl, h1, Nat.le_refl _, Nat.zero_le _⟩
  · exact ⟨n, cap, _, rfl, h1, hc, hcm⟩

/-- a row, read -/
theorem row_at {i : Nat} {v : Value} {T : TypeId} {sz : Nat} {cs : List Value} (hm : Mem W0 X B L w) (hL : L[i]? = some (.row v T sz cs)) :
    ∃ p n cap, v = .slice p n cap ∧ cs.length = n * sz ∧ n ≤ cap ∧ cap ≤ maxLen ∧ (0 < n → ∃ b, p = some ⟨b, 0, none⟩ ∧ At (fun b => w.heap[b]?) ⟨b, 0, none⟩ cs) := by
  obtain ⟨n, h1, h2⟩ := mem_idx hm hL
  rcases h2 with ⟨rfl, rfl⟩ | ⟨g, cap, cur, rfl, _, hg, hc, hcm, hcs, ht⟩
  · exact ⟨none, 0, 0, rfl, h1, Nat.le_refl _, Nat.zero_le _, fun h => absurd h (Nat.lt_irrefl _)⟩
  · refine ⟨_, n, cap, rfl, h1, hc, hcm, fun _ => ⟨g, rfl, rfl, cur, T, (0, 0), hg, fun j v hv => ?_⟩⟩
    rw [← ht] at hv
    have := hv
    rw [List.getElem?_take] at this
    split at this
    · simpa using this
    · cases this

theorem does_lenRow {e n cap i : Nat} {v : Value} {p : Option Addr} {T : TypeId} {sz : Nat} {cs : List Value} [hs : SliceT P t e] (hx : ev E x = some v) (hv : v = .slice p n cap) (k : Φ (.int .i64 n) w) :
    Does P (.call { callee := .builtin .len, args := [x].toArray, argTypes := [t].toArray }) ty E w Φ := by
  subst hv
  exact does_lenS hs.out hx k

/-! ### Append -/
theorem nodup_set {L : List Own} (i : Nat) {y : Own} (h : (L.filterMap Own.dom).Nodup) (hy : ∀ b, y.dom = some b → b ∉ L.filterMap Own.dom) : ((L.set i y).filterMap Own.dom).Nodup := by
  have hsub : ∀ (L : List Own) (i : Nat) (b : Nat), b ∈ (L.set i y).filterMap Own.dom → y.dom = some b ∨ b ∈ L.filterMap Own.dom := fun L i b hb => by
    obtain ⟨x, hx, hxb⟩ := List.mem_filterMap.1 hb
    rcases List.mem_or_eq_of_mem_set hx with h | h
    · exact .inr (List.mem_filterMap.2 ⟨x, h, hxb⟩)
    · exact .inl (h ▸ hxb)
  induction L generalizing i with
  | nil => simp
  | cons z L ih =>
    have hn : (L.filterMap Own.dom).Nodup := by
      simp only [List.filterMap_cons] at h
      split at h
      · exact h
      · exact (List.nodup_cons.1 h).2
    have hL : ∀ b, b ∈ L.filterMap Own.dom → b ∈ (z :: L).filterMap Own.dom := fun b hb => by
      simp only [List.filterMap_cons]
      split
      · exact hb
      · exact List.mem_cons_of_mem _ hb
    cases i with
    | zero =>
      simp only [List.set_cons_zero, List.filterMap_cons]
      split
      · exact hn
      · rename_i b hb
        exact List.nodup_cons.2 ⟨fun hin => hy b hb (hL b hin), hn⟩
    | succ i =>
      have h2 := ih i hn (fun b hb hin => hy b hb (hL b hin))
      simp only [List.set_cons_succ, List.filterMap_cons]
      split
      · exact h2
      · rename_i b hb
        refine List.nodup_cons.2 ⟨fun hin => ?_, h2⟩
        rcases hsub L i b hin with h3 | h3
        · exact hy b h3 (by simp [List.filterMap_cons, hb])
        · simp only [List.filterMap_cons, hb] at h
          exact (List.nodup_cons.1 h).1 h3

theorem grown_mem (i : Nat) {v v' : Value} {T : TypeId} {sz n' : Nat} {cs cs' : List Value} {w' : World} (hm : Mem W0 X B L w) (hL : L[i]? = some (.row v T sz cs)) (hr : w'.ownsRow 0 T sz v' n' cs') (hg : w.grownBy w' v.ownBlock)
    (hv : v'.ownBlock = v.ownBlock ∨ ∀ b, v'.ownBlock = some b → w.heap.size ≤ b) : Mem W0 X B (L.set i (.row v' T sz cs')) w' := by
  have hlt : i < L.length := (List.getElem?_eq_some_iff.1 hL).1
  have hset : ∀ x ∈ L.set i (.row v' T sz cs'), x = .row v' T sz cs' ∨ (x ∈ L ∧ ∀ c, x.dom = some c → some c ≠ v.ownBlock) := by
    intro x hx
    obtain ⟨j, hj⟩ := List.mem_iff_getElem?.1 hx
    by_cases hij : i = j
    · subst hij
      rw [List.getElem?_set_self hlt] at hj
      exact .inl (Option.some.inj hj).symm
    · rw [List.getElem?_set_ne hij] at hj
      refine .inr ⟨List.mem_of_getElem? hj, fun c hc he => ?_⟩
      exact hij (nodup_dom hm.nodup hL hj he.symm hc)
  have hnew : ∀ b, v'.ownBlock = some b → w.heap.size ≤ b ∨ v.ownBlock = some b := fun b hb => by
    rcases hv with h | h
    · exact .inr (h ▸ hb)
    · exact .inl (h b hb)
  have hmem := List.mem_of_getElem? hL
  refine ⟨by rw [hg.os, hm.os], by rw [hg.tape, hm.tape], by rw [hg.output, hm.output], Nat.le_trans hm.size hg.size, ?_, ?_, ?_, ?_, ?_, ?_⟩
  · intro c hc hX
    have hcb : some c ≠ v.ownBlock := by
      intro e
      rcases hm.fresh _ hmem c e.symm with h | h
      · omega
      · exact hX h
    rw [hg.block c (Nat.lt_of_lt_of_le hc hm.size) hcb, hm.block c hc hX]
  · intro c o2 hc
    have hcb : some c ≠ v.ownBlock := by
      intro e
      rw [hm.apart _ hmem c e.symm] at hc
      cases hc
    have := hm.base c o2 hc
    rw [hg.block c (Array.getElem?_eq_some_iff.1 this).1 hcb, this]
  · intro x hx
    rcases hset x hx with rfl | ⟨hx, hne⟩
    · exact ⟨n', hr⟩
    · exact Own.keep (hm.own x hx) fun c hc => hg.block c (Own.lt (hm.own x hx) hc) (hne c hc)
  · intro x hx c hc
    rcases hset x hx with rfl | ⟨hx, _⟩
    · rcases hnew c hc with h | h
      · exact .inl (Nat.le_trans hm.size h)
      · exact hm.fresh _ hmem c h
    · exact hm.fresh x hx c hc
  · intro x hx c hc
    rcases hset x hx with rfl | ⟨hx, _⟩
    · rcases hnew c hc with h | h
      · cases hB : B c with
        | none => rfl
        | some o =>
          have := (Array.getElem?_eq_some_iff.1 (hm.base c o hB)).1
          omega
      · exact hm.apart _ hmem c h
    · exact hm.apart x hx c hc
  · rcases hv with h | h
    · rw [filterMap_set (y := .row v' T sz cs') hL h]; exact hm.nodup
    · refine nodup_set i hm.nodup fun b hb hin => ?_
      obtain ⟨x, hx, hxb⟩ := List.mem_filterMap.1 hin
      have h1 := Own.lt (hm.own x hx) hxb
      have h2 := h b hb
      omega

theorem run_app (t ty e : TypeId) (i : TypeInfo) (z : Value) (size bytes : Nat) (ht : P.underlying t = some (.slice e)) (hi : P.info? e = some i) (hz : i.zero = some z)
    (hsize : i.size = size) (hby : i.bytes = bytes) (hzs : z.cells.size = size) (hsz : 0 < size)
    (v : Value) (n : Nat) (xs : List Value) (hown : w.ownsRow 0 e size v n xs)
    (a : Addr) (m c : Nat) (news : List Value) (hl : news.length = m * size) (hnews : ∀ j u, news[j]? = some u → w.cell? (a.add j) = some u) (h1 : ∀ u ∈ news, u.oneCell' = true)
    (h63 : n + m ≤ maxLen) (hbytes : (n + m) * bytes ≤ 140737488355328) :
    ∃ v' w', (Builtin.append_ #[t, t] ty #[v, .slice (some a) m c]).run P w = .ok v' w' ∧ w'.ownsRow 0 e size v' (n + m) (xs ++ news) ∧ w.grownBy w' v.ownBlock ∧
      (v'.ownBlock = v.ownBlock ∨ ∀ b, v'.ownBlock = some b → w.heap.size ≤ b) := by
  subst hsize
  subst hby
  have hsmall : n + m ≤ 9223372036854775807 := by simp only [maxLen] at h63; omega
  have hlen : (xs ++ news).length = (n + m) * i.size := by rw [List.length_append, hown.1, hl, Nat.add_mul]
  have grown : ∀ (old : Nat), old < n + m → ∀ (row : Option Nat),
      (w.drew.alloc (.cells (xs.toArray ++ news.toArray ++ Builtin.zeroCells z.cells (grownCap w (n + m) old e - (n + m))) e)).ownsRow 0 e i.size
        (.slice (some ⟨w.heap.size, 0, none⟩) (n + m) (grownCap w (n + m) old e)) (n + m) (xs ++ news) ∧
      w.grownBy (w.drew.alloc (.cells (xs.toArray ++ news.toArray ++ Builtin.zeroCells z.cells (grownCap w (n + m) old e - (n + m))) e)) row := by
    intro old ho row
    have hge := grownCap_ge w (n + m) old e
    have hcm : grownCap w (n + m) old e ≤ maxLen := grownCap_le_maxLen w (n + m) old e h63
    refine ⟨⟨hlen, .inr ⟨w.heap.size, _, _, rfl, Nat.zero_le _, _root_.Go.heap_alloc_new w.drew _, hge, hcm, ?_, ?_⟩⟩, ⟨rfl, rfl, rfl, by simp, fun k hk _ => _root_.Go.heap_alloc_old w.drew _ hk⟩⟩
    · simp only [Array.size_append, List.size_toArray, size_zeroCells, hzs, hown.1, hl, ← Nat.add_mul]
      congr 1
      omega
    · simp only [Array.toList_append, List.append_assoc]
      rw [← List.append_assoc, ← hlen]
      exact List.take_left
  rcases hown.2 with ⟨rfl, rfl⟩ | ⟨g, cap, cur, rfl, hbg, hg, hnc, hcm, hcs, htake⟩
  · have hx : xs = [] := List.eq_nil_of_length_eq_zero (by simpa using hown.1)
    subst hx
    by_cases hm : m = 0
    · subst hm
      have hn : news = [] := List.eq_nil_of_length_eq_zero (by simpa using hl)
      subst hn
      refine ⟨.slice none 0 0, w, ?_, World.ownsRow_nil w 0 e i.size, ⟨rfl, rfl, rfl, Nat.le_refl _, fun _ _ _ => rfl⟩, .inl rfl⟩
      simp [Builtin.append_, run_underlying ht, sizeOf, typeInfo, hi, Builtin.lenOf, Builtin.firstCells, loadCells, loadCellsFrom]
    · have hr := run_append_nil (P := P) w t ty e i z ht hi hz a m c news hl hnews (by omega) (by omega) (by have hb := hbytes; simp only [Nat.zero_add] at hb; omega)
      have hgr := grown 0 (by omega) (Value.ownBlock (.slice none 0 0))
      simp only [Nat.zero_add, List.nil_append, Array.empty_append] at hgr ⊢
      exact ⟨_, _, hr, hgr.1, hgr.2, .inr fun b hb => by simp only [Value.ownBlock, Option.some.injEq] at hb; omega⟩
  · by_cases hroom : n + m ≤ cap
    · have hfit : n * i.size + news.length ≤ cur.size := by rw [hl, hcs, ← Nat.add_mul]; exact Nat.mul_le_mul_right _ hroom
      have hr := run_append_room (P := P) w t ty e i ht hi g n cap cur hg a m c news hl hnews h1 hroom hfit
      refine ⟨_, _, hr, ⟨hlen, .inr ⟨g, cap, _, rfl, hbg, setRow_heap w g cur _ e _ hg, hroom, hcm, ?_, ?_⟩⟩, ⟨rfl, rfl, rfl, by simp, fun k _ hk => setRow_other w g k _ (fun e => hk (by simp [Value.ownBlock, e]))⟩, .inl rfl⟩
      · simp only [List.size_toArray, List.length_append, List.length_take, List.length_drop, Array.length_toList]
        omega
      · rw [htake, ← hlen]
        exact List.take_left
    · have holds : ∀ j u, xs[j]? = some u → w.cell? ((⟨g, 0, none⟩ : Addr).add j) = some u := hown.cells (g := g) rfl
      have hr := run_append_grow (P := P) w t ty e i z ht hi hz ⟨g, 0, none⟩ n cap xs hown.1 holds a m c news hl hnews (by omega) (by omega) (growslice_fits (by omega) hbytes)
      have hgr := grown cap (by omega) (Value.ownBlock (.slice (some ⟨g, 0, none⟩) n cap))
      exact ⟨_, _, hr, hgr.1, hgr.2, .inr fun b hb => by simp only [Value.ownBlock, Option.some.injEq] at hb; omega⟩

/-- append to a row of one's own: what is appended lies at q -/
theorem does_app (i : Nat) {e n m c bytes sz : Nat} {zs cs news : List Value} {z : Value} {q : Addr} {v : Value} [hs : SliceT P t e] [hz : ZeroC P e zs] [hb : Sz P e z sz bytes] (hm : Mem W0 X B L w)
    (hx : ev E x = some v) (hy : ev E y = some (.slice (some q) m c)) (hL : L[i]? = some (.row v e sz cs)) (hsz : 0 < sz) (hcs : cs.length = n * sz) (hl : news.length = m * sz) (hat : At (fun b => w.heap[b]?) q news) (ho : ∀ u ∈ news, u.oneCell' = true)
    (hby : (n + m) * bytes ≤ 140737488355328) (h63 : n + m ≤ maxLen)
    (k : ∀ v' w', Mem W0 X B (L.set i (.row v' e sz (cs ++ news))) w' → Φ v' w') : Does P (.call { callee := .builtin .append, args := [x, y].toArray, argTypes := [t, t].toArray }) ty E w Φ := by
  obtain ⟨inf, hi, hzz, hsize, hbytes⟩ := sz_parts (h := hb)
  obtain ⟨n', hown⟩ := mem_idx hm hL
  obtain rfl : n' = n := by
    have h1 := hown.1
    rw [hcs] at h1
    exact (Nat.eq_of_mul_eq_mul_right hsz h1).symm
  obtain ⟨i2, hi2, z2, hz2, hzc, hsz2⟩ := hz.out
  obtain rfl : inf = i2 := Option.some.inj (hi.symm.trans hi2)
  obtain rfl : z = z2 := Option.some.inj (hzz.symm.trans hz2)
  obtain ⟨v', w', hr, hrow, hg, hv⟩ := run_app (P := P) (w := w) t ty e inf z sz bytes hs.out hi hzz hsize hbytes (by rw [hzc]; simp; omega) hsz v n' cs hown q m c news hl (fun j u hj => hat.cell (fun _ _ h => h) hj) ho h63 hby
  exact does_builtin (vs := [v, .slice (some q) m c]) (by simp [evs, hx, hy]) (by intro _; simp only [builtin, Sem.run_bind, hr, Result.andThen_ok, Sem.run_pure]) (k v' w' (grown_mem i hm hL hrow hg hv))

/-- nothing is appended -/
theorem does_app0 (i : Nat) {e sz c : Nat} {cs : List Value} {v : Value} [hs : SliceT P t e] {z : Value} {bytes : Nat} [hb : Sz P e z sz bytes] (hm : Mem W0 X B L w) (hx : ev E x = some v) (hy : ev E y = some (.slice none 0 c)) (hL : L[i]? = some (.row v e sz cs))
    (k : Φ v w) : Does P (.call { callee := .builtin .append, args := [x, y].toArray, argTypes := [t, t].toArray }) ty E w Φ := by
  obtain ⟨p, n, cap, rfl, _, hc, _, _⟩ := row_at hm hL
  obtain ⟨inf, hi, hzz, hsize, hbytes⟩ := sz_parts (h := hb)
  refine does_builtin (vs := [.slice p n cap, .slice none 0 c]) (by simp [evs, hx, hy]) (r := .slice p n cap) (w' := w) ?_ k
  intro _
  cases p <;> simp [builtin, Builtin.append_, run_underlying hs.out, sizeOf, typeInfo, hi, Builtin.lenOf, Builtin.firstCells, hc, storeCells]

/-! ### Slices made and built -/
theorem madeCells_eq (zs : List Value) (n : Nat) : madeCells zs.toArray (n * zs.length) = (rep n zs).toArray := by
  rw [← rep_eq]
  unfold madeCells
  apply Array.ext'
  simp [Array.toList_range]

def slots (s : Nat) : Nat → Nat → List (Nat × Nat)
  | 0, _ => []
  | n + 1, i => (i * s, s) :: slots s n (i + 1)

theorem slots_get (s : Nat) : ∀ (n i j : Nat), (slots s n i)[j]? = if j < n then some ((i + j) * s, s) else none
  | 0, i, j => by simp [slots]
  | n + 1, i, 0 => by simp [slots]
  | n + 1, i, j + 1 => by
    simp only [slots, List.getElem?_cons_succ, slots_get s n (i + 1) j]
    rw [show i + 1 + j = i + (j + 1) by omega]
    by_cases h : j < n
    · simp [h]
    · simp [h]

theorem does_buildSlice {e n bytes sz : Nat} {z : Value} {zs cs : List Value} {parts : List (Nat × Operand)} {vs : List (Nat × Value)} [hs : SliceT P t e] [hz : ZeroC P e zs] [hb : Sz P e z sz bytes] (hm : Mem W0 X B L w)
    (hx : evp E parts = some vs) (hf : fillL (slots sz n 0) (rep n zs) vs = some cs) (hn : Nat.ble (n * sz) 1000 = true)
    (k : ∀ b w', Mem W0 X B (.blk b (.cells cs.toArray e) :: L) w' → Φ (.slice (some ⟨b, 0, none⟩) n n) w') : Does P (.buildSlice t n parts.toArray) ty E w Φ := by
  obtain ⟨inf, hi, hzz, hsize, hbytes⟩ := sz_parts (h := hb)
  obtain ⟨i2, hi2, z2, hz2, hzc, hsz2⟩ := hz.out
  obtain rfl : inf = i2 := Option.some.inj (hi.symm.trans hi2)
  obtain rfl : z = z2 := Option.some.inj (hzz.symm.trans hz2)
  have hn' : n * sz ≤ 1000 := Nat.le_of_ble_eq_true hn
  have hsz : sz = zs.length := by omega
  have hlt : ∀ (q : List (Nat × Value)) (c c' : List Value), fillL (slots sz n 0) c q = some c' → ∀ x ∈ q, x.1 < n := by
    intro q
    induction q with
    | nil => intro c c' _ x hx; cases hx
    | cons y q ih =>
      intro c c' h x hx
      obtain ⟨i, v⟩ := y
      simp only [fillL] at h
      cases hy : (slots sz n 0)[i]? with
      | none => simp [hy] at h
      | some p =>
        obtain ⟨off, size⟩ := p
        simp only [hy] at h
        rcases List.mem_cons.1 hx with rfl | hx
        · rw [slots_get] at hy
          split at hy
          · assumption
          · cases hy
        · cases hc : (Nat.beq v.cells.toList.length size && Nat.ble (off + v.cells.toList.length) c.length) with
          | false => rw [hc] at h; simp at h
          | true => rw [hc] at h; simp only [cond_true] at h; exact ih _ _ h x hx
  have hfe : Instr.fill (fun i => some (i * sz, sz)) (rep n zs).toArray vs = some cs.toArray := by
    have hgen : ∀ (q : List (Nat × Value)) (c : Array Value), (∀ x ∈ q, x.1 < n) → Instr.fill (fun i => some (i * sz, sz)) c q = Instr.fill (fun i => (slots sz n 0)[i]?) c q := by
      intro q
      induction q with
      | nil => intro c _; rfl
      | cons y q ih =>
        intro c hq
        obtain ⟨i, v⟩ := y
        have hi' : (slots sz n 0)[i]? = some (i * sz, sz) := by
          rw [slots_get, if_pos (hq (i, v) (List.mem_cons_self ..)), Nat.zero_add]
        simp only [Instr.fill, hi']
        split
        · rfl
        · exact ih _ fun x hx => hq x (List.mem_cons_of_mem _ hx)
    rw [hgen vs _ (hlt vs _ _ hf)]
    exact fill_eq _ _ (fun _ => rfl) vs _ _ hf
  have hzero : ((Array.range (n * sz)).map fun i => z.cells[i % z.cells.size]!) = (rep n zs).toArray := by
    have := madeCells_eq zs n
    unfold madeCells at this
    rw [hzc, hsz]
    simpa using this
  refine does_of (fun ρ hρ => ?_)
  have : (execOp ρ (mk (.buildSlice t n parts.toArray) ty)).run P w = .ok (.value (.slice (some ⟨w.heap.size, 0, none⟩) n n)) (w.alloc (.cells cs.toArray e)) := by
    have hbig : ¬ (n * sz > 2 ^ 24) := by omega
    by_cases h0 : n * sz = 0
    · have hrep : rep n zs = [] := List.eq_nil_of_length_eq_zero (by rw [rep_length, ← hsz]; exact h0)
      rw [hrep] at hfe
      simp only [execOp, mk, List.map_toArray, evp_map hρ _ _ hx, Instr.buildSlice, Sem.run_bind, run_underlying hs.out, Result.andThen_ok, run_size (P := P) (t := e)]
      simp [h0, hfe, newRow, Array.range_zero']
    · simp only [execOp, mk, List.map_toArray, evp_map hρ _ _ hx, Instr.buildSlice, Sem.run_bind, run_underlying hs.out, Result.andThen_ok, run_size (P := P) (t := e)]
      simp [h0, hbig, run_zero (P := P) (t := e), hzero, hfe, newRow]
  rw [this]; exact k _ _ (hm.alloc _)

/-- the next place of a slice that is filled from its head on -/
theorem does_storeF (i : Nat) {b off s b_ n k : Nat} {z : Value} {zs vs : List Value} {css : List (List Value)} {T : TypeId} {v : Value} [Sz P t z s b_] (hm : Mem W0 X B L w) (hx : ev E x = some (.pointer (some ⟨b, off, none⟩))) (hy : ev E y = some v)
    (hL : L[i]? = some (.blk b (.cells (fillTo n zs css).toArray T (0, 0)))) (hcss : css.length = k) (hall : ∀ cs ∈ css, cs.length = s) (hz : Nat.beq zs.length s = true) (hv : v.cells = vs.toArray) (ho : oneCells vs = true) (hs : Nat.beq vs.length s = true)
    (hk : k < n) (hoff : off = k * s)
    (kk : ∀ w', Mem W0 X B (L.set i (.blk b (.cells (fillTo n zs (css ++ [vs])).toArray T (0, 0)))) w' → Φ undef w') : Does P (.store t x y) ty E w Φ := by
  have hz' := Nat.eq_of_beq_eq_true hz
  have hs' := Nat.eq_of_beq_eq_true hs
  have hlen := fillTo_length (n := n) hz' hall (by omega)
  have hle : css.length * s + s ≤ n * s := by
    have := Nat.mul_le_mul_right s (show css.length + 1 ≤ n by omega)
    rw [Nat.add_mul] at this
    omega
  refine does_storeO i hm hx hy hL hv ho hs ?_ fun w' hm' => kk w' ?_
  · have : off + vs.length ≤ (fillTo n zs css).length := by rw [hlen, hs', hoff, ← hcss]; exact hle
    exact Nat.ble_eq_true_of_le this
  · rwa [fillTo_set hz' hall hs' (by omega) (by rw [hoff, hcss])] at hm'

theorem oneLen {α : Type} (f : α → List Value) (s : Nat) (hf : ∀ x, (f x).length = s) (xs : List α) : ∀ cs ∈ xs.map f, cs.length = s := by
  intro cs hc
  obtain ⟨x, _, rfl⟩ := List.mem_map.1 hc
  exact hf x

theorem take_map_len {α β : Type} (f : α → β) {k : Nat} {xs : List α} (hk : k ≤ xs.length) : ((xs.take k).map f).length = k := by simp; omega

theorem take_map_snoc {α β : Type} (f : α → β) {k : Nat} {xs : List α} (hk : k < xs.length) : (xs.take k).map f ++ [f xs[k]] = (xs.take (k + 1)).map f := by
  rw [List.take_succ_eq_append_getElem hk, List.map_append]; rfl

/-! ### Elements of one's own slices -/
theorem does_indexSL {e : TypeId} {z : Value} {s b_ n c b o : Nat} {j : IntKind} {m : Int} (h0 : 0 ≤ m ∧ m < n) [hs : SliceT P t e] [Sz P e z s b_] (hx : ev E x = some (.slice (some ⟨b, o, none⟩) n c)) (hy : ev E y = some (.int j m))
    (k : Φ (.pointer (some ⟨b, o + m.toNat * s, none⟩)) w) : Does P (.indexAddr t x y) ty E w Φ :=
  does_indexS h0 hx hy (by rw [add_add _ 0 _ rfl]; exact k)

theorem does_indexS1m {e : TypeId} {z : Value} {b_ n c : Nat} {q : Addr} {j : IntKind} {m : Int} (h0 : 0 ≤ m ∧ m < n) [hs : SliceT P t e] [Sz P e z 1 b_] (hx : ev E x = some (.slice (some q) n c)) (hy : ev E y = some (.int j m))
    (k : Φ (.pointer (some (q.add m.toNat))) w) : Does P (.indexAddr t x y) ty E w Φ :=
  does_indexS h0 hx hy (by simpa using k)

theorem does_indexSL1 {e : TypeId} {z : Value} {b_ n c b i : Nat} {j : IntKind} (hlt : i < n) [hs : SliceT P t e] [Sz P e z 1 b_] (hx : ev E x = some (.slice (some ⟨b, 0, none⟩) n c)) (hy : ev E y = some (.int j i))
    (k : Φ (.pointer (some ⟨b, i, none⟩)) w) : Does P (.indexAddr t x y) ty E w Φ :=
  does_indexSL (m := i) (by omega) hx hy (by simpa using k)

theorem does_indexSLn {e : TypeId} {z : Value} {s b_ n c b i : Nat} {j : IntKind} (hlt : i < n) [hs : SliceT P t e] [Sz P e z s b_] (hx : ev E x = some (.slice (some ⟨b, 0, none⟩) n c)) (hy : ev E y = some (.int j i))
    (k : Φ (.pointer (some ⟨b, i * s, none⟩)) w) : Does P (.indexAddr t x y) ty E w Φ :=
  does_indexSL (m := i) (by omega) hx hy (by simpa using k)
end
section
variable {P : Program} {E : Env} {w W0 : World} {X : List Nat} {B : Heap} {L : List Own} {Φ : Value → World → Prop} {ty t : TypeId} {x y : Operand}

/-! ### New rows: made by a call, given back by it -/
/-- it returns a new slice of these cells, and what was there stays -/
structure FunN (P : Program) (f : FuncId) (vs : List Value) (pre : Heap → Prop) (T : TypeId) (sz : Nat) (cs : List Value) : Prop where
  out : ∀ w, pre (fun b => w.heap[b]?) → Calls P f vs.toArray w fun e w' => ∃ v n, e = .returned v ∧ Ext w w' ∧ w'.ownsRow w.heap.size T sz v n cs

theorem ownsRow_base {b b' : Nat} {T : TypeId} {sz n : Nat} {v : Value} {cs : List Value} (h : w.ownsRow b T sz v n cs) (hb : ∀ k, v.ownBlock = some k → b' ≤ k) : w.ownsRow b' T sz v n cs := by
  obtain ⟨h1, h2⟩ := h
  refine ⟨h1, ?_⟩
  rcases h2 with h2 | ⟨g, cap, cur, rfl, _, h3⟩
  · exact .inl h2
  · exact .inr ⟨g, cap, cur, rfl, hb g rfl, h3⟩

theorem Mem.addRow {w' : World} (hm : Mem W0 X B L w) (hx : Ext w w') {T : TypeId} {sz n : Nat} {v : Value} {cs : List Value} (hr : w'.ownsRow w.heap.size T sz v n cs) : Mem W0 X B (.row v T sz cs :: L) w' := by
  have e := hm.ext hx
  have hlt := fun b hb => hr.lt b hb
  refine ⟨e.os, e.tape, e.output, e.size, e.block, e.base, fun x hx' => ?_, fun x hx' b hb => ?_, fun x hx' b hb => ?_, ?_⟩
  · rcases List.mem_cons.1 hx' with rfl | hx'
    · exact ⟨n, ownsRow_base hr fun _ _ => Nat.zero_le _⟩
    · exact e.own x hx'
  · rcases List.mem_cons.1 hx' with rfl | hx'
    · exact .inl (Nat.le_trans hm.size (hlt b hb).1)
    · exact e.fresh x hx' b hb
  · rcases List.mem_cons.1 hx' with rfl | hx'
    · cases hB : B b with
      | none => rfl
      | some o =>
        have h1 := (Array.getElem?_eq_some_iff.1 (hm.base b o hB)).1
        have h2 := (hlt b hb).1
        omega
    · exact e.apart x hx' b hb
  · simp only [List.filterMap_cons]
    split
    · exact e.nodup
    · rename_i b hb
      refine List.nodup_cons.2 ⟨fun hin => ?_, e.nodup⟩
      obtain ⟨x, hx', hxb⟩ := List.mem_filterMap.1 hin
      have h1 := Own.lt (hm.own x hx') hxb
      have h2 := (hlt b hb).1
      omega

theorem does_funN {f : FuncId} {args : List Operand} {ats : Array TypeId} {vs : List Value} {pre : Heap → Prop} {T : TypeId} {sz : Nat} {cs : List Value} (hm : Mem W0 X B L w) (hen : Enters P f) (hx : evs E args = some vs) (hc : FunN P f vs pre T sz cs)
    (hp : pre (fun b => w.heap[b]?)) (k : ∀ v w', Mem W0 X B (.row v T sz cs :: L) w' → Φ v w') : Does P (.call { callee := .value (.func f), args := args.toArray, argTypes := ats }) ty E w Φ :=
  does_call hen hx ((hc.out w hp).mono fun _ w' ⟨v, _, he, hw, hR⟩ => ⟨v, he, k v w' (hm.addRow hw hR)⟩)

theorem row_new {i : Nat} {v : Value} {T : TypeId} {sz : Nat} {cs : List Value} (hm : Mem W0 [] B L w) (hL : L[i]? = some (.row v T sz cs)) : ∃ n, w.ownsRow W0.heap.size T sz v n cs := by
  obtain ⟨n, hr⟩ := mem_idx hm hL
  refine ⟨n, ownsRow_base hr fun k hk => ?_⟩
  rcases hm.fresh _ (List.mem_of_getElem? hL) k hk with h | h
  · exact h
  · simp at h

theorem enterFunN {f : FuncId} {fn : Func} {c : Code} {vs : List Value} {n : Nat} {pre : Heap → Prop} {T : TypeId} {sz : Nat} {cs : List Value} (hf : P.funcs[f]? = some fn) (hb : fn.body = some c) (hn : fn.ntmps = n) (hl : Nat.ble vs.length n = true)
    (h : ∀ W0 w a, pre (fun b => W0.heap[b]?) → Mem W0 [] (fun b => W0.heap[b]?) [] w → Holds (enumE 0 vs) n a → CW P c (Post P fn fun u w' => Ext W0 w' ∧ ∃ m, w'.ownsRow W0.heap.size T sz u m cs) a w) : FunN P f vs pre T sz cs := by
  refine ⟨fun w hp => ?_⟩
  refine (enter (R := fun u w' => Ext w w' ∧ ∃ m, w'.ownsRow w.heap.size T sz u m cs) hf hb hn hl (fun a ha => h w w a hp (Mem.start w) ha)).mono ?_
  rintro e w' ⟨u, rfl, hx, m, hR⟩
  exact ⟨u, m, rfl, hx, hR⟩

/-- a row that is only read from now on -/
theorem Mem.freeze {v : Value} {T : TypeId} {sz : Nat} {cs : List Value} (hm : Mem W0 X B (.row v T sz cs :: L) w) : ∃ B' p n cap, Heap.le B B' ∧ Mem W0 X B' L w ∧ v = .slice p n cap ∧ cs.length = n * sz ∧ n ≤ cap ∧ cap ≤ maxLen ∧ (0 < n → ∃ b, p = some ⟨b, 0, none⟩ ∧ At B' ⟨b, 0, none⟩ cs) := by
  obtain ⟨p, n, cap, rfl, h1, h2, h3, h4⟩ := row_at (i := 0) hm rfl
  have hd := hm.drop
  have hap := hm.apart _ (List.mem_cons_self ..)
  have hnd := hm.nodup
  cases p with
  | none =>
    refine ⟨B, none, n, cap, fun _ _ h => h, hd, rfl, h1, h2, h3, fun hn => ?_⟩
    obtain ⟨b, hb, _⟩ := h4 hn
    cases hb
  | some a =>
    let N : Heap := fun k => if k = a.block then w.heap[k]? else none
    have hBa : B a.block = none := hap a.block rfl
    have hN : ∀ b o, N b = some o → b = a.block ∧ w.heap[b]? = some o := fun b o h => by
      simp only [N] at h
      split at h
      · exact ⟨‹_›, h⟩
      · cases h
    refine ⟨joinH B N, some a, n, cap, le_joinL B N, ⟨hd.os, hd.tape, hd.output, hd.size, hd.block, fun b o h => ?_, hd.own, hd.fresh, fun x hx b hb => ?_, hd.nodup⟩, rfl, h1, h2, h3, fun hn => ?_⟩
    · unfold joinH at h
      split at h
      · rename_i o' ho'
        cases h
        exact hd.base b _ ho'
      · exact (hN b o h).2
    · have hne : b ≠ a.block := fun e => by
        subst e
        simp only [List.filterMap_cons, Own.dom, Value.ownBlock] at hnd
        exact (List.nodup_cons.1 hnd).1 (List.mem_filterMap.2 ⟨x, hx, hb⟩)
      simp [joinH, hd.apart x hx b hb, N, hne]
    · obtain ⟨b, hb, hat⟩ := h4 hn
      refine ⟨b, hb, ?_⟩
      cases hb
      obtain ⟨g1, arr, T', fz, g2, g3⟩ := hat
      exact ⟨g1, arr, T', fz, by simp only [joinH, hBa, N, if_true]; exact g2, g3⟩

/-! ### Calls that write into a row of the caller's -/
structure FunW (P : Program) (f : FuncId) (vs : List Value) (v : Value) (T : TypeId) (sz : Nat) (cs cs' : List Value) (r : Value) : Prop where
  out : ∀ w n, w.ownsRow 0 T sz v n cs → Calls P f vs.toArray w fun e w' => e = .returned r ∧ w.grownBy w' v.ownBlock ∧ w'.ownsRow 0 T sz v n cs'

theorem does_funW (i : Nat) {f : FuncId} {args : List Operand} {ats : Array TypeId} {vs : List Value} {v : Value} {T : TypeId} {sz : Nat} {cs cs' : List Value} {r : Value} (hm : Mem W0 X B L w) (hen : Enters P f) (hx : evs E args = some vs) (hc : FunW P f vs v T sz cs cs' r)
    (hL : L[i]? = some (.row v T sz cs)) (k : ∀ w', Mem W0 X B (L.set i (.row v T sz cs')) w' → Φ r w') : Does P (.call { callee := .value (.func f), args := args.toArray, argTypes := ats }) ty E w Φ := by
  obtain ⟨n, hr⟩ := mem_idx hm hL
  exact does_call hen hx ((hc.out w n hr).mono fun _ w' ⟨he, hg, hr'⟩ => ⟨r, he, k w' (grown_mem i hm hL hr' hg (.inl rfl))⟩)

theorem Mem.startX {b : Nat} {o : Obj} (h : w.heap[b]? = some o) : Mem w [b] (fun k => if k = b then none else w.heap[k]?) [.blk b o] w where
  os := rfl
  tape := rfl
  output := rfl
  size := Nat.le_refl _
  block := fun _ _ _ => rfl
  base := fun k o' hk => by
    split at hk
    · cases hk
    · exact hk
  own := fun x hx => by
    obtain rfl := List.mem_singleton.1 hx
    exact h
  fresh := fun x hx k hk => by
    obtain rfl := List.mem_singleton.1 hx
    cases hk
    exact .inr (List.mem_singleton.2 rfl)
  apart := fun x hx k hk => by
    obtain rfl := List.mem_singleton.1 hx
    cases hk
    simp
  nodup := by simp [Own.dom]

theorem Mem.grown {b : Nat} (h : Mem W0 [b] B L w) : W0.grownBy w (some b) :=
  ⟨h.os, h.tape, h.output, h.size, fun k hk hne => h.block k hk fun hm => hne (by rw [List.mem_singleton.1 hm])⟩

/-- a function that writes into the row that it is given -/
theorem enterFunW {f : FuncId} {fn : Func} {c : Code} {vs : List Value} {k : Nat} {v : Value} {T : TypeId} {sz : Nat} {cs cs' : List Value} {r : Value} (hf : P.funcs[f]? = some fn) (hb : fn.body = some c) (hn : fn.ntmps = k) (hl : Nat.ble vs.length k = true) (hlen : cs'.length = cs.length)
    (h0 : ∀ W0 w a n, v = .slice none 0 0 → n = 0 → cs = [] → Mem W0 [] (fun b => W0.heap[b]?) [] w → Holds (enumE 0 vs) k a → CW P c (Post P fn fun u w' => u = r ∧ Ext W0 w') a w)
    (h : ∀ W0 w a n b cap spare, v = .slice (some ⟨b, 0, none⟩) n cap → n ≤ cap → cap ≤ maxLen → cs.length = n * sz →
      Mem W0 [b] (fun k => if k = b then none else W0.heap[k]?) [.blk b (.cells (cs ++ spare).toArray T (0, 0))] w → Holds (enumE 0 vs) k a →
      CW P c (Post P fn fun u w' => u = r ∧ Mem W0 [b] (fun k => if k = b then none else W0.heap[k]?) [.blk b (.cells (cs' ++ spare).toArray T (0, 0))] w') a w) : FunW P f vs v T sz cs cs' r := by
  refine ⟨fun w n hr => ?_⟩
  obtain ⟨g1, g2⟩ := hr
  rcases g2 with ⟨rfl, rfl⟩ | ⟨b, cap, cur, rfl, _, hg, hc, hcm, hcs, ht⟩
  · have hcs : cs = [] := List.eq_nil_of_length_eq_zero (by simpa using g1)
    have hcs' : cs' = [] := List.eq_nil_of_length_eq_zero (by rw [hlen, hcs]; rfl)
    refine (enter (R := fun u w' => u = r ∧ Ext w w') hf hb hn hl (fun a ha => h0 w w a 0 rfl rfl hcs (Mem.start w) ha)).mono ?_
    rintro e w' ⟨u, rfl, rfl, hx⟩
    exact ⟨rfl, ⟨hx.os, hx.tape, hx.output, hx.size, fun k hk _ => hx.block k hk⟩, by rw [hcs']; exact World.ownsRow_nil w' 0 T sz⟩
  · have hcur : cur = (cs ++ cur.toList.drop (n * sz)).toArray := by
      apply Array.ext'
      rw [List.toList_toArray, ← ht, List.take_append_drop]
    have hg' : w.heap[b]? = some (.cells (cs ++ cur.toList.drop (n * sz)).toArray T (0, 0)) := by rw [← hcur]; exact hg
    refine (enter (R := fun u w' => u = r ∧ Mem w [b] (fun k => if k = b then none else w.heap[k]?) [.blk b (.cells (cs' ++ cur.toList.drop (n * sz)).toArray T (0, 0))] w') hf hb hn hl
      (fun a ha => h w w a n b cap _ rfl hc hcm g1 (Mem.startX hg') ha)).mono ?_
    rintro e w' ⟨u, rfl, rfl, hm⟩
    have hsz : n * sz ≤ cur.toList.length := by
      have := Nat.mul_le_mul_right sz hc
      simp [hcs]
      omega
    refine ⟨rfl, hm.grown, by rw [hlen]; exact g1, .inr ⟨b, cap, _, rfl, Nat.zero_le _, mem_idx (i := 0) hm rfl, hc, hcm, ?_, ?_⟩⟩
    · simp only [List.size_toArray, List.length_append, List.length_drop, hlen, g1]
      rw [← hcs]
      simp at hsz ⊢
      omega
    · rw [← g1, ← hlen]
      simp
/-! ### Rows of structs -/
theorem sl_of_flat {α : Type} {enc : α → List Value} {sz n : Nat} {H : Heap} {p : Option Addr} {xs : List α} (hf : ∀ x, (enc x).length = sz) (hn : n = xs.length) (h : 0 < n → ∃ b, p = some ⟨b, 0, none⟩ ∧ At H ⟨b, 0, none⟩ (xs.map enc).flatten) : Sl H p enc sz xs := by
  intro i x hi
  have hlt := (List.getElem?_eq_some_iff.1 hi).1
  obtain ⟨b, rfl, hat⟩ := h (by omega)
  refine ⟨_, rfl, ?_⟩
  obtain ⟨h1, arr, T, fz, h2, h3⟩ := hat
  rw [show (⟨b, 0, none⟩ : Addr).add (i * sz) = ⟨b, 0 + i * sz, none⟩ from add_add _ 0 _ rfl, Nat.zero_add]
  refine ⟨rfl, arr, T, fz, h2, fun j v hj => ?_⟩
  have := flatten_get (oneLen enc sz hf xs) (i := i) (j := j) (cs := enc x) (v := v) (by simp [hi]) hj
  have h4 := h3 (i * sz + j) v this
  simpa using h4

theorem flat_len {α : Type} {enc : α → List Value} {sz : Nat} (hf : ∀ x, (enc x).length = sz) (xs : List α) : (xs.map enc).flatten.length = xs.length * sz := by
  have := flatten_length (oneLen enc sz hf xs)
  rwa [List.length_map] at this

/-- a new row of structs that is only read from now on -/
theorem Mem.frozen {α : Type} {enc : α → List Value} {sz : Nat} {xs : List α} {v : Value} {T : TypeId} (hm : Mem W0 X B (.row v T sz (xs.map enc).flatten :: L) w) (hf : ∀ x, (enc x).length = sz) (hsz : 0 < sz) :
    ∃ B' p cap, Heap.le B B' ∧ Mem W0 X B' L w ∧ v = .slice p xs.length cap ∧ xs.length ≤ cap ∧ cap ≤ maxLen ∧ Sl B' p enc sz xs := by
  obtain ⟨B', p, n, cap, h1, h2, h3, h4, h5, h6, h7⟩ := hm.freeze
  rw [flat_len hf] at h4
  have hn : n = xs.length := (Nat.eq_of_mul_eq_mul_right hsz h4).symm
  exact ⟨B', p, cap, h1, h2, hn ▸ h3, hn ▸ h5, h6, sl_of_flat hf hn h7⟩

/-- a row of structs of one's own, read -/
theorem row_slice {α : Type} {enc : α → List Value} {sz : Nat} {xs : List α} {v : Value} {T : TypeId} {i : Nat} (hm : Mem W0 X B L w) (hL : L[i]? = some (.row v T sz (xs.map enc).flatten)) (hf : ∀ x, (enc x).length = sz) (hsz : 0 < sz) :
    ∃ p cap, v = .slice p xs.length cap ∧ xs.length ≤ cap ∧ cap ≤ maxLen := by
  obtain ⟨p, n, cap, h3, h4, h5, h6, h7⟩ := row_at hm hL
  rw [flat_len hf] at h4
  have hn : n = xs.length := (Nat.eq_of_mul_eq_mul_right hsz h4).symm
  exact ⟨p, cap, hn ▸ h3, hn ▸ h5, h6⟩

theorem row_sl {α : Type} {enc : α → List Value} {sz n cap : Nat} {xs : List α} {p : Option Addr} {T : TypeId} (i : Nat) (hm : Mem W0 X B L w) (hL : L[i]? = some (.row (.slice p n cap) T sz (xs.map enc).flatten)) (hf : ∀ x, (enc x).length = sz) (hsz : 0 < sz) :
    Sl (fun b => w.heap[b]?) p enc sz xs := by
  obtain ⟨p', n', cap', h3, h4, h5, h6, h7⟩ := row_at hm hL
  cases h3
  rw [flat_len hf] at h4
  exact sl_of_flat hf (Nat.eq_of_mul_eq_mul_right hsz h4).symm h7
theorem splice_mid {A C D vs : List Value} {j : Nat} (hj : j + vs.length ≤ C.length) : splice (A ++ (C ++ D)) (A.length + j) vs = A ++ (splice C j vs ++ D) := by
  rw [splice_eq vs _ _ (by simp; omega), splice_eq vs C j hj]
  rw [List.take_append, List.drop_append]
  have h1 : A.take (A.length + j) = A := List.take_of_length_le (by omega)
  have h2 : A.drop (A.length + j + vs.length) = [] := List.drop_of_length_le (by omega)
  rw [h1, h2, show A.length + j - A.length = j by omega, show A.length + j + vs.length - A.length = j + vs.length by omega]
  rw [List.take_append_of_le_length (by omega), List.drop_append_of_le_length hj]
  simp

/-- a store into the part of a row that lies at hand -/
theorem does_storeM (i : Nat) {b off s b_ j n : Nat} {z : Value} {A C D vs : List Value} {T : TypeId} {v : Value} [Sz P t z s b_] (hm : Mem W0 X B L w) (hx : ev E x = some (.pointer (some ⟨b, off + j, none⟩))) (hy : ev E y = some v)
    (hL : L[i]? = some (.blk b (.cells (A ++ (C ++ D)).toArray T (0, 0)))) (hA : A.length = n) (hoff : off = n) (hv : v.cells = vs.toArray) (ho : oneCells vs = true) (hs : Nat.beq vs.length s = true) (hj : Nat.ble (j + vs.length) C.length = true)
    (k : ∀ w', Mem W0 X B (L.set i (.blk b (.cells (A ++ (splice C j vs ++ D)).toArray T (0, 0)))) w' → Φ undef w') : Does P (.store t x y) ty E w Φ := by
  have hj' := Nat.le_of_ble_eq_true hj
  subst hoff hA
  refine does_storeO i hm hx hy hL hv ho hs (Nat.ble_eq_true_of_le (by simp; omega)) fun w' hm' => k w' ?_
  rwa [splice_mid hj'] at hm'
theorem does_storeM0 (i : Nat) {b off s b_ n : Nat} {z : Value} {A C D vs : List Value} {T : TypeId} {v : Value} [Sz P t z s b_] (hm : Mem W0 X B L w) (hx : ev E x = some (.pointer (some ⟨b, off, none⟩))) (hy : ev E y = some v)
    (hL : L[i]? = some (.blk b (.cells (A ++ (C ++ D)).toArray T (0, 0)))) (hA : A.length = n) (hoff : off = n) (hv : v.cells = vs.toArray) (ho : oneCells vs = true) (hs : Nat.beq vs.length s = true) (hj : Nat.ble vs.length C.length = true)
    (k : ∀ w', Mem W0 X B (L.set i (.blk b (.cells (A ++ (splice C 0 vs ++ D)).toArray T (0, 0)))) w' → Φ undef w') : Does P (.store t x y) ty E w Φ :=
  does_storeM i (j := 0) hm hx hy hL hA hoff hv ho hs (by rw [Nat.zero_add]; exact hj) k

/-! ### Calls that give back several things of their own -/
structure FunG (P : Program) (f : FuncId) (vs : List Value) (pre : Heap → Prop) (R : Value → List Own → Prop) : Prop where
  out : ∀ w, pre (fun b => w.heap[b]?) → Calls P f vs.toArray w fun e w' => ∃ v L', e = .returned v ∧ R v L' ∧ Mem w [] (fun b => w.heap[b]?) L' w'

theorem Mem.sub {L' : List Own} (hm : Mem W0 X B L w) (hs : L'.Sublist L) : Mem W0 X B L' w :=
  ⟨hm.os, hm.tape, hm.output, hm.size, hm.block, hm.base, fun x hx => hm.own x (hs.subset hx), fun x hx => hm.fresh x (hs.subset hx), fun x hx => hm.apart x (hs.subset hx), (hs.filterMap _).nodup hm.nodup⟩

theorem Mem.gain {L' : List Own} {w' : World} (hm : Mem W0 X B L w) (hn : Mem w [] (fun b => w.heap[b]?) L' w') : Mem W0 X B (L' ++ L) w' := by
  have e := hm.ext hn.below
  have hge : ∀ x ∈ L', ∀ b, x.dom = some b → w.heap.size ≤ b := fun x hx b hb => by
    rcases hn.fresh x hx b hb with h | h
    · exact h
    · simp at h
  refine ⟨e.os, e.tape, e.output, e.size, e.block, e.base, fun x hx => ?_, fun x hx b hb => ?_, fun x hx b hb => ?_, ?_⟩
  · rcases List.mem_append.1 hx with hx | hx
    · exact hn.own x hx
    · exact e.own x hx
  · rcases List.mem_append.1 hx with hx | hx
    · exact .inl (Nat.le_trans hm.size (hge x hx b hb))
    · exact e.fresh x hx b hb
  · rcases List.mem_append.1 hx with hx | hx
    · cases hB : B b with
      | none => rfl
      | some o =>
        have h1 := (Array.getElem?_eq_some_iff.1 (hm.base b o hB)).1
        have h2 := hge x hx b hb
        omega
    · exact e.apart x hx b hb
  · rw [List.filterMap_append]
    refine List.nodup_append.2 ⟨hn.nodup, e.nodup, fun a ha b hb hab => ?_⟩
    subst hab
    obtain ⟨x, hx, hxb⟩ := List.mem_filterMap.1 ha
    obtain ⟨y, hy, hyb⟩ := List.mem_filterMap.1 hb
    have h1 := hge x hx _ hxb
    have h2 := Own.lt (hm.own y hy) hyb
    omega

theorem does_funG {f : FuncId} {args : List Operand} {ats : Array TypeId} {vs : List Value} {pre : Heap → Prop} {R : Value → List Own → Prop} (hm : Mem W0 X B L w) (hen : Enters P f) (hx : evs E args = some vs) (hc : FunG P f vs pre R)
    (hp : pre (fun b => w.heap[b]?)) (k : ∀ v L' w', R v L' → Mem W0 X B (L' ++ L) w' → Φ v w') : Does P (.call { callee := .value (.func f), args := args.toArray, argTypes := ats }) ty E w Φ :=
  does_call hen hx ((hc.out w hp).mono fun _ w' ⟨v, L', he, hR, hn⟩ => ⟨v, he, k v L' w' hR (hm.gain hn)⟩)

theorem enterFunG {f : FuncId} {fn : Func} {c : Code} {vs : List Value} {n : Nat} {pre : Heap → Prop} {R : Value → List Own → Prop} (hf : P.funcs[f]? = some fn) (hb : fn.body = some c) (hn : fn.ntmps = n) (hl : Nat.ble vs.length n = true)
    (h : ∀ W0 w a, pre (fun b => W0.heap[b]?) → Mem W0 [] (fun b => W0.heap[b]?) [] w → Holds (enumE 0 vs) n a → CW P c (Post P fn fun u w' => ∃ L', R u L' ∧ Mem W0 [] (fun b => W0.heap[b]?) L' w') a w) : FunG P f vs pre R := by
  refine ⟨fun w hp => ?_⟩
  refine (enter (R := fun u w' => ∃ L', R u L' ∧ Mem w [] (fun b => w.heap[b]?) L' w') hf hb hn hl (fun a ha => h w w a hp (Mem.start w) ha)).mono ?_
  rintro e w' ⟨u, rfl, L', hR, hm⟩
  exact ⟨u, L', rfl, hR, hm⟩
end
end Go.Proofs.Ytedgbmefajnjeaa.St
