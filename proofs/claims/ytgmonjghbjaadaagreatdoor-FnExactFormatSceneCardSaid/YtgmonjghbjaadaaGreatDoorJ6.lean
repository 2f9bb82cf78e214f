/-
  The library's decimal texts and joins, laid here; the program's texts of numbers.
-/
import Derived.Test.YtgmonjghbjaadaaGreatDoorJ5
import Derived.Shelf.LaysM
import Derived.Shelf.Strings.OnBuilder
import Derived.Test.YtgmonjghbjaadaaGreatDoorJ3

section
set_option linter.unusedSimpArgs false
set_option linter.unusedVariables false
namespace Go.Proofs.YtgmonjghbjaadaaGreatDoor.St
open Go.RowKit
def layI_ren : Go.Shelf.Ren := ⟨fun | 171 => 58 | 243 => 89 | 246 => 120 | 283 => 138 | 284 => 139 | 285 => 140 | 286 => 141 | 129 => 156 | 317 => 155 | 318 => 157 | 319 => 158 | 320 => 159 | 337 => 165 | 338 => 166 | n => n, fun | 3 => 3 | 9 => 9 | 2 => 2 | 4 => 4 | 171 => 177 | 0 => 0 | 53 => 178 | 37 => 87 | 5 => 5 | 173 => 181 | 212 => 197 | 51 => 198 | 20 => 20 | 213 => 199 | 46 => 184 | 232 => 207 | 233 => 208 | n => n, fun | 17 => 3 | 18 => 4 | 19 => 5 | n => n⟩
theorem layI : LaysM.n171 Tryz.prog layI_ren := {
  mixed := by kernel_rfl,
  f129 := Tryz.func156.trans (congrArg some (by kernel_rfl)),
  f171 := Tryz.func58.trans (congrArg some (by kernel_rfl)),
  f243 := Tryz.func89.trans (congrArg some (by kernel_rfl)),
  f246 := Tryz.func120.trans (congrArg some (by kernel_rfl)),
  f283 := Tryz.func138.trans (congrArg some (by kernel_rfl)),
  f284 := Tryz.func139.trans (congrArg some (by kernel_rfl)),
  f285 := Tryz.func140.trans (congrArg some (by kernel_rfl)),
  f286 := Tryz.func141.trans (congrArg some (by kernel_rfl)),
  f317 := Tryz.func155.trans (congrArg some (by kernel_rfl)),
  f318 := Tryz.func157.trans (congrArg some (by kernel_rfl)),
  f319 := Tryz.func158.trans (congrArg some (by kernel_rfl)),
  f320 := Tryz.func159.trans (congrArg some (by kernel_rfl)),
  f337 := Tryz.func165.trans (congrArg some (by kernel_rfl)),
  f338 := Tryz.func166.trans (congrArg some (by kernel_rfl)),
  t0 := Tryz.underlying0,
  a0 := Tryz.isAgg0,
  z0 := Tryz.sizeOf0,
  v0 := Tryz.zeroValue0,
  t2 := Tryz.underlying2,
  a2 := Tryz.isAgg2,
  z2 := Tryz.sizeOf2,
  v2 := Tryz.zeroValue2,
  t3 := Tryz.underlying3,
  a3 := Tryz.isAgg3,
  z3 := Tryz.sizeOf3,
  v3 := Tryz.zeroValue3,
  t4 := Tryz.underlying4,
  a4 := Tryz.isAgg4,
  z4 := Tryz.sizeOf4,
  v4 := Tryz.zeroValue4,
  t5 := Tryz.underlying5,
  a5 := Tryz.isAgg5,
  z5 := Tryz.sizeOf5,
  v5 := Tryz.zeroValue5,
  t9 := Tryz.underlying9,
  a9 := Tryz.isAgg9,
  z9 := Tryz.sizeOf9,
  v9 := Tryz.zeroValue9,
  t20 := Tryz.underlying20,
  a20 := Tryz.isAgg20,
  z20 := Tryz.sizeOf20,
  v20 := Tryz.zeroValue20,
  t37 := Tryz.underlying87,
  a37 := Tryz.isAgg87,
  z37 := Tryz.sizeOf87,
  v37 := Tryz.zeroValue87,
  t46 := Tryz.underlying184,
  a46 := Tryz.isAgg184,
  z46 := Tryz.sizeOf184,
  v46 := Tryz.zeroValue184,
  t51 := Tryz.underlying198,
  a51 := Tryz.isAgg198,
  z51 := Tryz.sizeOf198,
  v51 := Tryz.zeroValue198,
  t53 := Tryz.underlying178,
  a53 := Tryz.isAgg178,
  z53 := Tryz.sizeOf178,
  v53 := Tryz.zeroValue178,
  t171 := Tryz.underlying177,
  a171 := Tryz.isAgg177,
  z171 := Tryz.sizeOf177,
  v171 := Tryz.zeroValue177,
  t173 := Tryz.underlying181,
  a173 := Tryz.isAgg181,
  z173 := Tryz.sizeOf181,
  v173 := Tryz.zeroValue181,
  t212 := Tryz.underlying197,
  a212 := Tryz.isAgg197,
  z212 := Tryz.sizeOf197,
  v212 := Tryz.zeroValue197,
  t213 := Tryz.underlying199,
  a213 := Tryz.isAgg199,
  z213 := Tryz.sizeOf199,
  t232 := Tryz.underlying207,
  a232 := Tryz.isAgg207,
  z232 := Tryz.sizeOf207,
  v232 := Tryz.zeroValue207,
  t233 := Tryz.underlying208,
  a233 := Tryz.isAgg208,
  z233 := Tryz.sizeOf208,
  v233 := Tryz.zeroValue208,
  g17 := by kernel_rfl,
  g18 := by kernel_rfl,
  g19 := by kernel_rfl,
  i0 := by kernel_rfl,
  i2 := by kernel_rfl,
  i3 := by kernel_rfl,
  i4 := by kernel_rfl,
  i5 := by kernel_rfl,
  i9 := by kernel_rfl,
  i20 := by kernel_rfl,
  i37 := by kernel_rfl,
  i46 := by kernel_rfl,
  i51 := by kernel_rfl,
  i53 := by kernel_rfl,
  i171 := by kernel_rfl,
  i173 := by kernel_rfl,
  i212 := by kernel_rfl,
  i232 := by kernel_rfl,
  i233 := by kernel_rfl,
  m17 := by kernel_rfl,
  m18 := by kernel_rfl,
  m19 := by kernel_rfl }
def layJ_ren : Go.Shelf.Ren := ⟨fun | 156 => 101 | 165 => 91 | 166 => 61 | 169 => 63 | 240 => 98 | 241 => 123 | 276 => 127 | 277 => 142 | n => n, fun | 31 => 49 | 9 => 9 | 3 => 3 | 4 => 4 | 0 => 0 | 20 => 20 | 72 => 107 | 76 => 110 | 70 => 105 | 37 => 87 | 75 => 109 | 127 => 139 | 164 => 163 | 5 => 5 | 80 => 112 | n => n, fun | n => n⟩
theorem layJ : Lays.n156 Tryz.prog layJ_ren := {
  mixed := by kernel_rfl,
  f156 := Tryz.func101.trans (congrArg some (by kernel_rfl)),
  f165 := Tryz.func91.trans (congrArg some (by kernel_rfl)),
  f166 := Tryz.func61.trans (congrArg some (by kernel_rfl)),
  f169 := Tryz.func63.trans (congrArg some (by kernel_rfl)),
  f240 := Tryz.func98.trans (congrArg some (by kernel_rfl)),
  f241 := Tryz.func123.trans (congrArg some (by kernel_rfl)),
  f276 := Tryz.func127.trans (congrArg some (by kernel_rfl)),
  f277 := Tryz.func142.trans (congrArg some (by kernel_rfl)),
  t0 := Tryz.underlying0,
  a0 := Tryz.isAgg0,
  z0 := Tryz.sizeOf0,
  v0 := Tryz.zeroValue0,
  t3 := Tryz.underlying3,
  a3 := Tryz.isAgg3,
  z3 := Tryz.sizeOf3,
  v3 := Tryz.zeroValue3,
  t4 := Tryz.underlying4,
  a4 := Tryz.isAgg4,
  z4 := Tryz.sizeOf4,
  v4 := Tryz.zeroValue4,
  t9 := Tryz.underlying9,
  a9 := Tryz.isAgg9,
  z9 := Tryz.sizeOf9,
  v9 := Tryz.zeroValue9,
  t20 := Tryz.underlying20,
  a20 := Tryz.isAgg20,
  z20 := Tryz.sizeOf20,
  v20 := Tryz.zeroValue20,
  t31 := Tryz.underlying49,
  a31 := Tryz.isAgg49,
  z31 := Tryz.sizeOf49,
  v31 := Tryz.zeroValue49,
  t37 := Tryz.underlying87,
  a37 := Tryz.isAgg87,
  z37 := Tryz.sizeOf87,
  v37 := Tryz.zeroValue87,
  t70 := Tryz.underlying105,
  a70 := Tryz.isAgg105,
  z70 := Tryz.sizeOf105,
  v70 := Tryz.zeroValue105,
  t72 := Tryz.underlying107,
  a72 := Tryz.isAgg107,
  z72 := Tryz.sizeOf107,
  v72 := Tryz.zeroValue107,
  t75 := Tryz.underlying109,
  a75 := Tryz.isAgg109,
  z75 := Tryz.sizeOf109,
  v75 := Tryz.zeroValue109,
  t76 := Tryz.underlying110,
  a76 := Tryz.isAgg110,
  z76 := Tryz.sizeOf110,
  v76 := Tryz.zeroValue110,
  t127 := Tryz.underlying139,
  a127 := Tryz.isAgg139,
  z127 := Tryz.sizeOf139,
  v127 := Tryz.zeroValue139,
  t164 := Tryz.underlying163,
  a164 := Tryz.isAgg163,
  z164 := Tryz.sizeOf163,
  v164 := Tryz.zeroValue163 }
theorem layB : Builder.Extra Tryz.prog layJ_ren := {
  sizeBuilder := by kernel_rfl,
  liesBuilder := by kernel_rfl,
  t5 := Tryz.underlying5,
  a5 := Tryz.isAgg5,
  z5 := Tryz.sizeOf5,
  v5 := Tryz.zeroValue5,
  infoByte := by kernel_rfl,
  cellsByte := by kernel_rfl,
  sizeByte := by kernel_rfl,
  neB5 := by decide }
end Go.Proofs.YtgmonjghbjaadaaGreatDoor.St
end

section
/-
  A strings.Builder of one's own: its block, and its bytes as a row.
-/
set_option linter.unusedSimpArgs false
set_option linter.unusedVariables false
namespace Go.Proofs.YtgmonjghbjaadaaGreatDoor.St
open Go.RowKit
section
variable {P : Program} {w w' W0 : World} {X : List Nat} {L : List Own} {b : Nat} {T e : TypeId} {v p : Value} {bs : List Value}
theorem is_builder (hm : Mem W0 X (fun b => W0.heap[b]?) (.blk b (.cells [p, v].toArray T (0, 0)) :: .row v e 1 bs :: L) w) (hp : p = .pointer none ∨ p = .pointer (some ⟨b, 0, none⟩)) (hv : ∀ k, v.ownBlock = some k → b ≤ k) : Lib.IsBuilder T e b b bs w := by
  have h1 : w.heap[b]? = some (.cells [p, v].toArray T (0, 0)) := hm.own _ (List.mem_cons_self ..)
  obtain ⟨n, h2⟩ := hm.own (.row v e 1 bs) (List.mem_cons_of_mem _ (List.mem_cons_self ..))
  have hn : n = bs.length := by have := h2.1; omega
  subst hn
  have h3 := ownsRow_base h2 hv
  have h4 : v.ownBlock ≠ some b := fun e' => by
    have hnd := hm.nodup
    have : Own.dom (.row v e 1 bs) = some b := e'
    simp only [List.filterMap_cons, Own.dom, e'] at hnd
    simp at hnd
  have hA : ∀ p', p = p' → Lib.BuilderAt T e b b p' bs w := fun p' hp' => ⟨Nat.le_refl _, v, by rw [← hp']; exact h1, h3, h4⟩
  rcases hp with h | h
  · exact .inl (hA _ h)
  · exact .inr (hA _ h)
theorem mem_builder {p' : Value} {bs' : List Value} (hm : Mem W0 X (fun b => W0.heap[b]?) (.blk b (.cells [p, v].toArray T (0, 0)) :: .row v e 1 bs :: L) w) (hb : W0.heap.size ≤ b) (hL : ∀ o ∈ L, ∀ k, o.dom = some k → k < b) (hA : Lib.BuilderAt T e b b p' bs' w') (hx : Below b w w') :
    ∃ v', (∀ k, v'.ownBlock = some k → b ≤ k) ∧ Mem W0 X (fun b => W0.heap[b]?) (.blk b (.cells [p', v'].toArray T (0, 0)) :: .row v' e 1 bs' :: L) w' := by
  obtain ⟨_, v', h1, h2, h3⟩ := hA
  have hge : ∀ k, v'.ownBlock = some k → b ≤ k := fun k hk => by
    rcases h2.2 with ⟨h, _⟩ | ⟨g, cap, cur, h, hg, _⟩
    · rw [h] at hk
      cases hk
    · rw [h] at hk
      cases hk
      exact hg
  refine ⟨v', hge, ?_, ?_, ?_, ?_, fun k hk hX => ?_, fun k o ho => ?_, fun x hx' => ?_, fun x hx' k hk => ?_, fun x hx' k hk => ?_, ?_⟩
  · rw [hx.os, hm.os]
  · rw [hx.tape, hm.tape]
  · rw [hx.output, hm.output]
  · exact Nat.le_trans hm.size hx.size
  · rw [hx.block k (by omega), hm.block k hk hX]
  · have hk : k < W0.heap.size := (Array.getElem?_eq_some_iff.1 ho).1
    rw [hx.block k (by omega)]
    exact hm.base k o ho
  · rcases List.mem_cons.1 hx' with rfl | hx'
    · exact h1
    · rcases List.mem_cons.1 hx' with rfl | hx'
      · exact ⟨_, ownsRow_base h2 fun k _ => Nat.zero_le _⟩
      · exact Own.keep (hm.own x (List.mem_cons_of_mem _ (List.mem_cons_of_mem _ hx'))) fun k hk => hx.block k (hL x hx' k hk)
  · rcases List.mem_cons.1 hx' with rfl | hx'
    · cases hk; exact .inl hb
    · rcases List.mem_cons.1 hx' with rfl | hx'
      · exact .inl (Nat.le_trans hb (hge k hk))
      · exact hm.fresh x (List.mem_cons_of_mem _ (List.mem_cons_of_mem _ hx')) k hk
  · rcases List.mem_cons.1 hx' with rfl | hx'
    · cases hk; exact Array.getElem?_eq_none hb
    · rcases List.mem_cons.1 hx' with rfl | hx'
      · exact Array.getElem?_eq_none (Nat.le_trans hb (hge k hk))
      · exact hm.apart x (List.mem_cons_of_mem _ (List.mem_cons_of_mem _ hx')) k hk
  · have hnd : (L.filterMap Own.dom).Nodup := ((List.sublist_cons_self _ _).trans (List.sublist_cons_self _ _) |>.filterMap _).nodup hm.nodup
    have hlt : ∀ k ∈ L.filterMap Own.dom, k < b := fun k hk => by
      obtain ⟨x, hx', hk'⟩ := List.mem_filterMap.1 hk
      exact hL x hx' k hk'
    cases hvo : v'.ownBlock with
    | none =>
      simp only [List.filterMap_cons, Own.dom, hvo]
      exact List.nodup_cons.2 ⟨fun h => absurd (hlt b h) (Nat.lt_irrefl _), hnd⟩
    | some k =>
      have hk := hge k hvo
      have hne : b ≠ k := fun e' => h3 (by rw [hvo, e'])
      simp only [List.filterMap_cons, Own.dom, hvo]
      refine List.nodup_cons.2 ⟨fun h => ?_, List.nodup_cons.2 ⟨fun h => absurd (hlt k h) (by omega), hnd⟩⟩
      rcases List.mem_cons.1 h with h | h
      · exact hne h
      · exact absurd (hlt b h) (Nat.lt_irrefl _)
end
end Go.Proofs.YtgmonjghbjaadaaGreatDoor.St
end

section
/-
  A builder of one's own: made, written to, read.
-/
set_option linter.unusedSimpArgs false
set_option linter.unusedVariables false
namespace Go.Proofs.YtgmonjghbjaadaaGreatDoor.St
open Go.RowKit
theorem layW : Lays.n166 Tryz.prog layJ_ren := { layJ with }
theorem layS : Lays.n169 Tryz.prog layJ_ren := { layJ with }
section
variable {w W0 : World} {X : List Nat} {B : Heap} {L : List Own} {E : Env} {Φ : Value → World → Prop} {ty t : TypeId} {args : List Operand} {ats : Array TypeId} {b : Nat} {p v : Value}
theorem does_allocB {P : Program} {cs : List Value} (hm : Mem W0 X B L w) [hz : ZeroC P t cs] (k : ∀ b w', W0.heap.size ≤ b → (∀ o ∈ L, ∀ k, o.dom = some k → k < b) → Mem W0 X B (.blk b (.cells cs.toArray t) :: L) w' → Φ (.pointer (some ⟨b, 0, none⟩)) w') :
    Does P (.alloc t) ty E w Φ := by
  refine ⟨fun ρ hρ => ?_⟩
  obtain ⟨i, hi, z, h1, h2, h3⟩ := hz.out
  have hrz : (zeroValue t).run P w = .ok z w := by simp [zeroValue, typeInfo, hi, h1]
  have : (execOp ρ (mk (.alloc t) ty)).run P w = .ok (.value (.pointer (some ⟨w.heap.size, 0, none⟩))) (w.alloc (.cells cs.toArray t)) := by
    simp only [execOp, mk, Instr.alloc, Sem.run_bind, hrz, Result.andThen_ok]
    simp [newVar, newRow, h2]
  rw [this]
  exact k _ _ hm.size (fun o ho k hk => Own.lt (hm.own o ho) hk) (hm.alloc _)
theorem mem_over (hm : Mem W0 X (fun b => W0.heap[b]?) L w) {w' : World} (hb : W0.heap.size ≤ b) (hx : Below b w w') : Mem W0 X (fun b => W0.heap[b]?) [] w' :=
  ⟨by rw [hx.os, hm.os], by rw [hx.tape, hm.tape], by rw [hx.output, hm.output], Nat.le_trans hm.size hx.size, fun k hk hX => by rw [hx.block k (by omega), hm.block k hk hX], fun k o ho => by
    have hk : k < W0.heap.size := (Array.getElem?_eq_some_iff.1 ho).1
    rw [hx.block k (by omega)]
    exact hm.base k o ho, by simp, by simp, by simp, by simp⟩
theorem does_write {s : ByteArray} {bs : List Value} (hm : Mem W0 X (fun b => W0.heap[b]?) (.blk b (.cells [p, v].toArray 107 (0, 0)) :: .row v 5 1 bs :: L) w) (hx : evs E args = some [.pointer (some ⟨b, 0, none⟩), .string s])
    (hb : W0.heap.size ≤ b) (hL : ∀ o ∈ L, ∀ k, o.dom = some k → k < b) (hp : p = .pointer none ∨ p = .pointer (some ⟨b, 0, none⟩)) (hv : ∀ k, v.ownBlock = some k → b ≤ k) (hlen : bs.length + s.size ≤ 140737488355328)
    (k : ∀ v' w', (∀ k, v'.ownBlock = some k → b ≤ k) → Mem W0 X (fun b => W0.heap[b]?) (.blk b (.cells [.pointer (some ⟨b, 0, none⟩), v'].toArray 107 (0, 0)) :: .row v' 5 1 (bs ++ Lib.strCells s) :: L) w' → Φ (.tuple #[.int .i64 s.size, .nilIface]) w') :
    Does Tryz.prog (.call { callee := .value (.func 61), args := args.toArray, argTypes := ats }) ty E w Φ := by
  have hlt : b < w.heap.size := Own.lt (hm.own _ (List.mem_cons_self ..)) rfl
  refine does_call en61 hx ((Any.Builder_WriteString layW layB b b bs s w (is_builder hm hp hv) hlen (Nat.le_of_lt hlt)).mono fun e w' ⟨he, hA, hx'⟩ => ⟨_, he, ?_⟩)
  obtain ⟨v', h1, h2⟩ := mem_builder hm hb hL hA hx'
  exact k v' w' h1 h2
theorem does_string {l : List UInt8} (hm : Mem W0 X (fun b => W0.heap[b]?) (.blk b (.cells [p, v].toArray 107 (0, 0)) :: .row v 5 1 (Lib.byteCells l) :: L) w) (hx : evs E args = some [.pointer (some ⟨b, 0, none⟩)])
    (hb : W0.heap.size ≤ b) (hp : p = .pointer none ∨ p = .pointer (some ⟨b, 0, none⟩)) (hv : ∀ k, v.ownBlock = some k → b ≤ k)
    (k : ∀ w', Mem W0 X (fun b => W0.heap[b]?) [] w' → Φ (.string ⟨l.toArray⟩) w') :
    Does Tryz.prog (.call { callee := .value (.func 63), args := args.toArray, argTypes := ats }) ty E w Φ := by
  have hlt : b < w.heap.size := Own.lt (hm.own _ (List.mem_cons_self ..)) rfl
  exact does_call en63 hx ((Any.Builder_String_any layS layB b b l w (is_builder hm hp hv) (Nat.le_of_lt hlt)).mono fun e w' ⟨he, hx'⟩ => ⟨_, he, k w' (mem_over hm hb hx')⟩)
end
end Go.Proofs.YtgmonjghbjaadaaGreatDoor.St
end
