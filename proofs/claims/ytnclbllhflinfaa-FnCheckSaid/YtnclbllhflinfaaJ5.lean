/-
  Contracts of the functions that draw numbers: below a bound, out of a list, near a range.
-/
import Derived.Test.YtnclbllhflinfaaLCur
import Derived.Test.YtnclbllhflinfaaFns
import Derived.Test.YtnclbllhflinfaaScal
import Derived.Test.YtnclbllhflinfaaJ2
import Derived.Test.YtnclbllhflinfaaJ3
import Derived.Test.YtnclbllhflinfaaStOwn
import Derived.RegionTactic
import Derived.Laws.BytesArg
import Derived.Laws.Concat

section
set_option linter.unusedSimpArgs false
set_option linter.unusedVariables false
namespace Go.Proofs.Ytnclbllhflinfaa.St
open Go.RowKit
set_option maxHeartbeats 4000000 in
theorem l01Below_ok (b : Nat) (p : Option Addr) (bs : List Int) (c i : Nat) (h n : Int) (hbs : bytesOk bs) (hl : bs.length ≤ 1048576) (hi : i ≤ bs.length) (hn : 1 ≤ n ∧ n ≤ 1000000000) :
    FunU Try.prog 48 [.pointer (some ⟨b, 0, none⟩), I n] b curT (curC p bs.length c i h) (fun H => Sl H p eB 1 bs) (curR p bs.length c (intR 0 (n - 1))) := by
  refine enterFunU Try.func48 rfl Try.ntmps48 rfl (fun W0 w a hp hm h => ?_)
  repeat' (first | refine c_seq ?_ | refine c_region ?_ | refine c_nil ?_ | refine k_then ?_ | refine k_thenL ?_ | refine k_thenR ?_ | refine k_thenE ?_ | refine k_inN ?_ | refine k_inR ?_ | refine k_inE ?_ | refine k_inO rfl ?_ | refine c_skip ?_ | refine c_ret ?_ | refine c_exit ?_ | refine c_block ?_ | refine r_succ ?_ | refine c_condT h rfl ?_ | refine c_condF h rfl ?_ | ((first | refine st_op rfl rfl h ?_ | refine st_opn rfl h ?_); clear h a; (first | (show Does _ (.call _) _ _ _ _; (refine does_funU 0 hm en61 rfl rfl (l01Byte_ok _ _ _ _ _ _ (by assumption) (by omega) (by omega)) (by first | exact Sl.mono (by assumption) (le_hole (i := 0) hm rfl) | trivial) ?_; clear hm; rintro v cs1 L1 w ⟨⟨x, rfl, hx1, hx2⟩, ⟨i1, h1, rfl, hi1⟩, rfl⟩ hm; simp only [List.cons_append, List.nil_append, List.set_cons_zero, List.set_cons_succ] at hm)) | (show Does _ (.move _) _ _ _ _; refine does_move rfl ?_) | (show Does _ (.assign _) _ _ _ _; refine does_assign rfl ?_) | (show Does _ (.binOp _ _ _ _ _) _ _ _ _; (first | refine does_leqT rfl rfl (by omega) ?_ | refine does_leqF rfl rfl (by omega) ?_ | refine does_leq rfl rfl ?_ | refine does_mul rfl rfl (mul_in (by omega) (by omega)) ?_ | refine does_add rfl rfl (by omega) ?_ | refine does_mul rfl rfl (by omega) ?_ | refine does_rem rfl rfl (by omega) ?_))); intro a h; (try simp only [Value.cells, List.toList_toArray, splice, List.set_cons_zero, List.set_cons_succ, List.drop_zero, List.drop_succ_cons, List.take_succ_cons, List.take_zero, Nat.zero_add, Nat.reduceAdd, Nat.reduceMul, Int.reduceAdd, Int.reduceToNat, Int.reduceTMod, Nat.zero_mul, Nat.one_mul, Int.toNat_natCast] at h)) | ((first | refine st_skip rfl rfl h ?_ | refine st_skipn rfl h ?_); clear h a; intro a h) | ((first | refine c_condD h rfl ?_ ?_ | refine c_cond h rfl ?_ ?_) <;> intro hc <;> (try (first | exact absurd trivial hc | exact absurd rfl hc))) | (refine st_guardD rfl rfl h ?_ ?_ <;> clear h <;> intro hc h))
  · exact k_ret1 rfl h rfl ⟨_, [], ⟨⟨_, rfl, Int.tmod_nonneg _ (by omega), by have := Int.tmod_lt_of_pos x (show 0 < n by omega); omega⟩, ⟨_, _, rfl, by omega⟩, rfl⟩, hm⟩
  · refine k_ret1 rfl h rfl ⟨_, [], ⟨⟨_, rfl, Int.tmod_nonneg _ (by omega), ?_⟩, ⟨_, _, rfl, by omega⟩, rfl⟩, hm⟩
    have := fun z : Int => Int.tmod_lt_of_pos z (show 0 < n by omega)
    exact Int.le_sub_one_of_lt (this _)
end Go.Proofs.Ytnclbllhflinfaa.St
end

section
/-
  The functions and types that the first list (Fns) leaves out.
-/
set_option linter.unusedSimpArgs false
set_option linter.unusedVariables false
namespace Go.Proofs.Ytnclbllhflinfaa.St


end Go.Proofs.Ytnclbllhflinfaa.St
end

section
/-
  Contracts of the functions on points.
-/
set_option linter.unusedSimpArgs false
set_option linter.unusedVariables false
namespace Go.Proofs.Ytnclbllhflinfaa.St
open Go.RowKit
end Go.Proofs.Ytnclbllhflinfaa.St
end

section
/-
  Contracts of the functions on points.
-/
set_option linter.unusedSimpArgs false
set_option linter.unusedVariables false
namespace Go.Proofs.Ytnclbllhflinfaa.St
open Go.RowKit
abbrev V (x y z : Int) : Value := .agg #[I x, I y, I z]

theorem tdiv_bd {a b : Int} (hb : 1 ≤ b) : -(max a (-a)) ≤ a.tdiv b ∧ a.tdiv b ≤ max a (-a) := by
  have h1 : (a.tdiv b).natAbs ≤ a.natAbs := by
    rw [Int.natAbs_tdiv]
    exact Nat.div_le_self _ _
  omega
def fDiv (a b : Int) : Int := if b < 1 then 0 else a.tdiv b - (if a.tmod b < 0 then 1 else 0)
end Go.Proofs.Ytnclbllhflinfaa.St
end

section
/-
  Regions that draw their order, walked order by order: for short ones with stores in them.
-/
set_option linter.unusedSimpArgs false
set_option linter.unusedVariables false
namespace Go.Proofs.Ytnclbllhflinfaa.St
open Go.RowKit
section
variable {P : Program} {Q : Exit → Act → World → Prop} {a : Act} {w W0 : World} {X : List Nat} {B : Heap} {L : List Own} {l : List Oper} {E : Env} {n fuel : Nat} {listed : Array Bool} {i j k3 d : Nat} {op : Op} {ty : TypeId} {pos : String} {af : Array Edge} {g : Option (Nat × Bool)}
structure AW (P : Program) (l : List Oper) (Q : Exit → Act → World → Prop) (fuel : Nat) (listed : Array Bool) (a : Act) (w : World) : Prop where
  out : wpAny P .any l.toArray Q fuel listed a w
structure AO (P : Program) (l : List Oper) (Q : Exit → Act → World → Prop) (fuel : Nat) (listed : Array Bool) (i : Nat) (a : Act) (w : World) : Prop where
  out : wpOp P l.toArray Q i (wpAny P .any l.toArray Q fuel (listed.setIfInBounds i true)) a w
theorem aw_region {id : Nat} (hmix : P.follows .mixedOrders = true) (hm : Mem W0 X B L w) (k : ∀ w', Mem W0 X B L w' → AW P l Q l.length (Array.replicate l.length false) a w') : CW P (Code.region id l.toArray true) Q a w := by
  refine ⟨wp_region_any hmix ?_⟩
  have := (k _ (hm.ext (ext_drew w))).out
  simpa using this
theorem aw0 (hr : Region.ready .any l.toArray listed = []) (h : Cont Q .normal a w) : AW P l Q 0 listed a w := ⟨hr, h.out⟩
theorem aw1 (i : Nat) (hr : Region.ready .any l.toArray listed = [i]) (h : AO P l Q fuel listed i a w) : AW P l Q (fuel + 1) listed a w :=
  ⟨fun e => (by rw [hr] at e; cases e), fun x hx => (by rw [hr] at hx; simp only [List.mem_singleton] at hx; subst hx; exact h.out)⟩
theorem aw2 (i j : Nat) (hr : Region.ready .any l.toArray listed = [i, j]) (h : AO P l Q fuel listed i a w) (h' : AO P l Q fuel listed j a w) : AW P l Q (fuel + 1) listed a w :=
  ⟨fun e => (by rw [hr] at e; cases e), fun x hx => (by
    rw [hr] at hx
    rcases List.mem_cons.1 hx with rfl | hx
    · exact h.out
    · simp only [List.mem_singleton] at hx; subst hx; exact h'.out)⟩
theorem aw3 (i j k : Nat) (hr : Region.ready .any l.toArray listed = [i, j, k]) (h : AO P l Q fuel listed i a w) (h' : AO P l Q fuel listed j a w) (h'' : AO P l Q fuel listed k a w) : AW P l Q (fuel + 1) listed a w :=
  ⟨fun e => (by rw [hr] at e; cases e), fun x hx => (by
    rw [hr] at hx
    rcases List.mem_cons.1 hx with rfl | hx
    · exact h.out
    · rcases List.mem_cons.1 hx with rfl | hx
      · exact h'.out
      · simp only [List.mem_singleton] at hx; subst hx; exact h''.out)⟩
theorem ao_op (hi : l[i]? = some ⟨some d, op, ty, pos, af, g⟩) (hg : wantedE l E g = some true) (hd : Nat.blt d n = true) (h : Holds E n a)
    (k : Does P op ty E w (fun v w' => ∀ a', Holds ((d, v) :: E) n a' → AW P l Q fuel (listed.setIfInBounds i true) a' w')) : AO P l Q fuel listed i a w := by
  refine ⟨wpOp_step (o := ⟨some d, op, ty, pos, af, g⟩) (by simpa using hi) fun K hK => ?_⟩
  rw [wanted_of (o := ⟨some d, op, ty, pos, af, g⟩) h hg, if_pos rfl]
  exact oper_of_upon (upon_mono (fun v w' hv => hK _ _ (hv _ (h.put hd v)).out) (k.out _ h.sat))
theorem ao_opn (hi : l[i]? = some ⟨none, op, ty, pos, af, g⟩) (hg : wantedE l E g = some true) (h : Holds E n a)
    (k : Does P op ty E w (fun _ w' => ∀ a', Holds E n a' → AW P l Q fuel (listed.setIfInBounds i true) a' w')) : AO P l Q fuel listed i a w := by
  refine ⟨wpOp_step (o := ⟨none, op, ty, pos, af, g⟩) (by simpa using hi) fun K hK => ?_⟩
  rw [wanted_of (o := ⟨none, op, ty, pos, af, g⟩) h hg, if_pos rfl]
  exact oper_of_upon (upon_mono (fun v w' hv => hK _ _ (hv _ (h.nop v)).out) (k.out _ h.sat))
end
end Go.Proofs.Ytnclbllhflinfaa.St
end

section
/-
  Contracts of the functions that draw a triangle and places near it.
-/
set_option linter.unusedSimpArgs false
set_option linter.unusedVariables false
namespace Go.Proofs.Ytnclbllhflinfaa.St
open Go.RowKit
def i64R (v : Int) : Prop := -9223372036854775808 ≤ v ∧ v ≤ 9223372036854775807
/-- a place of one's own, while the block b is another's -/
theorem at_hole {W0 w : World} {X : List Nat} {B : Heap} {L : List Own} {i j b b' : Nat} {o : Obj} {cs : List Value} {T : TypeId} {fz : Nat × Nat} (hm : Mem W0 X B L w) (hi : L[i]? = some (.blk b o)) (hj : L[j]? = some (.blk b' (.cells cs.toArray T fz))) (hij : i ≠ j) : At (hole w b) ⟨b', 0, none⟩ cs := by
  have hne : b' ≠ b := fun e => by subst e; exact hij (nodup_dom hm.nodup hi hj rfl rfl)
  refine ⟨rfl, cs.toArray, T, fz, ?_, fun k v hk => by simpa using hk⟩
  show (if b' = b then none else w.heap[b']?) = _
  rw [if_neg hne]
  exact mem_idx hm hj
end Go.Proofs.Ytnclbllhflinfaa.St
end

section
/-
  Strings made of bytes, and one behind the other; a slice that is a row of one's own or empty.
-/
set_option linter.unusedSimpArgs false
set_option linter.unusedVariables false
namespace Go.Proofs.Ytnclbllhflinfaa.St
open Go.RowKit
section
variable {P : Program} {w W0 : World} {X : List Nat} {B : Heap} {L : List Own} {E : Env} {Φ : Value → World → Prop} {ty t t' : TypeId} {x y : Operand}
theorem does_addStr {m n : ByteArray} (hx : ev E x = some (.string m)) (hy : ev E y = some (.string n)) (hs : m.size + n.size ≤ 9223372036854775807) (k : Φ (.string (m ++ n)) w) :
    Does P (.binOp .add t x y t') ty E w Φ :=
  does_bin hx hy rfl (by rw [binOp_string_add, run_string_add_sum w m n hs]) k
theorem does_convU8 {m : Int} (hu : P.underlying t = some (.int .i64)) (hu' : P.underlying t' = some (.int .u8)) (hx : ev E x = some (.int .i64 m)) (hb : 0 ≤ m ∧ m ≤ 255) (k : Φ (.int .u8 m) w) : Does P (.convert t t' x) ty E w Φ := by
  refine ⟨fun ρ hρ => ?_⟩
  have hw : IntKind.u8.wrap m = m := by simp [IntKind.wrap, IntKind.signed, IntKind.bits]; omega
  have : (execOp ρ (mk (.convert t t' x) ty)).run P w = .ok (.value (.int .u8 m)) w := by
    simp only [execOp, mk, hρ _ _ hx, convert, Sem.run_bind, run_underlying hu, run_underlying hu', Result.andThen_ok]
    simp [Conv.intToInt, hw]
  rw [this]; exact k
theorem does_bytes (i : Nat) {e : TypeId} {b len cap : Nat} {xs : List Int} {T : TypeId} {fz : Nat × Nat} (hu : P.underlying t = some (.slice e)) (he : P.underlying e = some (.int .u8)) (hd : P.underlying t' = some .string) (hm : Mem W0 X B L w)
    (hx : ev E x = some (.slice (some ⟨b, 0, none⟩) len cap)) (hL : L[i]? = some (.blk b (.cells (xs.map (Value.int .u8)).toArray T fz))) (hl : xs.length = len) (k : Φ (.string (strOfNums xs)) w) : Does P (.convert t t' x) ty E w Φ := by
  refine ⟨fun ρ hρ => ?_⟩
  have hb := mem_idx hm hL
  have hr := run_convert_bytes_arg w t e hu he b 0 len cap xs hl (fun j hj => by
    rw [Nat.zero_add]
    refine own_cell hb ?_
    rw [List.getElem?_map, List.getElem?_eq_getElem (by omega)]
    simp [List.getD, List.getElem?_eq_getElem (show j < xs.length by omega)]) t' hd
  have : (execOp ρ (mk (.convert t t' x) ty)).run P w = .ok (.value (.string (strOfNums xs))) w := by
    simp only [execOp, mk, hρ _ _ hx, Sem.run_bind, hr, Result.andThen_ok]
    rfl
  rw [this]; exact k
theorem does_bytes1 (i : Nat) {e : TypeId} {b : Nat} {n : Int} {T : TypeId} {fz : Nat × Nat} (hu : P.underlying t = some (.slice e)) (he : P.underlying e = some (.int .u8)) (hd : P.underlying t' = some .string) (hm : Mem W0 X B L w)
    (hx : ev E x = some (.slice (some ⟨b, 0, none⟩) 1 1)) (hL : L[i]? = some (.blk b (.cells [.int .u8 n].toArray T fz))) (k : Φ (.string (strOfNums [n])) w) : Does P (.convert t t' x) ty E w Φ :=
  does_bytes i (xs := [n]) hu he hd hm hx hL rfl k
theorem perm_erase {α : Type} : ∀ {l : List α} {i : Nat} {x : α}, l[i]? = some x → List.Perm (x :: l.eraseIdx i) l
  | [], i, x, h => by simp at h
  | a :: l, 0, x, h => by
    simp only [List.getElem?_cons_zero, Option.some.injEq] at h
    subst h
    exact .refl _
  | a :: l, i + 1, x, h => by
    simp only [List.getElem?_cons_succ] at h
    exact (List.Perm.swap a x _).trans ((perm_erase h).cons a)
theorem Mem.pull (i : Nat) {o : Own} (hm : Mem W0 X B L w) (hL : L[i]? = some o) : Mem W0 X B (o :: L.eraseIdx i) w := by
  exact hm.perm (perm_erase hL).symm
end
/-- a slice that is a row of one's own, or an empty one wherever -/
structure Shd (v u : Value) (n : Nat) : Prop where
  out : v = u ∨ (n = 0 ∧ u = .slice none 0 0 ∧ ∃ p c, v = .slice p 0 c)
theorem Shd.refl (v : Value) (n : Nat) : Shd v v n := ⟨.inl rfl⟩
theorem Shd.sl {α : Type} {enc : α → List Value} {sz n cap : Nat} {xs : List α} {p : Option Addr} {u : Value} {T : TypeId} {W0 w : World} {X : List Nat} {B : Heap} {L : List Own} (hs : Shd (.slice p n cap) u xs.length) (i : Nat) (hm : Mem W0 X B L w) (hL : L[i]? = some (.row u T sz (xs.map enc).flatten)) (hf : ∀ x, (enc x).length = sz) (hsz : 0 < sz) :
    Sl (fun b => w.heap[b]?) p enc sz xs := by
  rcases hs.out with rfl | ⟨h0, rfl, p', c', h⟩
  · exact row_sl i hm hL hf hsz
  · intro j y hj
    have := (List.getElem?_eq_some_iff.1 hj).1
    omega
theorem Shd.shape {α : Type} {enc : α → List Value} {sz i : Nat} {xs : List α} {v u : Value} {T : TypeId} {W0 w : World} {X : List Nat} {B : Heap} {L : List Own} (hs : Shd v u xs.length) (hm : Mem W0 X B L w) (hL : L[i]? = some (.row u T sz (xs.map enc).flatten)) (hf : ∀ x, (enc x).length = sz) (hsz : 0 < sz) :
    ∃ p cap, v = .slice p xs.length cap := by
  rcases hs.out with rfl | ⟨h0, rfl, p', c', h⟩
  · obtain ⟨p, cap, h, _⟩ := row_slice hm hL hf hsz
    exact ⟨p, cap, h⟩
  · exact ⟨p', c', by rw [h, h0]⟩
section
variable {P : Program} {w W0 : World} {X : List Nat} {B : Heap} {L : List Own} {E : Env} {Φ : Value → World → Prop} {ty t t' : TypeId} {x y : Operand}
theorem does_funWS (i : Nat) {f : FuncId} {args : List Operand} {ats : Array TypeId} {g : Value → List Value} {v u : Value} {n : Nat} {T : TypeId} {sz : Nat} {cs cs' : List Value} {r : Value} (hm : Mem W0 X B L w) (hen : Enters P f) (hx : evs E args = some (g v)) (hs : Shd v u n) (hn : cs'.length = n * sz)
    (hc : FunW P f (g u) u T sz cs cs' r) (h0 : ∀ p c, n = 0 → Fun P f (g (.slice p 0 c)) r) (hL : L[i]? = some (.row u T sz cs)) (hl : cs.length = cs'.length) (k : ∀ w', Mem W0 X B (L.set i (.row u T sz cs')) w' → Φ r w') : Does P (.call { callee := .value (.func f), args := args.toArray, argTypes := ats }) ty E w Φ := by
  rcases hs.out with rfl | ⟨hz, rfl, p, c, rfl⟩
  · exact does_funW i hm hen hx hc hL k
  · refine does_funM hm hen hx (h0 p c hz) fun w' hm' => k w' ?_
    have e1 : cs' = [] := List.eq_nil_of_length_eq_zero (by rw [hn, hz, Nat.zero_mul])
    have e2 : cs = [] := List.eq_nil_of_length_eq_zero (by rw [hl, e1]; rfl)
    subst e1 e2
    have : L.set i (.row (.slice none 0 0) T sz []) = L := by
      apply List.ext_getElem?
      intro j
      by_cases hj : i = j
      · subst hj
        rw [hL, List.getElem?_set_self ((List.getElem?_eq_some_iff.1 hL).1)]
      · rw [List.getElem?_set_ne hj]
    rw [this]
    exact hm'
end
end Go.Proofs.Ytnclbllhflinfaa.St
end
