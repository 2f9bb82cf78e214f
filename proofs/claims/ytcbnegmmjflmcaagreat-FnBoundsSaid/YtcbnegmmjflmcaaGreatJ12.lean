/-
  Contracts of the functions that draw numbers: below a bound, out of a list, near a range.
-/
import Derived.Test.YtcbnegmmjflmcaaGreatLCur
import Derived.Test.YtcbnegmmjflmcaaGreatLVec
import Derived.Test.YtcbnegmmjflmcaaGreatJ7
import Derived.Test.YtcbnegmmjflmcaaGreatJ5
import Derived.Test.YtcbnegmmjflmcaaGreatJ3
import Derived.Laws.BytesArg
import Derived.Laws.Concat
import Derived.Test.YtcbnegmmjflmcaaGreatJ2

section
set_option linter.unusedSimpArgs false
set_option linter.unusedVariables false
namespace Go.Proofs.YtcbnegmmjflmcaaGreat.St
open Go.RowKit
set_option maxHeartbeats 4000000 in
theorem l01Below_ok (b : Nat) (p : Option Addr) (bs : List Int) (c i : Nat) (h n : Int) (hbs : bytesOk bs) (hl : bs.length ≤ 1048576) (hi : i ≤ bs.length) (hn : 1 ≤ n ∧ n ≤ 1000000000) :
    FunU Tryz.prog 28 [.pointer (some ⟨b, 0, none⟩), I n] b curT (curC p bs.length c i h) (fun H => Sl H p eB 1 bs) (curR p bs.length c (intR 0 (n - 1))) := by
  refine enterFunU Tryz.func28 rfl Tryz.ntmps28 rfl (fun W0 w a hp hm h => ?_)
  repeat' (first | refine c_seq ?_ | refine c_region ?_ | refine c_nil ?_ | refine k_then ?_ | refine k_thenR ?_ | refine c_skip ?_ | refine c_ret ?_ | refine c_condF h rfl ?_ | ((refine st_op rfl rfl h ?_); clear h a; (first | (show Does _ (.call _) _ _ _ _; (refine does_funU 0 hm en29 rfl rfl (l01Byte_ok _ _ _ _ _ _ (by assumption) (by omega) (by omega)) (by first | exact Sl.mono (by assumption) (le_hole (i := 0) hm rfl) | trivial) ?_; clear hm; rintro v cs1 L1 w ⟨⟨x, rfl, hx1, hx2⟩, ⟨i1, h1, rfl, hi1⟩, rfl⟩ hm; simp only [List.cons_append, List.nil_append, List.set_cons_zero, List.set_cons_succ] at hm)) | (show Does _ (.move _) _ _ _ _; refine does_move rfl ?_) | (show Does _ (.assign _) _ _ _ _; refine does_assign rfl ?_) | (show Does _ (.binOp _ _ _ _ _) _ _ _ _; (first | refine does_leqF rfl rfl (by omega) ?_ | refine does_leq rfl rfl ?_ | refine does_mul rfl rfl (mul_in (by omega) (by omega)) ?_ | refine does_add rfl rfl (by omega) ?_ | refine does_rem rfl rfl (by omega) ?_))); intro a h; (try simp only [Value.cells, splice, nqq, Nat.reduceAdd, Nat.reduceMul, Int.reduceAdd, Int.reduceToNat, Int.reduceTMod] at h)) | ((refine c_condD h rfl ?_ ?_) <;> intro hc <;> (try (fail))))
  · exact k_ret1 rfl h rfl ⟨_, [], ⟨⟨_, rfl, Int.tmod_nonneg _ (by omega), by have := Int.tmod_lt_of_pos x (show 0 < n by omega); omega⟩, ⟨_, _, rfl, by omega⟩, rfl⟩, hm⟩
  · refine k_ret1 rfl h rfl ⟨_, [], ⟨⟨_, rfl, Int.tmod_nonneg _ (by omega), ?_⟩, ⟨_, _, rfl, by omega⟩, rfl⟩, hm⟩
    have := fun z : Int => Int.tmod_lt_of_pos z (show 0 < n by omega)
    exact Int.le_sub_one_of_lt (this _)
set_option maxHeartbeats 4000000 in
theorem l32New_ok (p : Option Addr) (bs : List Int) (c : Nat) (n : Int) (hbs : bytesOk bs) (hl : bs.length ≤ 1048576) (hn : 0 ≤ n ∧ n ≤ 1000) :
    FunG Tryz.prog 15 [.slice p bs.length c, I n] (fun H => Sl H p eB 1 bs) (fun v L' => ∃ b i h, v = .pointer (some ⟨b, 0, none⟩) ∧ i ≤ bs.length ∧ L' = [.blk b (.cells (curC p bs.length c i h).toArray curT)]) := by
  refine enterFunG Tryz.func15 rfl Tryz.ntmps15 rfl (fun W0 w a hp hm h => ?_)
  repeat' (first | refine c_seq ?_ | refine c_region ?_ | refine c_nil ?_ | refine k_then ?_ | ((refine st_op rfl rfl h ?_); clear h a; (first | (show Does _ (.move _) _ _ _ _; refine does_move rfl ?_) | (show Does _ (.assign _) _ _ _ _; refine does_assign rfl ?_)); intro a h; (try simp only [Value.cells, splice, nqq, Nat.reduceAdd, Nat.reduceMul, Int.reduceAdd, Int.reduceToNat, Int.reduceTMod] at h)))
  refine st_op rfl rfl h ?_; clear h a; refine does_funG hm en13 rfl (l01New_ok _ _ _ (by assumption) (by omega)) (hp.up hm) ?_; clear hm; rintro v L1 w ⟨b, i, h0, rfl, hi, rfl⟩ hm a h; simp only [List.cons_append, List.nil_append] at hm
  repeat' (first | refine c_seq ?_ | refine c_region ?_ | refine c_nil ?_ | refine k_then ?_ | refine c_block ?_ | ((refine st_op rfl rfl h ?_); clear h a; ((show Does _ (.assign _) _ _ _ _; refine does_assign rfl ?_)); intro a h; (try simp only [Value.cells, splice, nqq, Nat.reduceAdd, Nat.reduceMul, Int.reduceAdd, Int.reduceToNat, Int.reduceTMod] at h)))
  obtain ⟨N, rfl⟩ : ∃ N : Nat, n = N := ⟨n.toNat, by omega⟩
  refine c_loop (σ := Nat × Nat × Int) (fun s a w => s.1 ≤ N ∧ s.2.1 ≤ bs.length ∧ Mem W0 [] (fun b => W0.heap[b]?) [.blk b (.cells (curC p bs.length c s.2.1 s.2.2).toArray curT)] w ∧ Holds [(1, I N), (5, .pointer (some ⟨b, 0, none⟩)), (6, .int .i64 s.1)] _ a) (fun s => N - s.1) (0, i, h0)
    ⟨Nat.zero_le _, hi, hm, h.keep ⟨rfl, rfl, rfl, trivial⟩⟩ ?_
  clear h hm hi
  rintro ⟨k, i, h0⟩ a w ⟨hk, hi, hm, h⟩
  simp only at hk hi hm h
  by_cases hlt : k < N
  · repeat' (first | refine c_seq ?_ | refine c_region ?_ | refine c_nil ?_ | refine k_then ?_ | refine k_inN ?_ | refine c_skip ?_ | refine c_block ?_ | refine c_condT h rfl ?_ | ((refine st_op rfl rfl h ?_); clear h a; (first | (show Does _ (.call _) _ _ _ _; (refine does_funU 0 hm en29 rfl rfl (l01Byte_ok _ _ _ _ _ _ (by assumption) (by omega) (by omega)) (by first | exact Sl.mono (by assumption) (le_hole (i := 0) hm rfl) | trivial) ?_; clear hm; rintro v cs1 L1 w ⟨⟨x, rfl, hx1, hx2⟩, ⟨i1, h1, rfl, hi1⟩, rfl⟩ hm; simp only [List.cons_append, List.nil_append, List.set_cons_zero, List.set_cons_succ] at hm)) | (show Does _ (.move _) _ _ _ _; refine does_move rfl ?_) | (show Does _ (.assign _) _ _ _ _; refine does_assign rfl ?_) | (show Does _ (.binOp _ _ _ _ _) _ _ _ _; (first | refine does_lssT rfl rfl (by omega) ?_ | refine does_add rfl rfl (by omega) ?_))); intro a h; (try simp only [Value.cells, splice, nqq, Nat.reduceAdd, Nat.reduceMul, Int.reduceAdd, Int.reduceToNat, Int.reduceTMod] at h)))
    exact k_thenN ⟨(k + 1, _, _), ⟨by omega, by assumption, hm, h.keep ⟨rfl, rfl, rfl, trivial⟩⟩, by show N - (k + 1) < N - k; omega⟩
  · repeat' (first | refine c_seq ?_ | refine c_region ?_ | refine c_nil ?_ | refine k_then ?_ | refine k_thenE ?_ | refine k_inE ?_ | refine c_ret ?_ | refine c_exit ?_ | refine c_condF h rfl ?_ | ((refine st_op rfl rfl h ?_); clear h a; (first | (show Does _ (.move _) _ _ _ _; refine does_move rfl ?_) | (show Does _ (.assign _) _ _ _ _; refine does_assign rfl ?_) | (show Does _ (.binOp _ _ _ _ _) _ _ _ _; (refine does_lssF rfl rfl (by omega) ?_))); intro a h; (try simp only [Value.cells, splice, nqq, Nat.reduceAdd, Nat.reduceMul, Int.reduceAdd, Int.reduceToNat, Int.reduceTMod] at h)))
    exact k_ret1 rfl h rfl ⟨_, ⟨_, _, _, rfl, hi, rfl⟩, hm⟩
end Go.Proofs.YtcbnegmmjflmcaaGreat.St
end

section
/-
  Contracts of the functions that draw a triangle and places near it.
-/
set_option linter.unusedSimpArgs false
set_option linter.unusedVariables false
namespace Go.Proofs.YtcbnegmmjflmcaaGreat.St
open Go.RowKit
/-- a place of one's own, while the block b is another's -/
theorem at_hole {W0 w : World} {X : List Nat} {B : Heap} {L : List Own} {i j b b' : Nat} {o : Obj} {cs : List Value} {T : TypeId} {fz : Nat × Nat} (hm : Mem W0 X B L w) (hi : L[i]? = some (.blk b o)) (hj : L[j]? = some (.blk b' (.cells cs.toArray T fz))) (hij : i ≠ j) : At (hole w b) ⟨b', 0, none⟩ cs := by
  have hne : b' ≠ b := fun e => by subst e; exact hij (nodup_dom hm.nodup hi hj rfl rfl)
  refine ⟨rfl, cs.toArray, T, fz, ?_, fun k v hk => by simpa using hk⟩
  show (if b' = b then none else w.heap[b']?) = _
  rw [if_neg hne]
  exact mem_idx hm hj
end Go.Proofs.YtcbnegmmjflmcaaGreat.St
end

section
/-
  Comparing strings.
-/
set_option linter.unusedSimpArgs false
set_option linter.unusedVariables false
namespace Go.Proofs.YtcbnegmmjflmcaaGreat.St
open Go.RowKit
section
variable {P : Program} {w : World} {E : Env} {Φ : Value → World → Prop} {ty t t' : TypeId} {x y : Operand}
theorem strB (m n : ByteArray) : (m.toList == n.toList) = dB (m = n) := by
  rw [dB_eq, ByteArray.toList_eq, ByteArray.toList_eq]
  have : m.data.toList = n.data.toList ↔ m = n := ⟨fun h => ByteArray.ext (Array.toList_inj.mp h), fun h => by rw [h]⟩
  by_cases h : m = n
  · simp [h]
  · have h' : ¬ m.data.toList = n.data.toList := fun e => h (this.1 e)
    rw [decide_eq_false h]
    exact beq_eq_false_iff_ne.2 h'
theorem does_eqlStr [StrT P t] {m n : ByteArray} (hx : ev E x = some (.string m)) (hy : ev E y = some (.string n)) (k : Φ (.bool (dB (m = n))) w) :
    Does P (.binOp .eql t x y t') ty E w Φ :=
  does_bin hx hy rfl (by rw [binOp_string_eql, strB]; rfl) k
theorem does_neqStr [StrT P t] {m n : ByteArray} (hx : ev E x = some (.string m)) (hy : ev E y = some (.string n)) (k : Φ (.bool (dB (¬ m = n))) w) :
    Does P (.binOp .neq t x y t') ty E w Φ :=
  does_bin hx hy rfl (by rw [binOp_string_neq, strB, dB_not]; rfl) k
end
end Go.Proofs.YtcbnegmmjflmcaaGreat.St
end

section
/-
  Strings made of bytes, and one behind the other; a slice that is a row of one's own or empty.
-/
set_option linter.unusedSimpArgs false
set_option linter.unusedVariables false
namespace Go.Proofs.YtcbnegmmjflmcaaGreat.St
open Go.RowKit
section
variable {P : Program} {w W0 : World} {X : List Nat} {B : Heap} {L : List Own} {E : Env} {Φ : Value → World → Prop} {ty t t' : TypeId} {x y : Operand}
theorem does_addStr {m n : ByteArray} (hx : ev E x = some (.string m)) (hy : ev E y = some (.string n)) (hs : m.size + n.size ≤ 9223372036854775807) (k : Φ (.string (m ++ n)) w) :
    Does P (.binOp .add t x y t') ty E w Φ :=
  does_bin hx hy rfl (by rw [binOp_string_add, run_string_add_sum w m n hs]) k
theorem perm_erase {α : Type} : ∀ {l : List α} {i : Nat} {x : α}, l[i]? = some x → List.Perm (x :: l.eraseIdx i) l
  | [], i, x, h => by simp at h
  | a :: l, 0, x, h => by
    simp only [List.getElem?_cons_zero, Option.some.injEq] at h
    subst h
    exact .refl _
  | a :: l, i + 1, x, h => by
    simp only [List.getElem?_cons_succ] at h
    exact (List.Perm.swap a x _).trans ((perm_erase h).cons a)
theorem Mem.pull (i : Nat) {o : Own} (hm : Mem W0 X B L w) (hL : L[i]? = some o) : Mem W0 X B (o :: L.eraseIdx i) w := by
  exact hm.perm (perm_erase hL).symm
end
structure Shd (v u : Value) (n : Nat) : Prop where
  out : v = u ∨ (n = 0 ∧ u = .slice none 0 0 ∧ ∃ p c, v = .slice p 0 c)
theorem Shd.refl (v : Value) (n : Nat) : Shd v v n := ⟨.inl rfl⟩
section
variable {P : Program} {w W0 : World} {X : List Nat} {B : Heap} {L : List Own} {E : Env} {Φ : Value → World → Prop} {ty t t' : TypeId} {x y : Operand}
end
end Go.Proofs.YtcbnegmmjflmcaaGreat.St
end

section
/-
  Contracts of the functions that draw one text of a list; sums of texts of which only bounds are told.
-/
set_option linter.unusedSimpArgs false
set_option linter.unusedVariables false
namespace Go.Proofs.YtcbnegmmjflmcaaGreat.St
open Go.RowKit
abbrev eX (s : ByteArray) : List Value := [.string s]
abbrev strR (lo hi : Nat) (v : Value) : Prop := ∃ s : ByteArray, v = .string s ∧ lo ≤ s.size ∧ s.size ≤ hi
theorem litZ {a : ByteArray} {k : Nat} (h : decide (a.size ≤ k) = true) : a.size ≤ k := of_decide_eq_true h
theorem litL {a : ByteArray} {k : Nat} (h : decide (k ≤ a.size) = true) : k ≤ a.size := of_decide_eq_true h
section
variable {P : Program} {E : Env} {w W0 : World} {X : List Nat} {B : Heap} {L : List Own} {Φ : Value → World → Prop} {ty t t' : TypeId} {x y : Operand}
/-- a sum of texts: its bounds alone -/
theorem does_addStrA {m n : ByteArray} {la lb ka kb : Nat} (hx : ev E x = some (.string m)) (hy : ev E y = some (.string n)) (ha : m.size ≤ ka) (hb : n.size ≤ kb) (hl : la ≤ m.size) (hl' : lb ≤ n.size) (hk : ka + kb ≤ 100000)
    (k : ∀ s : ByteArray, la + lb ≤ s.size ∧ s.size ≤ ka + kb → Φ (.string s) w) : Does P (.binOp .add t x y t') ty E w Φ :=
  does_addStr hx hy (by omega) (k _ (by rw [ByteArray.size_append]; omega))
theorem does_subTo {m n u : Int} (hx : ev E x = some (.int .i64 m)) (hy : ev E y = some (.int .i64 n)) (hu : m - n = u) (hb : -9223372036854775808 ≤ u ∧ u ≤ 9223372036854775807) (k : Φ (.int .i64 u) w) : Does P (.binOp .sub t x y t') ty E w Φ := by
  subst hu
  exact does_sub hx hy hb k
theorem sl_hole {i j b b' : Nat} {o : Obj} {ss : List ByteArray} {T : TypeId} {fz : Nat × Nat} (hm : Mem W0 X B L w) (hi : L[i]? = some (.blk b o)) (hj : L[j]? = some (.blk b' (.cells (ss.map eX).flatten.toArray T fz))) (hij : i ≠ j) : Sl (hole w b) (some ⟨b', 0, none⟩) eX 1 ss :=
  sl_of_flat (fun _ => rfl) rfl fun _ => ⟨b', rfl, at_hole hm hi hj hij⟩
end
set_option maxHeartbeats 4000000 in
theorem l01Once_ok (b : Nat) (p : Option Addr) (bs : List Int) (c i : Nat) (h n : Int) (hbs : bytesOk bs) (hl : bs.length ≤ 1048576) (hi : i ≤ bs.length) (hn : 1 ≤ n ∧ n ≤ 1000000000) :
    FunU Tryz.prog 49 [.pointer (some ⟨b, 0, none⟩), I n] b curT (curC p bs.length c i h) (fun H => Sl H p eB 1 bs) (curR p bs.length c (fun v => ∃ z : Bool, v = .bool z)) := by
  refine enterFunU Tryz.func49 rfl Tryz.ntmps49 rfl (fun W0 w a hp hm h => ?_)
  repeat' (first | refine c_seq ?_ | refine c_region ?_ | refine c_nil ?_ | refine k_then ?_ | refine c_ret ?_ | ((refine st_op rfl rfl h ?_); clear h a; (first | (show Does _ (.call _) _ _ _ _; (refine does_funU 0 hm en28 rfl rfl (l01Below_ok _ _ _ _ _ _ _ (by assumption) (by omega) (by omega) (by omega)) (by first | exact Sl.mono (by assumption) (le_hole (i := 0) hm rfl) | trivial) ?_; clear hm; rintro v cs1 L1 w ⟨⟨x, rfl, hx1, hx2⟩, ⟨i1, h1, rfl, hi1⟩, rfl⟩ hm; simp only [List.cons_append, List.nil_append, List.set_cons_zero, List.set_cons_succ] at hm)) | (show Does _ (.move _) _ _ _ _; refine does_move rfl ?_) | (show Does _ (.assign _) _ _ _ _; refine does_assign rfl ?_) | (show Does _ (.binOp _ _ _ _ _) _ _ _ _; (refine does_eql rfl rfl ?_))); intro a h; (try simp only [Value.cells, splice, nqq, Nat.reduceAdd, Nat.reduceMul, Int.reduceAdd, Int.reduceToNat, Int.reduceTMod] at h)))
  exact k_ret1 rfl h rfl ⟨_, [], ⟨⟨_, rfl⟩, ⟨_, _, rfl, by omega⟩, rfl⟩, hm⟩
set_option maxHeartbeats 4000000 in
theorem l01Str_ok (b b' : Nat) (p : Option Addr) (bs : List Int) (c i : Nat) (h : Int) (ss : List ByteArray) (lo hi_ : Nat) (hbs : bytesOk bs) (hl : bs.length ≤ 1048576) (hi : i ≤ bs.length) (hn : 1 ≤ ss.length ∧ ss.length ≤ 256) (hss : ∀ s ∈ ss, lo ≤ s.size ∧ s.size ≤ hi_) :
    FunU Tryz.prog 99 [.pointer (some ⟨b, 0, none⟩), .slice (some ⟨b', 0, none⟩) ss.length ss.length] b curT (curC p bs.length c i h) (fun H => Sl H p eB 1 bs ∧ Sl H (some ⟨b', 0, none⟩) eX 1 ss) (curR p bs.length c (strR lo hi_)) := by
  refine enterFunU Tryz.func99 rfl Tryz.ntmps99 rfl (fun W0 w a hp hm h => ?_)
  obtain ⟨hp, hs⟩ := hp
  repeat' (first | refine c_seq ?_ | refine c_region ?_ | refine c_nil ?_ | refine k_then ?_ | ((refine st_op rfl rfl h ?_); clear h a; (first | (show Does _ (.call _) _ _ _ _; (first | (refine does_funU 0 hm en28 rfl rfl (l01Below_ok _ _ _ _ _ _ _ (by assumption) (by omega) (by omega) (by omega)) (by first | exact Sl.mono (by assumption) (le_hole (i := 0) hm rfl) | trivial) ?_; clear hm; rintro v cs1 L1 w ⟨⟨x, rfl, hx1, hx2⟩, ⟨i1, h1, rfl, hi1⟩, rfl⟩ hm; simp only [List.cons_append, List.nil_append, List.set_cons_zero, List.set_cons_succ] at hm) | refine does_lenS (SliceT.out) rfl ?_)) | (show Does _ (.move _) _ _ _ _; refine does_move rfl ?_) | (show Does _ (.assign _) _ _ _ _; refine does_assign rfl ?_) | (show Does _ (.indexAddr _ _ _) _ _ _ _; (refine does_indexSL (by omega) rfl rfl ?_))); intro a h; (try simp only [Value.cells, splice, nqq, Nat.reduceAdd, Nat.reduceMul, Int.reduceAdd, Int.reduceToNat, Int.reduceTMod] at h)))
  obtain ⟨m, rfl⟩ : ∃ m : Nat, x = m := ⟨x.toNat, by omega⟩
  have hlt : m < ss.length := by omega
  obtain ⟨q1, hq1, hat⟩ := hs.at hlt
  cases hq1
  have hz := hss _ (List.getElem_mem hlt)
  rw [add_add _ 0 _ rfl, Nat.zero_add, Nat.mul_one] at hat
  simp only [Int.toNat_natCast, Nat.mul_one, Nat.zero_add] at h
  repeat' (first | refine c_nil ?_ | refine k_then ?_ | refine c_ret ?_ | ((refine st_op rfl rfl h ?_); clear h a; (first | (show Does _ (.assign _) _ _ _ _; refine does_assign rfl ?_) | (show Does _ (.load _ _) _ _ _ _; (refine does_loadB hm rfl (by assumption) rfl ?_))); intro a h; (try simp only [Value.cells, splice, nqq, Nat.reduceAdd, Nat.reduceMul, Int.reduceAdd, Int.reduceToNat, Int.reduceTMod] at h)))
  exact k_ret1 rfl h rfl ⟨_, [], ⟨⟨_, rfl, hz⟩, ⟨_, _, rfl, by omega⟩, rfl⟩, hm⟩
end Go.Proofs.YtcbnegmmjflmcaaGreat.St
end

section
/-
  Contracts of the functions on textures: sizes, copies, sameness.
-/
set_option linter.unusedSimpArgs false
set_option linter.unusedVariables false
namespace Go.Proofs.YtcbnegmmjflmcaaGreat.St
open Go.RowKit
end Go.Proofs.YtcbnegmmjflmcaaGreat.St
end

section
/-
  Contracts of the functions on textures.
-/
set_option linter.unusedSimpArgs false
set_option linter.unusedVariables false
namespace Go.Proofs.YtcbnegmmjflmcaaGreat.St
open Go.RowKit
set_option maxHeartbeats 2000000 in
theorem size0_ok  : Fun Tryz.prog 65 [I 0] (I 1) := by
  refine enterFun Tryz.func65 rfl Tryz.ntmps65 rfl (fun W0 w a hm h => ?_)
  repeat' (first | refine c_seq ?_ | refine c_region ?_ | refine c_nil ?_ | refine k_then ?_ | refine k_thenE ?_ | refine k_inE ?_ | refine c_ret ?_ | refine c_exit ?_ | refine c_block ?_ | refine r_succ ?_ | refine c_condF h rfl ?_ | (refine c_rounds 5 ?_) | ((refine st_op rfl rfl h ?_); clear h a; (first | (show Does _ (.move _) _ _ _ _; refine does_move rfl ?_) | (show Does _ (.assign _) _ _ _ _; refine does_assign rfl ?_) | (show Does _ (.binOp _ _ _ _ _) _ _ _ _; (refine does_gtrF rfl rfl (by omega) ?_))); intro a h))
  all_goals (refine k_ret1 rfl h rfl ⟨?_, hm.below⟩)
  all_goals (rfl)
set_option maxHeartbeats 2000000 in
theorem size1_ok  : Fun Tryz.prog 65 [I 1] (I 2) := by
  refine enterFun Tryz.func65 rfl Tryz.ntmps65 rfl (fun W0 w a hm h => ?_)
  repeat' (first | refine c_seq ?_ | refine c_region ?_ | refine c_nil ?_ | refine k_then ?_ | refine k_thenL ?_ | refine k_thenE ?_ | refine k_inN ?_ | refine k_inE ?_ | refine c_skip ?_ | refine c_ret ?_ | refine c_exit ?_ | refine c_block ?_ | refine r_succ ?_ | refine c_condT h rfl ?_ | refine c_condF h rfl ?_ | (refine c_rounds 5 ?_) | ((refine st_op rfl rfl h ?_); clear h a; (first | (show Does _ (.move _) _ _ _ _; refine does_move rfl ?_) | (show Does _ (.assign _) _ _ _ _; refine does_assign rfl ?_) | (show Does _ (.binOp _ _ _ _ _) _ _ _ _; (first | refine does_gtrT rfl rfl (by omega) ?_ | refine does_gtrF rfl rfl (by omega) ?_ | refine does_mul rfl rfl (mul_in (by omega) (by omega)) ?_ | refine does_sub rfl rfl (by omega) ?_))); intro a h))
  all_goals (refine k_ret1 rfl h rfl ⟨?_, hm.below⟩)
  all_goals (rfl)
set_option maxHeartbeats 2000000 in
theorem size2_ok  : Fun Tryz.prog 65 [I 2] (I 4) := by
  refine enterFun Tryz.func65 rfl Tryz.ntmps65 rfl (fun W0 w a hm h => ?_)
  repeat' (first | refine c_seq ?_ | refine c_region ?_ | refine c_nil ?_ | refine k_then ?_ | refine k_thenL ?_ | refine k_thenE ?_ | refine k_inN ?_ | refine k_inE ?_ | refine c_skip ?_ | refine c_ret ?_ | refine c_exit ?_ | refine c_block ?_ | refine r_succ ?_ | refine c_condT h rfl ?_ | refine c_condF h rfl ?_ | (refine c_rounds 5 ?_) | ((refine st_op rfl rfl h ?_); clear h a; (first | (show Does _ (.move _) _ _ _ _; refine does_move rfl ?_) | (show Does _ (.assign _) _ _ _ _; refine does_assign rfl ?_) | (show Does _ (.binOp _ _ _ _ _) _ _ _ _; (first | refine does_gtrT rfl rfl (by omega) ?_ | refine does_gtrF rfl rfl (by omega) ?_ | refine does_mul rfl rfl (mul_in (by omega) (by omega)) ?_ | refine does_sub rfl rfl (by omega) ?_))); intro a h))
  all_goals (refine k_ret1 rfl h rfl ⟨?_, hm.below⟩)
  all_goals (rfl)
set_option maxHeartbeats 2000000 in
theorem size3_ok  : Fun Tryz.prog 65 [I 3] (I 8) := by
  refine enterFun Tryz.func65 rfl Tryz.ntmps65 rfl (fun W0 w a hm h => ?_)
  repeat' (first | refine c_seq ?_ | refine c_region ?_ | refine c_nil ?_ | refine k_then ?_ | refine k_thenL ?_ | refine k_thenE ?_ | refine k_inN ?_ | refine k_inE ?_ | refine c_skip ?_ | refine c_ret ?_ | refine c_exit ?_ | refine c_block ?_ | refine r_succ ?_ | refine c_condT h rfl ?_ | refine c_condF h rfl ?_ | (refine c_rounds 5 ?_) | ((refine st_op rfl rfl h ?_); clear h a; (first | (show Does _ (.move _) _ _ _ _; refine does_move rfl ?_) | (show Does _ (.assign _) _ _ _ _; refine does_assign rfl ?_) | (show Does _ (.binOp _ _ _ _ _) _ _ _ _; (first | refine does_gtrT rfl rfl (by omega) ?_ | refine does_gtrF rfl rfl (by omega) ?_ | refine does_mul rfl rfl (mul_in (by omega) (by omega)) ?_ | refine does_sub rfl rfl (by omega) ?_))); intro a h))
  all_goals (refine k_ret1 rfl h rfl ⟨?_, hm.below⟩)
  all_goals (rfl)
end Go.Proofs.YtcbnegmmjflmcaaGreat.St
end
