/-
  Bytes of a string in a block of one's own, changed, and back; spec.l20Flat.
-/
import Derived.Test.YtgmonjghbjaadaaGreatDoorJ4
import Derived.Laws.IdiomStrings
import Derived.Lib.UnsafeStr
import Derived.Test.YtgmonjghbjaadaaGreatDoorScal
import Derived.Shelf.Strconv.Itoa3

section
set_option linter.unusedSimpArgs false
set_option linter.unusedVariables false
namespace Go.Proofs.YtgmonjghbjaadaaGreatDoor.St
open Go.RowKit
/-- newlines as spaces -/
def flB (x : UInt8) : UInt8 := if x = 10 then 32 else x
section
variable {P : Program} {E : Env} {w W0 : World} {X : List Nat} {B : Heap} {L : List Own} {Φ : Value → World → Prop} {ty t t' e : TypeId} {x y : Operand}
/-- a block of bytes with what lies behind them; the mark lies behind its last cell -/
abbrev bBlk (e : TypeId) (b : Nat) (l : List UInt8) (sp : List Value) : Own := .blk b (.cells (Lib.byteCells l ++ sp).toArray e ((Lib.byteCells l ++ sp).length, (Lib.byteCells l ++ sp).length + 1))
theorem bytesRow_eq (l : List UInt8) (c : Nat) : bytesRow ⟨l.toArray⟩ c = (Lib.byteCells l ++ List.replicate (c - l.length) (Value.int .u8 0)).toArray := by
  apply Array.ext'
  simp [bytesRow, Lib.byteCells, ByteArray.size]
theorem does_toBytes {l : List UInt8} (hs : P.underlying t = some .string) (hd : P.underlying t' = some (.slice e)) (he : P.underlying e = some (.int .u8)) (hm : Mem W0 X B L w) (hx : ev E x = some (.string (bs l)))
    (k : ∀ b cap sp w', Mem W0 X B (bBlk e b l sp :: L) w' → Φ (.slice (some ⟨b, 0, none⟩) l.length cap) w') : Does P (.convert t t' x) ty E w Φ := by
  refine ⟨fun ρ hρ => ?_⟩
  have hr := run_bytes_of_string (P := P) w t t' e (bs l) hs hd he
  rw [show (bs l).size = l.length from bs_size l] at hr
  rw [show bytesRow (bs l) _ = _ from bytesRow_eq l _] at hr
  have : (execOp ρ (mk (.convert t t' x) ty)).run P w = .ok (.value (.slice (some ⟨w.heap.size, 0, none⟩) l.length (grownCap w l.length 0 e))) (w.drew.alloc (.cells (Lib.byteCells l ++ List.replicate (grownCap w l.length 0 e - l.length) (Value.int .u8 0)).toArray e ((Lib.byteCells l ++ List.replicate (grownCap w l.length 0 e - l.length) (Value.int .u8 0)).length, (Lib.byteCells l ++ List.replicate (grownCap w l.length 0 e - l.length) (Value.int .u8 0)).length + 1))) := by
    simp only [execOp, mk, hρ _ _ hx, Sem.run_bind, hr, Result.andThen_ok, List.size_toArray]
    rfl
  rw [this]
  exact k _ _ _ _ ((hm.ext (ext_drew w)).alloc _)
theorem bc_get {l : List UInt8} {sp : List Value} {i : Nat} {u : UInt8} (h : l[i]? = some u) : (Lib.byteCells l ++ sp)[i]? = some (.int .u8 u.toNat) := by
  have hl := (List.getElem?_eq_some_iff.1 h).1
  rw [List.getElem?_append_left (by rw [Lib.byteCells_length]; exact hl), Lib.byteCells, List.getElem?_map, h]
  rfl
theorem does_loadBy (i : Nat) {l : List UInt8} {sp : List Value} {b off o : Nat} {u : UInt8} [Scalar P t] (hm : Mem W0 X B L w) (hx : ev E x = some (.pointer (some ⟨b, off, none⟩))) (hL : L[i]? = some (bBlk e b l sp))
    (ho : off = o) (hu : l[o]? = some u) (k : Φ (.int .u8 u.toNat) w) : Does P (.load t x) ty E w Φ := by
  subst ho
  exact does_loadO i hm hx hL (bc_get hu) k
theorem does_storeBy (i : Nat) {l : List UInt8} {sp : List Value} {b off o s b_ : Nat} {z : Value} {n : Int} {u : UInt8} [Sz P t z s b_] (hm : Mem W0 X B L w) (hx : ev E x = some (.pointer (some ⟨b, off, none⟩))) (hy : ev E y = some (.int .u8 n)) (hn : n = u.toNat)
    (hL : L[i]? = some (bBlk e b l sp)) (ho : off = o) (hlt : o < l.length) (hs : Nat.beq 1 s = true)
    (k : ∀ w', Mem W0 X B (L.set i (bBlk e b (l.set o u) sp)) w' → Φ undef w') : Does P (.store t x y) ty E w Φ := by
  subst ho hn
  have hs' := Nat.eq_of_beq_eq_true hs
  have hg := mem_idx hm hL
  have hl2 : off < (Lib.byteCells l ++ sp).length := by rw [List.length_append, Lib.byteCells_length]; omega
  have h1 : (store ⟨b, off, none⟩ (.int .u8 u.toNat)).run P w = .ok () (w.setCell ⟨b, off, none⟩ (.int .u8 u.toNat)) := by
    rw [run_store P w _ _ .plain rfl, own_cell hg (List.getElem?_eq_getElem hl2)]
    have : w.frozen? ⟨b, off, none⟩ = false := by
      have hg' : w.heap[b]? = _ := hg
      simp only [World.frozen?, hg']
      simp only [Bool.and_eq_false_iff, decide_eq_false_iff_not]
      omega
    simp [this]
  have hset : (Lib.byteCells l ++ sp).set off (.int .u8 u.toNat) = Lib.byteCells (l.set off u) ++ sp := by
    rw [List.set_append_left _ _ (by rw [Lib.byteCells_length]; exact hlt), Lib.byteCells, Lib.byteCells, List.map_set]
  have hg2 : (w.setCell ⟨b, off, none⟩ (.int .u8 u.toNat)).heap[b]? = some (.cells (Lib.byteCells (l.set off u) ++ sp).toArray e ((Lib.byteCells (l.set off u) ++ sp).length, (Lib.byteCells (l.set off u) ++ sp).length + 1)) := by
    have hg' : w.heap[b]? = _ := hg
    rw [← hset]
    simp [World.setCell, Array.getElem?_modify, hg']
  refine does_store_of hx hy (w' := w.setCell ⟨b, off, none⟩ (.int .u8 u.toNat)) ?_ (k _ (hm.update i hL rfl rfl rfl (by simp [World.setCell]) hg2 (fun c hcb _ => setCell_other hcb)))
  have hadd : (⟨b, off, none⟩ : Addr).add 0 = ⟨b, off, none⟩ := add_add _ 0 0 rfl
  simp only [storeVar, Sem.run_bind, run_size (P := P) (t := t), Result.andThen_ok, Value.cells]
  simp [← hs', storeCells, hadd, h1]
theorem does_fromBytes (i : Nat) {l : List UInt8} {sp : List Value} {b len cap : Nat} (hs : P.underlying t = some (.slice e)) (he : P.underlying e = some (.int .u8)) (hd : P.underlying t' = some .string) (hm : Mem W0 X B L w)
    (hx : ev E x = some (.slice (some ⟨b, 0, none⟩) len cap)) (hL : L[i]? = some (bBlk e b l sp)) (hl : len = l.length) (k : Φ (.string (bs l)) w) : Does P (.convert t t' x) ty E w Φ := by
  subst hl
  refine ⟨fun ρ hρ => ?_⟩
  have hr := run_convert_bytes_back (P := P) w t t' e ⟨b, 0, none⟩ cap l hs he hd (fun j hj => by
    rw [show (⟨b, 0, none⟩ : Addr).add j = ⟨b, j, none⟩ from by rw [add_add _ 0 j rfl, Nat.zero_add]]
    exact own_cell (mem_idx hm hL) (bc_get (List.getElem?_eq_getElem hj)))
  have : (execOp ρ (mk (.convert t t' x) ty)).run P w = .ok (.value (.string (bs l))) w := by
    simp only [execOp, mk, hρ _ _ hx, Sem.run_bind, hr, Result.andThen_ok]
    rfl
  rw [this]; exact k
end
/-- the first k of a list taken as it is to be, the rest as it is -/
def flK (l : List UInt8) (k : Nat) : List UInt8 := (l.take k).map flB ++ l.drop k
theorem flK_len (l : List UInt8) (k : Nat) : (flK l k).length = l.length := by
  simp [flK]; omega
theorem flK_get {l : List UInt8} {k : Nat} (h : k < l.length) : (flK l k)[k]? = some l[k] := by
  rw [flK, List.getElem?_append_right (by rw [List.length_map, List.length_take]; omega), List.getElem?_drop, List.length_map, List.length_take, Nat.min_eq_left (Nat.le_of_lt h), Nat.sub_self, Nat.add_zero, List.getElem?_eq_getElem h]
theorem flK_succ {l : List UInt8} {k : Nat} (h : k < l.length) : (flK l k).set k (flB l[k]) = flK l (k + 1) := by
  have e1 : l.drop k = l[k] :: l.drop (k + 1) := List.drop_eq_getElem_cons h
  have e2 : ((l.take k).map flB).length = k := by simp; omega
  rw [flK, flK, List.take_add_one, List.getElem?_eq_getElem h, Option.toList_some, List.map_append, List.set_append_right _ _ (by omega), e2, Nat.sub_self, e1, List.set_cons_zero]
  simp
theorem flK_same {l : List UInt8} {k : Nat} (h : k < l.length) (hx : ¬ l[k] = 10) : flK l k = flK l (k + 1) := by
  have hlt : k < (flK l k).length := by rw [flK_len]; exact h
  have e : (flK l k)[k] = l[k] := (List.getElem?_eq_some_iff.1 (flK_get h)).2
  rw [← flK_succ h, flB, if_neg hx, ← e, List.set_getElem_self]
theorem flK_all (l : List UInt8) : flK l l.length = l.map flB := by simp [flK]
theorem flK_zero (l : List UInt8) : flK l 0 = l := by simp [flK]
set_option maxHeartbeats 8000000 in
theorem flat_ok (l : List UInt8) (hl : l.length ≤ 3000000000) : Fun Tryz.prog 16 [.string (bs l)] (.string (bs (l.map flB))) := by
  refine enterFun Tryz.func16 rfl Tryz.ntmps16 rfl (fun W0 w a hm h => ?_)
  repeat' (first | refine c_seq ?_ | refine c_region ?_ | refine c_nil ?_ | refine k_then ?_ | refine c_block ?_ | ((refine st_op rfl rfl h ?_); clear h a; (first | ((refine does_toBytes Tryz.underlying9 Tryz.underlying87 Tryz.underlying5 hm rfl ?_; clear hm; intro bz cap sp w hm)) | (show Does _ (.move _) _ _ _ _; refine does_move rfl ?_) | (show Does _ (.assign _) _ _ _ _; refine does_assign rfl ?_) | (show Does _ (.call _) _ _ _ _; refine does_lenS (SliceT.out) rfl ?_)); intro a h; (try simp only [Value.cells, List.toList_toArray, splice, List.set_cons_zero, List.set_cons_succ, List.drop_zero, List.drop_succ_cons, List.take_succ_cons, List.take_zero, Nat.zero_add, Nat.reduceAdd, Nat.reduceMul, Int.reduceAdd, Int.reduceToNat, Int.reduceTMod, Nat.zero_mul, Nat.one_mul, Int.toNat_natCast] at h)))
  rw [← flK_zero l] at hm
  refine c_loop (σ := Nat) (fun k a w => k ≤ l.length ∧ Mem W0 [] (fun b => W0.heap[b]?) [bBlk 5 bz (flK l k) sp] w ∧ Holds [(3, .slice (some ⟨bz, 0, none⟩) l.length cap), (8, .slice (some ⟨bz, 0, none⟩) l.length cap), (9, .int .i64 l.length), (10, .int .i64 k)] _ a) (fun k => l.length - k) 0
    ⟨Nat.zero_le _, hm, h.keep ⟨rfl, rfl, rfl, rfl, trivial⟩⟩ ?_
  clear h hm
  rintro k a w ⟨hk, hm, h⟩
  by_cases hlt : k < l.length
  · by_cases hx : l[k] = 10
    · have hxn : ((l[k].toNat : Nat) : Int) = 10 := by rw [hx]; rfl
      repeat' (first | refine c_seq ?_ | refine c_region ?_ | refine c_nil ?_ | refine k_then ?_ | refine k_inN ?_ | refine c_skip ?_ | refine c_block ?_ | refine c_condT h rfl ?_ | ((first | refine st_op rfl rfl h ?_ | refine st_opn rfl h ?_); clear h a; (first | (show Does _ (.load _ _) _ _ _ _; (((refine does_loadBy 0 hm rfl rfl (by omega) (flK_get hlt) ?_)))) | (show Does _ (.store _ _ _) _ _ _ _; (((refine does_storeBy 0 (u := 32) hm rfl rfl rfl rfl (show _ = k by omega) (by rw [flK_len]; exact hlt) rfl ?_; clear hm; intro w hm; simp only [List.set_cons_zero] at hm)))) | (show Does _ (.move _) _ _ _ _; refine does_move rfl ?_) | (show Does _ (.assign _) _ _ _ _; refine does_assign rfl ?_) | (show Does _ (.binOp _ _ _ _ _) _ _ _ _; (first | refine does_lssT rfl rfl (by omega) ?_ | refine does_eqlT rfl rfl (by omega) ?_ | refine does_add rfl rfl (by omega) ?_)) | (show Does _ (.indexAddr _ _ _) _ _ _ _; (refine does_indexSL1 (by omega) rfl rfl ?_))); intro a h; (try simp only [Value.cells, List.toList_toArray, splice, List.set_cons_zero, List.set_cons_succ, List.drop_zero, List.drop_succ_cons, List.take_succ_cons, List.take_zero, Nat.zero_add, Nat.reduceAdd, Nat.reduceMul, Int.reduceAdd, Int.reduceToNat, Int.reduceTMod, Nat.zero_mul, Nat.one_mul, Int.toNat_natCast] at h)))
      rw [show (32 : UInt8) = flB l[k] from (if_pos hx).symm, flK_succ hlt] at hm
      exact k_thenN ⟨k + 1, ⟨hlt, hm, h.keep ⟨rfl, rfl, rfl, rfl, trivial⟩⟩, by omega⟩
    · have hxn : ¬ ((l[k].toNat : Nat) : Int) = 10 := fun e => hx (UInt8.toNat_inj.1 (by show l[k].toNat = 10; omega))
      repeat' (first | refine c_seq ?_ | refine c_region ?_ | refine c_nil ?_ | refine k_then ?_ | refine k_inN ?_ | refine c_skip ?_ | refine c_block ?_ | refine c_condT h rfl ?_ | refine c_condF h rfl ?_ | ((refine st_op rfl rfl h ?_); clear h a; (first | (show Does _ (.load _ _) _ _ _ _; (((refine does_loadBy 0 hm rfl rfl (by omega) (flK_get hlt) ?_)))) | (show Does _ (.move _) _ _ _ _; refine does_move rfl ?_) | (show Does _ (.assign _) _ _ _ _; refine does_assign rfl ?_) | (show Does _ (.binOp _ _ _ _ _) _ _ _ _; (first | refine does_lssT rfl rfl (by omega) ?_ | refine does_eqlF rfl rfl (by omega) ?_ | refine does_add rfl rfl (by omega) ?_)) | (show Does _ (.indexAddr _ _ _) _ _ _ _; (refine does_indexSL1 (by omega) rfl rfl ?_))); intro a h; (try simp only [Value.cells, List.toList_toArray, splice, List.set_cons_zero, List.set_cons_succ, List.drop_zero, List.drop_succ_cons, List.take_succ_cons, List.take_zero, Nat.zero_add, Nat.reduceAdd, Nat.reduceMul, Int.reduceAdd, Int.reduceToNat, Int.reduceTMod, Nat.zero_mul, Nat.one_mul, Int.toNat_natCast] at h)))
      rw [flK_same hlt hx] at hm
      exact k_thenN ⟨k + 1, ⟨hlt, hm, h.keep ⟨rfl, rfl, rfl, rfl, trivial⟩⟩, by omega⟩
  · obtain rfl : k = l.length := by omega
    repeat' (first | refine c_seq ?_ | refine c_region ?_ | refine c_nil ?_ | refine k_then ?_ | refine k_thenE ?_ | refine k_inE ?_ | refine c_ret ?_ | refine c_exit ?_ | refine c_condF h rfl ?_ | ((refine st_op rfl rfl h ?_); clear h a; (first | ((refine does_fromBytes 0 Tryz.underlying87 Tryz.underlying5 Tryz.underlying9 hm rfl rfl (flK_len l _).symm ?_)) | (show Does _ (.move _) _ _ _ _; refine does_move rfl ?_) | (show Does _ (.assign _) _ _ _ _; refine does_assign rfl ?_) | (show Does _ (.binOp _ _ _ _ _) _ _ _ _; (refine does_lssF rfl rfl (by omega) ?_))); intro a h; (try simp only [Value.cells, List.toList_toArray, splice, List.set_cons_zero, List.set_cons_succ, List.drop_zero, List.drop_succ_cons, List.take_succ_cons, List.take_zero, Nat.zero_add, Nat.reduceAdd, Nat.reduceMul, Int.reduceAdd, Int.reduceToNat, Int.reduceTMod, Nat.zero_mul, Nat.one_mul, Int.toNat_natCast] at h)))
    (refine k_ret1 rfl h rfl ⟨?_, hm.below⟩)
    rw [flK_all]
end Go.Proofs.YtgmonjghbjaadaaGreatDoor.St
end

section
/-
  A number as a text: both sides.
-/
set_option linter.unusedSimpArgs false
set_option linter.unusedVariables false
namespace Go.Proofs.YtgmonjghbjaadaaGreatDoor.St
open Go.RowKit
set_option maxHeartbeats 4000000 in
theorem sFormatInt_pos (n : Nat) (hn : n ≤ 1000000000) : Fun Tryz.prog 15 [I n] (.string (dTx n)) := by
  refine enterFun Tryz.func15 rfl Tryz.ntmps15 rfl (fun W0 w a hm h => ?_)
  have hbd := decDigits_bd 10 n (by omega) (by omega)
  repeat' (first | refine c_seq ?_ | refine c_region ?_ | refine c_nil ?_ | refine k_then ?_ | refine k_thenR ?_ | refine c_skip ?_ | refine c_ret ?_ | refine c_block ?_ | refine c_condF h rfl ?_ | ((refine st_op rfl rfl h ?_); clear h a; (first | (show Does _ (.call _) _ _ _ _; (refine does_funM hm en42 rfl (sIn_ok _ _ _) ?_; clear hm; intro w hm)) | (show Does _ (.move _) _ _ _ _; refine does_move rfl ?_) | (show Does _ (.assign _) _ _ _ _; refine does_assign rfl ?_) | (show Does _ (.binOp _ _ _ _ _) _ _ _ _; (refine does_lssF rfl rfl (by omega) ?_)) | (show Does _ (.unOp _ _ _) _ _ _ _; (refine does_notD rfl ?_))); intro a h; (try simp only [Value.cells, List.toList_toArray, splice, List.set_cons_zero, List.set_cons_succ, List.drop_zero, List.drop_succ_cons, List.take_succ_cons, List.take_zero, Nat.zero_add, Nat.reduceAdd, Nat.reduceMul, Int.reduceAdd, Int.reduceToNat, Int.reduceTMod, Nat.zero_mul, Nat.one_mul, Int.toNat_natCast] at h)) | ((refine c_condD h rfl ?_ ?_) <;> intro hc <;> (try (fail))))
  all_goals first | (exfalso; omega) | skip
  refine c_loop (σ := Nat × ByteArray) (fun s a w => (s.1 ≤ n ∧ dTx s.1 ++ s.2 = dTx n) ∧ Mem W0 [] (fun b => W0.heap[b]?) [] w ∧ Holds [(0, I s.1), (3, .string s.2)] _ a) (fun s => s.1) (n, ⟨#[]⟩)
    ⟨⟨Nat.le_refl n, (bs_append _ []).trans (by rw [List.append_nil])⟩, hm, h.keep ⟨rfl, rfl, trivial⟩⟩ ?_
  clear h hm
  rintro ⟨m, acc⟩ a w ⟨⟨hmn, hd⟩, hm, h⟩
  simp only at hmn hd hm h
  have hsz := congrArg ByteArray.size hd
  rw [ByteArray.size_append] at hsz
  have hz1 : (dTx m).size = _ := bs_size (Lib.decDigits m)
  have hz2 : (dTx n).size = _ := bs_size (Lib.decDigits n)
  have hs1 : (strOfNums [48 + (m : Int).tmod 10]).size = 1 := rfl
  have hs2 : (strOfNums [48 + (m : Int)]).size = 1 := rfl
  have ht : (m : Int).tmod 10 = ((m % 10 : Nat) : Int) := rfl
  have hq : (m : Int).tdiv 10 = ((m / 10 : Nat) : Int) := rfl
  by_cases hlt : 9 < m
  · repeat' (first | refine c_seq ?_ | refine c_region ?_ | refine c_nil ?_ | refine k_then ?_ | refine c_skip ?_ | refine c_block ?_ | refine c_condT h rfl ?_ | ((refine st_op rfl rfl h ?_); clear h a; (first | (show Does _ (.move _) _ _ _ _; refine does_move rfl ?_) | (show Does _ (.binOp _ _ _ _ _) _ _ _ _; (first | refine does_gtrT rfl rfl (by omega) ?_ | refine does_add rfl rfl (by omega) ?_ | refine does_rem rfl rfl (by omega) ?_))); intro a h; (try simp only [Value.cells, List.toList_toArray, splice, List.set_cons_zero, List.set_cons_succ, List.drop_zero, List.drop_succ_cons, List.take_succ_cons, List.take_zero, Nat.zero_add, Nat.reduceAdd, Nat.reduceMul, Int.reduceAdd, Int.reduceToNat, Int.reduceTMod, Nat.zero_mul, Nat.one_mul, Int.toNat_natCast] at h)))
    refine st_op rfl rfl h ?_; clear h a; refine does_convU8 Tryz.underlying3 Tryz.underlying5 rfl (by omega) ?_; intro a h
    repeat' (first | refine c_region ?_ | refine c_nil ?_ | refine k_then ?_ | refine k_inN ?_ | ((refine st_op rfl rfl h ?_); clear h a; (first | (show Does _ (.convert _ _ _) _ _ _ _; ((refine does_bytes1 0 Tryz.underlying87 Tryz.underlying5 Tryz.underlying9 hm rfl rfl ?_))) | (show Does _ (.binOp _ _ _ _ _) _ _ _ _; (first | ((refine does_addStr rfl rfl (by omega) ?_)) | refine does_quo rfl rfl (by omega) ?_)) | (show Does _ (.buildSlice _ _ _) _ _ _ _; (refine does_buildSlice hm rfl rfl rfl ?_; clear hm; intro b w hm; (try simp only [rep, List.replicate_succ, List.replicate_zero, List.flatten_cons, List.flatten_nil, List.cons_append, List.nil_append, Nat.zero_mul, Nat.one_mul, Nat.reduceMul, Value.cells, List.toList_toArray, List.set_cons_zero, List.set_cons_succ, splice, Nat.zero_add, Nat.reduceAdd, Nat.reduceMul, Int.reduceAdd, Int.reduceToNat, Nat.zero_mul, Nat.one_mul, Int.toNat_natCast] at hm))) | (show Does _ (.move _) _ _ _ _; refine does_move rfl ?_) | (show Does _ (.assign _) _ _ _ _; refine does_assign rfl ?_)); intro a h; (try simp only [Value.cells, List.toList_toArray, splice, List.set_cons_zero, List.set_cons_succ, List.drop_zero, List.drop_succ_cons, List.take_succ_cons, List.take_zero, Nat.zero_add, Nat.reduceAdd, Nat.reduceMul, Int.reduceAdd, Int.reduceToNat, Int.reduceTMod, Nat.zero_mul, Nat.one_mul, Int.toNat_natCast] at h)))
    refine k_thenN ⟨(m / 10, strOfNums [48 + (m : Int).tmod 10] ++ acc), ⟨⟨by show m / 10 ≤ n; omega, ?_⟩, hm.drop, h.keep ⟨rfl, rfl, trivial⟩⟩, by show m / 10 < m; omega⟩
    rw [← hd, dTx_big (show 10 ≤ m by omega), ← ByteArray.append_assoc]
    rfl
  · repeat' (first | refine c_seq ?_ | refine c_region ?_ | refine c_nil ?_ | refine k_then ?_ | refine k_thenE ?_ | refine k_inE ?_ | refine c_exit ?_ | refine c_condF h rfl ?_ | ((refine st_op rfl rfl h ?_); clear h a; (first | (show Does _ (.move _) _ _ _ _; refine does_move rfl ?_) | (show Does _ (.binOp _ _ _ _ _) _ _ _ _; (first | refine does_gtrF rfl rfl (by omega) ?_ | refine does_add rfl rfl (by omega) ?_))); intro a h; (try simp only [Value.cells, List.toList_toArray, splice, List.set_cons_zero, List.set_cons_succ, List.drop_zero, List.drop_succ_cons, List.take_succ_cons, List.take_zero, Nat.zero_add, Nat.reduceAdd, Nat.reduceMul, Int.reduceAdd, Int.reduceToNat, Int.reduceTMod, Nat.zero_mul, Nat.one_mul, Int.toNat_natCast] at h)))
    refine st_op rfl rfl h ?_; clear h a; refine does_convU8 Tryz.underlying3 Tryz.underlying5 rfl (by omega) ?_; intro a h
    repeat' (first | refine c_nil ?_ | refine k_then ?_ | refine c_ret ?_ | ((refine st_op rfl rfl h ?_); clear h a; (first | (show Does _ (.convert _ _ _) _ _ _ _; ((refine does_bytes1 0 Tryz.underlying87 Tryz.underlying5 Tryz.underlying9 hm rfl rfl ?_))) | (show Does _ (.binOp _ _ _ _ _) _ _ _ _; (((refine does_addStr rfl rfl (by omega) ?_)))) | (show Does _ (.buildSlice _ _ _) _ _ _ _; (refine does_buildSlice hm rfl rfl rfl ?_; clear hm; intro b w hm; (try simp only [rep, List.replicate_succ, List.replicate_zero, List.flatten_cons, List.flatten_nil, List.cons_append, List.nil_append, Nat.zero_mul, Nat.one_mul, Nat.reduceMul, Value.cells, List.toList_toArray, List.set_cons_zero, List.set_cons_succ, splice, Nat.zero_add, Nat.reduceAdd, Nat.reduceMul, Int.reduceAdd, Int.reduceToNat, Nat.zero_mul, Nat.one_mul, Int.toNat_natCast] at hm))) | (show Does _ (.move _) _ _ _ _; refine does_move rfl ?_) | (show Does _ (.assign _) _ _ _ _; refine does_assign rfl ?_)); intro a h; (try simp only [Value.cells, List.toList_toArray, splice, List.set_cons_zero, List.set_cons_succ, List.drop_zero, List.drop_succ_cons, List.take_succ_cons, List.take_zero, Nat.zero_add, Nat.reduceAdd, Nat.reduceMul, Int.reduceAdd, Int.reduceToNat, Int.reduceTMod, Nat.zero_mul, Nat.one_mul, Int.toNat_natCast] at h)))
    (refine k_ret1 rfl h rfl ⟨?_, hm.below⟩)
    rw [← hd, dTx_small (show m < 10 by omega)]
    rfl
theorem sFormatInt_posI (n : Int) (hn : 0 ≤ n ∧ n ≤ 1000000000) : Fun Tryz.prog 15 [I n] (.string (dTx n.toNat)) := by
  obtain ⟨k, rfl⟩ : ∃ k : Nat, n = k := ⟨n.toNat, by omega⟩
  exact sFormatInt_pos k (by omega)
set_option maxHeartbeats 4000000 in
theorem sFormatInt_ok (n : Int) (hn : -1000000000 ≤ n ∧ n ≤ 1000000000) : Fun Tryz.prog 15 [I n] (.string (iTx n)) := by
  by_cases h0 : 0 ≤ n
  · obtain ⟨k, rfl⟩ : ∃ k : Nat, n = k := ⟨n.toNat, by omega⟩
    rw [iTx_pos]
    exact sFormatInt_pos k (by omega)
  · refine enterFun Tryz.func15 rfl Tryz.ntmps15 rfl (fun W0 w a hm h => ?_)
    have hbd := decDigits_bd 10 (-n).toNat (by omega) (by omega)
    have hsz : (dTx (-n).toNat).size = _ := bs_size (Lib.decDigits (-n).toNat)
    have hs1 : (⟨#[45]⟩ : ByteArray).size = 1 := rfl
    repeat' (first | refine c_seq ?_ | refine c_region ?_ | refine c_nil ?_ | refine k_then ?_ | refine k_thenR ?_ | refine c_skip ?_ | refine c_ret ?_ | refine c_condT h rfl ?_ | ((refine st_op rfl rfl h ?_); clear h a; (first | (show Does _ (.call _) _ _ _ _; (first | ((refine does_funM hm en15 rfl (sFormatInt_posI (-n) (by omega)) ?_; clear hm; intro w hm)) | (refine does_funM hm en42 rfl (sIn_ok _ _ _) ?_; clear hm; intro w hm))) | (show Does _ (.binOp _ _ _ _ _) _ _ _ _; (first | ((refine does_addStr rfl rfl (by omega) ?_)) | refine does_lssT rfl rfl (by omega) ?_)) | (show Does _ (.move _) _ _ _ _; refine does_move rfl ?_) | (show Does _ (.assign _) _ _ _ _; refine does_assign rfl ?_) | (show Does _ (.unOp _ _ _) _ _ _ _; (first | refine does_notD rfl ?_ | refine does_neg rfl (by omega) ?_))); intro a h; (try simp only [Value.cells, List.toList_toArray, splice, List.set_cons_zero, List.set_cons_succ, List.drop_zero, List.drop_succ_cons, List.take_succ_cons, List.take_zero, Nat.zero_add, Nat.reduceAdd, Nat.reduceMul, Int.reduceAdd, Int.reduceToNat, Int.reduceTMod, Nat.zero_mul, Nat.one_mul, Int.toNat_natCast] at h)) | ((refine c_condD h rfl ?_ ?_) <;> intro hc <;> (try (fail))))
    all_goals first | (exfalso; omega) | skip
    all_goals (refine k_ret1 rfl h rfl ⟨?_, hm.below⟩)
    obtain ⟨k, rfl⟩ : ∃ k : Nat, n = -(k : Int) := ⟨(-n).toNat, by omega⟩
    rw [iTx_neg (show 0 < k by omega), show (- -(k : Int)).toNat = k by omega]
end Go.Proofs.YtgmonjghbjaadaaGreatDoor.St
end
