/-
  The first assignment to each name, as a map; nodes as values of their own types.
-/
import Derived.Test.YtnclbllhflinfaaLOws
import Derived.Test.YtnclbllhflinfaaStMap
import Derived.Test.YtnclbllhflinfaaJ2
set_option linter.unusedSimpArgs false
set_option linter.unusedVariables false
namespace Go.Proofs.Ytnclbllhflinfaa.St
open Go.RowKit
/-- the first of k assignments to a name -/
def firstA (ys : List TAssignment) : Nat → ByteArray → Option Int
  | 0, _ => none
  | k + 1, s => match firstA ys k s with
    | some v => some v
    | none => if (ys[k]?.map Prod.fst) = some s then some (k : Int) else none
theorem firstA_bd {ys : List TAssignment} : ∀ {k : Nat} {s : ByteArray} {v : Int}, firstA ys k s = some v → ∃ j : Nat, v = j ∧ j < k ∧ (ys[j]?.map Prod.fst) = some s
  | 0, s, v, h => by simp [firstA] at h
  | k + 1, s, v, h => by
    simp only [firstA] at h
    cases hf : firstA ys k s with
    | some u =>
      rw [hf] at h
      cases h
      obtain ⟨j, h1, h2, h3⟩ := firstA_bd hf
      exact ⟨j, h1, by omega, h3⟩
    | none =>
      rw [hf] at h
      simp only at h
      split at h
      · cases h
        exact ⟨k, rfl, by omega, by assumption⟩
      · cases h
structure AssignedR (ys : List TAssignment) (v : Value) (N : Heap) : Prop where
  out : ∃ b o, v = .map (some b) ∧ N b = some o ∧ MapS o (firstA ys ys.length)
instance (ys : List TAssignment) : MonoR (AssignedR ys) := ⟨fun _ _ _ hle ⟨⟨b, o, h0, h1, h2⟩⟩ => ⟨⟨b, o, h0, hle _ _ h1, h2⟩⟩⟩
set_option maxHeartbeats 4000000 in
theorem assigned_ok (p q : Option Addr) (xs : List TNode) (ys : List TAssignment) (c d : Nat) (hys : ys.length ≤ 1048576) :
    FunR Try.prog 13 [.agg #[.slice p xs.length c, .slice q ys.length d]] (fun H => ProgH H p q xs ys) (AssignedR ys) := by
  refine enterFunR Try.func13 rfl Try.ntmps13 rfl (fun W0 w a hp hm h => ?_)
  obtain ⟨hx, hy⟩ := hp
  repeat' (first | refine c_seq ?_ | refine c_region ?_ | refine c_nil ?_ | refine k_then ?_ | refine k_thenL ?_ | refine k_thenR ?_ | refine k_thenE ?_ | refine k_inN ?_ | refine k_inR ?_ | refine k_inE ?_ | refine k_inO rfl ?_ | refine c_skip ?_ | refine c_ret ?_ | refine c_exit ?_ | refine c_block ?_ | refine r_succ ?_ | refine c_condT h rfl ?_ | refine c_condF h rfl ?_ | ((first | (refine st_op (d := 1) rfl rfl h ?_; refine does_box hm rfl rfl ?_; clear h a hm; intro b_1 w hm a h) | (refine st_op (d := 5) rfl rfl h ?_; refine does_alloc hm ?_; clear h a hm; intro b_5 w hm a h)); (try simp only [Value.cells, splice, nz, Nat.reduceAdd, Nat.reduceMul, Int.reduceAdd, Int.reduceToNat, Int.reduceTMod] at h)) | ((first | refine st_op rfl rfl h ?_ | refine st_opn rfl h ?_); clear h a; (first | (show Does _ (.makeMap _ _) _ _ _ _; ((refine does_makeMap hm ?_; clear hm; intro b w hm))) | (show Does _ (.box _ _) _ _ _ _; (refine does_box hm rfl rfl ?_; clear hm; intro b w hm)) | (show Does _ (.alloc _) _ _ _ _; (refine does_alloc hm ?_; clear hm; intro b w hm)) | (show Does _ (.store _ _ _) _ _ _ _; ((first | refine zs hm rfl rfl rfl rfl rfl rfl ?_ | refine does_storeM 0 hm rfl rfl rfl (by assumption) (by omega) rfl rfl rfl rfl ?_ | refine does_storeM0 0 hm rfl rfl rfl (by assumption) (by omega) rfl rfl rfl rfl ?_); clear hm; intro w hm; (try simp only [Value.cells, splice, nz, ns, Nat.reduceAdd, Nat.reduceMul, Int.reduceAdd, Int.reduceToNat] at hm))) | (show Does _ (.move _) _ _ _ _; refine does_move rfl ?_) | (show Does _ (.assign _) _ _ _ _; refine does_assign rfl ?_) | (show Does _ (.fieldAddr _ _ _) _ _ _ _; (first | refine does_fieldAddrL rfl ?_ | refine does_fieldAddr rfl ?_)) | (show Does _ (.load _ _) _ _ _ _; (first | refine zl hm rfl rfl ?_ | refine za hm rfl rfl ?_ | refine does_loadB hm rfl (by assumption) rfl ?_ | refine does_loadBA hm rfl (by assumption) rfl ?_ | refine does_loadB hm rfl (At.add (by assumption) _) rfl ?_)) | (show Does _ (.binOp _ _ _ _ _) _ _ _ _; (first | refine zlss rfl rfl ?_ | refine zadd rfl rfl ?_)) | (show Does _ (.unOp _ _ _) _ _ _ _; (first | refine does_notD rfl ?_ | refine does_not rfl ?_)) | (show Does _ (.call _) _ _ _ _; refine does_lenS (SliceT.out) rfl ?_) | (show Does _ (.indexAddr _ _ _) _ _ _ _; (first | refine ziSL1 rfl rfl ?_ | refine ziSLn rfl rfl ?_ | refine ziSL rfl rfl ?_ | refine ziS1 rfl rfl ?_ | refine ziSn rfl rfl ?_ | refine ziS1m rfl rfl ?_ | refine ziS rfl rfl ?_ | refine ziPL rfl rfl ?_ | refine ziP rfl rfl ?_)) | (show Does _ (.extract _ _) _ _ _ _; refine does_extract rfl rfl ?_)); intro a h; (try simp only [Value.cells, splice, nz, Nat.reduceAdd, Nat.reduceMul, Int.reduceAdd, Int.reduceToNat, Int.reduceTMod] at h)) | ((first | refine st_skip rfl rfl h ?_ | refine st_skipn rfl h ?_); clear h a; intro a h) | ((first | refine c_condD h rfl ?_ ?_ | refine c_cond h rfl ?_ ?_) <;> intro hc <;> (try (first | exact absurd trivial hc | exact absurd rfl hc))) | (refine st_guardD rfl rfl h ?_ ?_ <;> clear h <;> intro hc h))
  refine c_loop (σ := Nat × Obj) (fun s a w => s.1 ≤ ys.length ∧ MapS s.2 (firstA ys s.1) ∧ Mem W0 [] (fun b => W0.heap[b]?) [.blk b s.2, .blk b_1 (.cells [.slice p xs.length c, .slice q ys.length d].toArray 26)] w ∧
    Holds [(1, ptr0 b_1), (3, .map (some b)), (10, .slice q ys.length d), (11, .int .i64 ys.length), (12, .int .i64 s.1)] _ a) (fun s => ys.length - s.1) (0, .map #[] 0)
    ⟨Nat.zero_le _, MapS.new, hm, h.keep ⟨rfl, rfl, rfl, rfl, rfl, trivial⟩⟩ ?_
  clear h hm
  rintro ⟨k, o⟩ a w ⟨hk, hM, hm, h⟩
  simp only at hk hM hm h
  by_cases hlt : k < ys.length
  · obtain ⟨q1, rfl, hat1⟩ := hy.at hlt
    have g1 : ys[k]? = some ys[k] := List.getElem?_eq_getElem hlt
    have hstep : ∀ s, firstA ys (k + 1) s = match firstA ys k s with | some v => some v | none => if ys[k].1 = s then some (k : Int) else none := fun s => by
      simp only [firstA, g1, Option.map_some, Option.some.injEq]
    cases hf : firstA ys k ys[k].1 with
    | some v =>
      repeat' (first | refine c_seq ?_ | refine c_region ?_ | refine c_nil ?_ | refine k_then ?_ | refine k_thenL ?_ | refine k_thenR ?_ | refine k_thenE ?_ | refine k_inN ?_ | refine k_inR ?_ | refine k_inE ?_ | refine k_inO rfl ?_ | refine c_skip ?_ | refine c_ret ?_ | refine c_exit ?_ | refine c_block ?_ | refine r_succ ?_ | refine c_condT h rfl ?_ | refine c_condF h rfl ?_ | ((first | (refine st_op (d := 1) rfl rfl h ?_; refine does_box hm rfl rfl ?_; clear h a hm; intro b_1 w hm a h) | (refine st_op (d := 5) rfl rfl h ?_; refine does_alloc hm ?_; clear h a hm; intro b_5 w hm a h)); (try simp only [Value.cells, splice, nz, Nat.reduceAdd, Nat.reduceMul, Int.reduceAdd, Int.reduceToNat, Int.reduceTMod] at h)) | ((first | refine st_op rfl rfl h ?_ | refine st_opn rfl h ?_); clear h a; (first | (show Does _ (.lookup _ _ _ _) _ _ _ _; ((refine does_lookupYs hf Try.underlying41 Try.underlying9 (mem_idx (i := 1) hm rfl) hM rfl rfl ?_))) | (show Does _ (.box _ _) _ _ _ _; (refine does_box hm rfl rfl ?_; clear hm; intro b w hm)) | (show Does _ (.alloc _) _ _ _ _; (refine does_alloc hm ?_; clear hm; intro b w hm)) | (show Does _ (.store _ _ _) _ _ _ _; ((first | refine zs hm rfl rfl rfl rfl rfl rfl ?_ | refine does_storeM 0 hm rfl rfl rfl (by assumption) (by omega) rfl rfl rfl rfl ?_ | refine does_storeM0 0 hm rfl rfl rfl (by assumption) (by omega) rfl rfl rfl rfl ?_); clear hm; intro w hm; (try simp only [Value.cells, splice, nz, ns, Nat.reduceAdd, Nat.reduceMul, Int.reduceAdd, Int.reduceToNat] at hm))) | (show Does _ (.move _) _ _ _ _; refine does_move rfl ?_) | (show Does _ (.assign _) _ _ _ _; refine does_assign rfl ?_) | (show Does _ (.fieldAddr _ _ _) _ _ _ _; (first | refine does_fieldAddrL rfl ?_ | refine does_fieldAddr rfl ?_)) | (show Does _ (.load _ _) _ _ _ _; (first | refine zl hm rfl rfl ?_ | refine za hm rfl rfl ?_ | refine does_loadB hm rfl (by assumption) rfl ?_ | refine does_loadBA hm rfl (by assumption) rfl ?_ | refine does_loadB hm rfl (At.add (by assumption) _) rfl ?_)) | (show Does _ (.binOp _ _ _ _ _) _ _ _ _; (first | refine zlss rfl rfl ?_ | refine zadd rfl rfl ?_)) | (show Does _ (.unOp _ _ _) _ _ _ _; (first | refine does_notD rfl ?_ | refine does_not rfl ?_)) | (show Does _ (.call _) _ _ _ _; refine does_lenS (SliceT.out) rfl ?_) | (show Does _ (.indexAddr _ _ _) _ _ _ _; (first | refine ziSL1 rfl rfl ?_ | refine ziSLn rfl rfl ?_ | refine ziSL rfl rfl ?_ | refine ziS1 rfl rfl ?_ | refine ziSn rfl rfl ?_ | refine ziS1m rfl rfl ?_ | refine ziS rfl rfl ?_ | refine ziPL rfl rfl ?_ | refine ziP rfl rfl ?_)) | (show Does _ (.extract _ _) _ _ _ _; refine does_extract rfl rfl ?_)); intro a h; (try simp only [Value.cells, splice, nz, Nat.reduceAdd, Nat.reduceMul, Int.reduceAdd, Int.reduceToNat, Int.reduceTMod] at h)) | ((first | refine st_skip rfl rfl h ?_ | refine st_skipn rfl h ?_); clear h a; intro a h) | ((first | refine c_condD h rfl ?_ ?_ | refine c_cond h rfl ?_ ?_) <;> intro hc <;> (try (first | exact absurd trivial hc | exact absurd rfl hc))) | (refine st_guardD rfl rfl h ?_ ?_ <;> clear h <;> intro hc h))
      have hMs : MapS o (firstA ys (k + 1)) := by
        have e : firstA ys (k + 1) = firstA ys k := funext fun s => by
          rw [hstep]
          cases hs : firstA ys k s with
          | some u => rfl
          | none =>
            simp only
            rw [if_neg]
            rintro rfl
            rw [hf] at hs
            cases hs
        rw [e]
        exact hM
      exact k_thenN ⟨(k + 1, o), ⟨by omega, hMs, hm.drop, h.keep ⟨rfl, rfl, rfl, rfl, rfl, trivial⟩⟩, by show ys.length - (k + 1) < ys.length - k; omega⟩
    | none =>
      repeat' (first | refine c_seq ?_ | refine c_region ?_ | refine c_nil ?_ | refine k_then ?_ | refine k_thenL ?_ | refine k_thenR ?_ | refine k_thenE ?_ | refine k_inN ?_ | refine k_inR ?_ | refine k_inE ?_ | refine k_inO rfl ?_ | refine c_skip ?_ | refine c_ret ?_ | refine c_exit ?_ | refine c_block ?_ | refine r_succ ?_ | refine c_condT h rfl ?_ | refine c_condF h rfl ?_ | ((first | (refine st_op (d := 1) rfl rfl h ?_; refine does_box hm rfl rfl ?_; clear h a hm; intro b_1 w hm a h) | (refine st_op (d := 5) rfl rfl h ?_; refine does_alloc hm ?_; clear h a hm; intro b_5 w hm a h)); (try simp only [Value.cells, splice, nz, Nat.reduceAdd, Nat.reduceMul, Int.reduceAdd, Int.reduceToNat, Int.reduceTMod] at h)) | ((first | refine st_op rfl rfl h ?_ | refine st_opn rfl h ?_); clear h a; (first | (show Does _ (.lookup _ _ _ _) _ _ _ _; ((refine does_lookupYn hf Try.underlying41 Try.underlying9 (mem_idx (i := 1) hm rfl) hM rfl rfl ?_))) | (show Does _ (.mapUpdate _ _ _ _) _ _ _ _; ((refine does_mapNew 1 hm Try.underlying41 Try.underlying9 rfl rfl rfl rfl hM hf ?_; clear hm; intro o2 w hM2 hm; simp only [List.set_cons_succ, List.set_cons_zero] at hm))) | (show Does _ (.box _ _) _ _ _ _; (refine does_box hm rfl rfl ?_; clear hm; intro b w hm)) | (show Does _ (.alloc _) _ _ _ _; (refine does_alloc hm ?_; clear hm; intro b w hm)) | (show Does _ (.store _ _ _) _ _ _ _; ((first | refine zs hm rfl rfl rfl rfl rfl rfl ?_ | refine does_storeM 0 hm rfl rfl rfl (by assumption) (by omega) rfl rfl rfl rfl ?_ | refine does_storeM0 0 hm rfl rfl rfl (by assumption) (by omega) rfl rfl rfl rfl ?_); clear hm; intro w hm; (try simp only [Value.cells, splice, nz, ns, Nat.reduceAdd, Nat.reduceMul, Int.reduceAdd, Int.reduceToNat] at hm))) | (show Does _ (.move _) _ _ _ _; refine does_move rfl ?_) | (show Does _ (.assign _) _ _ _ _; refine does_assign rfl ?_) | (show Does _ (.fieldAddr _ _ _) _ _ _ _; (first | refine does_fieldAddrL rfl ?_ | refine does_fieldAddr rfl ?_)) | (show Does _ (.load _ _) _ _ _ _; (first | refine zl hm rfl rfl ?_ | refine za hm rfl rfl ?_ | refine does_loadB hm rfl (by assumption) rfl ?_ | refine does_loadBA hm rfl (by assumption) rfl ?_ | refine does_loadB hm rfl (At.add (by assumption) _) rfl ?_)) | (show Does _ (.binOp _ _ _ _ _) _ _ _ _; (first | refine zlss rfl rfl ?_ | refine zadd rfl rfl ?_)) | (show Does _ (.unOp _ _ _) _ _ _ _; (first | refine does_notD rfl ?_ | refine does_not rfl ?_)) | (show Does _ (.call _) _ _ _ _; refine does_lenS (SliceT.out) rfl ?_) | (show Does _ (.indexAddr _ _ _) _ _ _ _; (first | refine ziSL1 rfl rfl ?_ | refine ziSLn rfl rfl ?_ | refine ziSL rfl rfl ?_ | refine ziS1 rfl rfl ?_ | refine ziSn rfl rfl ?_ | refine ziS1m rfl rfl ?_ | refine ziS rfl rfl ?_ | refine ziPL rfl rfl ?_ | refine ziP rfl rfl ?_)) | (show Does _ (.extract _ _) _ _ _ _; refine does_extract rfl rfl ?_)); intro a h; (try simp only [Value.cells, splice, nz, Nat.reduceAdd, Nat.reduceMul, Int.reduceAdd, Int.reduceToNat, Int.reduceTMod] at h)) | ((first | refine st_skip rfl rfl h ?_ | refine st_skipn rfl h ?_); clear h a; intro a h) | ((first | refine c_condD h rfl ?_ ?_ | refine c_cond h rfl ?_ ?_) <;> intro hc <;> (try (first | exact absurd trivial hc | exact absurd rfl hc))) | (refine st_guardD rfl rfl h ?_ ?_ <;> clear h <;> intro hc h))
      have hMs : MapS o2 (firstA ys (k + 1)) := by
        have e : firstA ys (k + 1) = fun s' => if s' = ys[k].1 then some (k : Int) else firstA ys k s' := funext fun s => by
          rw [hstep]
          by_cases hs : s = ys[k].1
          · subst hs
            simp [hf]
          · have : ¬ ys[k].1 = s := fun e => hs e.symm
            simp only [this, hs, if_false]
            cases firstA ys k s <;> rfl
        rw [e]
        exact hM2
      exact k_thenN ⟨(k + 1, o2), ⟨by omega, hMs, hm.drop, h.keep ⟨rfl, rfl, rfl, rfl, rfl, trivial⟩⟩, by show ys.length - (k + 1) < ys.length - k; omega⟩
  · obtain rfl : k = ys.length := by omega
    repeat' (first | refine c_seq ?_ | refine c_region ?_ | refine c_nil ?_ | refine k_then ?_ | refine k_thenL ?_ | refine k_thenR ?_ | refine k_thenE ?_ | refine k_inN ?_ | refine k_inR ?_ | refine k_inE ?_ | refine k_inO rfl ?_ | refine c_skip ?_ | refine c_ret ?_ | refine c_exit ?_ | refine c_block ?_ | refine r_succ ?_ | refine c_condT h rfl ?_ | refine c_condF h rfl ?_ | ((first | (refine st_op (d := 1) rfl rfl h ?_; refine does_box hm rfl rfl ?_; clear h a hm; intro b_1 w hm a h) | (refine st_op (d := 5) rfl rfl h ?_; refine does_alloc hm ?_; clear h a hm; intro b_5 w hm a h)); (try simp only [Value.cells, splice, nz, Nat.reduceAdd, Nat.reduceMul, Int.reduceAdd, Int.reduceToNat, Int.reduceTMod] at h)) | ((first | refine st_op rfl rfl h ?_ | refine st_opn rfl h ?_); clear h a; (first | (show Does _ (.box _ _) _ _ _ _; (refine does_box hm rfl rfl ?_; clear hm; intro b w hm)) | (show Does _ (.alloc _) _ _ _ _; (refine does_alloc hm ?_; clear hm; intro b w hm)) | (show Does _ (.store _ _ _) _ _ _ _; ((first | refine zs hm rfl rfl rfl rfl rfl rfl ?_ | refine does_storeM 0 hm rfl rfl rfl (by assumption) (by omega) rfl rfl rfl rfl ?_ | refine does_storeM0 0 hm rfl rfl rfl (by assumption) (by omega) rfl rfl rfl rfl ?_); clear hm; intro w hm; (try simp only [Value.cells, splice, nz, ns, Nat.reduceAdd, Nat.reduceMul, Int.reduceAdd, Int.reduceToNat] at hm))) | (show Does _ (.move _) _ _ _ _; refine does_move rfl ?_) | (show Does _ (.assign _) _ _ _ _; refine does_assign rfl ?_) | (show Does _ (.fieldAddr _ _ _) _ _ _ _; (first | refine does_fieldAddrL rfl ?_ | refine does_fieldAddr rfl ?_)) | (show Does _ (.load _ _) _ _ _ _; (first | refine zl hm rfl rfl ?_ | refine za hm rfl rfl ?_ | refine does_loadB hm rfl (by assumption) rfl ?_ | refine does_loadBA hm rfl (by assumption) rfl ?_ | refine does_loadB hm rfl (At.add (by assumption) _) rfl ?_)) | (show Does _ (.binOp _ _ _ _ _) _ _ _ _; (first | refine zlss rfl rfl ?_ | refine zadd rfl rfl ?_)) | (show Does _ (.unOp _ _ _) _ _ _ _; (first | refine does_notD rfl ?_ | refine does_not rfl ?_)) | (show Does _ (.call _) _ _ _ _; refine does_lenS (SliceT.out) rfl ?_) | (show Does _ (.indexAddr _ _ _) _ _ _ _; (first | refine ziSL1 rfl rfl ?_ | refine ziSLn rfl rfl ?_ | refine ziSL rfl rfl ?_ | refine ziS1 rfl rfl ?_ | refine ziSn rfl rfl ?_ | refine ziS1m rfl rfl ?_ | refine ziS rfl rfl ?_ | refine ziPL rfl rfl ?_ | refine ziP rfl rfl ?_)) | (show Does _ (.extract _ _) _ _ _ _; refine does_extract rfl rfl ?_)); intro a h; (try simp only [Value.cells, splice, nz, Nat.reduceAdd, Nat.reduceMul, Int.reduceAdd, Int.reduceToNat, Int.reduceTMod] at h)) | ((first | refine st_skip rfl rfl h ?_ | refine st_skipn rfl h ?_); clear h a; intro a h) | ((first | refine c_condD h rfl ?_ ?_ | refine c_cond h rfl ?_ ?_) <;> intro hc <;> (try (first | exact absurd trivial hc | exact absurd rfl hc))) | (refine st_guardD rfl rfl h ?_ ?_ <;> clear h <;> intro hc h))
    exact k_ret1 rfl h rfl ⟨hm.below, ⟨⟨b, o, rfl, hm.newB (i := 0) rfl, hM⟩⟩⟩
end Go.Proofs.Ytnclbllhflinfaa.St
