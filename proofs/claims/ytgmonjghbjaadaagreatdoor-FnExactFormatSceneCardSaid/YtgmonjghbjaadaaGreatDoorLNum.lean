/-
  Contracts for slices of integers, as rows of one cell an element.
-/
import Derived.Test.YtgmonjghbjaadaaGreatDoorScal
import Derived.Test.YtgmonjghbjaadaaGreatDoorJ1
import Derived.Test.YtgmonjghbjaadaaGreatDoorJ3
set_option linter.unusedSimpArgs false
set_option linter.unusedVariables false
namespace Go.Proofs.YtgmonjghbjaadaaGreatDoor.St
open Go.RowKit Go.WideShapes
abbrev eI (n : Int) : List Value := [I n]

theorem eq_upto {α : Type} {xs ys : List α} (hl : xs.length = ys.length) {k : Nat} (hk : ¬ k < xs.length) (h : ∀ i, i < k → xs[i]? = ys[i]?) : xs = ys := by
  apply List.ext_getElem?
  intro i
  by_cases hi : i < k
  · exact h i hi
  · rw [List.getElem?_eq_none (by omega), List.getElem?_eq_none (by omega)]
theorem Sl.at1 {B : Heap} {p : Option Addr} {xs : List Int} (h : Sl B p eI 1 xs) {k : Nat} (hk : k < xs.length) : ∃ a, p = some a ∧ At B (a.add k) [I xs[k]] := by
  obtain ⟨a, ha, hat⟩ := h.at hk
  rw [Nat.mul_one] at hat
  exact ⟨a, ha, hat⟩

set_option maxHeartbeats 2000000 in
theorem szIntS_ok (p : Option Addr) (n c : Nat) (left : Int) (hn : n ≤ 9223372036854775807) (hl : 0 ≤ left ∧ left ≤ 1048576) : Fun Tryz.prog 36 [.slice p n c, I left] (I (if left - n < 0 then -1 else left - n)) := by
  refine enterFun Tryz.func36 rfl Tryz.ntmps36 rfl (fun W0 w a hm h => ?_)
  repeat' (first | refine c_seq ?_ | refine c_region ?_ | refine c_nil ?_ | refine k_then ?_ | refine k_thenR ?_ | refine c_skip ?_ | refine c_ret ?_ | ((refine st_op rfl rfl h ?_); clear h a; (first | (show Does _ (.move _) _ _ _ _; refine does_move rfl ?_) | (show Does _ (.assign _) _ _ _ _; refine does_assign rfl ?_) | (show Does _ (.binOp _ _ _ _ _) _ _ _ _; (first | refine zlss rfl rfl ?_ | refine zsub rfl rfl ?_)) | (show Does _ (.call _) _ _ _ _; refine does_lenS (SliceT.out) rfl ?_)); intro a h; (try simp only [Value.cells, splice, nz, Nat.reduceAdd, Nat.reduceMul, Int.reduceAdd, Int.reduceToNat, Int.reduceTMod] at h)) | ((refine c_condD h rfl ?_ ?_) <;> intro hc <;> (try (fail))))
  all_goals (refine k_ret1 rfl h rfl ⟨?_, hm.below⟩)
  all_goals (exact intE (by omega))
set_option maxHeartbeats 2000000 in
theorem toIntN_ok (p : Option Addr) (xs : List Int) (c : Nat) (hxs : xs.length ≤ 35184372088832) : FunN Tryz.prog 48 [.slice p xs.length c] (fun H => Sl H p eI 1 xs) 3 1 (xs.map eI).flatten := by
  refine enterFunN Tryz.func48 rfl Tryz.ntmps48 rfl (fun W0 w a hx hm h => ?_)
  repeat' (first | refine c_seq ?_ | refine c_region ?_ | refine c_nil ?_ | refine k_then ?_ | refine c_block ?_ | ((refine st_op rfl rfl h ?_); clear h a; (first | (show Does _ (.makeSlice _ _ _) _ _ _ _; ((refine does_make hm rfl rfl (by omega) (by omega) ?_; clear hm; intro b w hm))) | (show Does _ (.move _) _ _ _ _; refine does_move rfl ?_) | (show Does _ (.assign _) _ _ _ _; refine does_assign rfl ?_) | (show Does _ (.call _) _ _ _ _; refine does_lenS (SliceT.out) rfl ?_)); intro a h; (try simp only [Value.cells, splice, nz, Nat.reduceAdd, Nat.reduceMul, Int.reduceAdd, Int.reduceToNat, Int.reduceTMod] at h)))
  rw [fillTo_nil] at hm
  refine c_loop (σ := Nat) (fun k a w => k ≤ xs.length ∧ Mem W0 [] (fun b => W0.heap[b]?) [.blk b (.cells (fillTo xs.length [I 0] ((xs.take k).map eI)).toArray 3)] w ∧ Holds [(0, .slice p xs.length c), (3, .slice (some ⟨b, 0, none⟩) xs.length xs.length), (4, .int .i64 k)] _ a) (fun k => xs.length - k) 0
    ⟨Nat.zero_le _, by simpa using hm, h.keep ⟨rfl, rfl, rfl, trivial⟩⟩ ?_
  clear h hm
  rintro k a w ⟨hk, hm, h⟩
  by_cases hlt : k < xs.length
  · obtain ⟨q1, rfl, hat1⟩ := hx.at1 hlt
    have hcl := take_map_len eI hk
    have hal := oneLen eI 1 (fun _ => rfl) (xs.take k)
    repeat' (first | refine c_seq ?_ | refine c_region ?_ | refine c_nil ?_ | refine k_then ?_ | refine k_inN ?_ | refine c_skip ?_ | refine c_block ?_ | refine c_condT h rfl ?_ | ((first | refine st_op rfl rfl h ?_ | refine st_opn rfl h ?_); clear h a; (first | (show Does _ (.store _ _ _) _ _ _ _; ((refine does_storeF 0 hm rfl rfl rfl (by assumption) (by assumption) rfl rfl rfl rfl (by omega) (by omega) ?_); clear hm; intro w hm; (try simp only [Value.cells, splice, nz, ns, Nat.reduceAdd, Nat.reduceMul, Int.reduceAdd, Int.reduceToNat] at hm))) | (show Does _ (.move _) _ _ _ _; refine does_move rfl ?_) | (show Does _ (.assign _) _ _ _ _; refine does_assign rfl ?_) | (show Does _ (.load _ _) _ _ _ _; (refine does_loadB hm rfl (by assumption) rfl ?_)) | (show Does _ (.binOp _ _ _ _ _) _ _ _ _; (first | refine zlss rfl rfl ?_ | refine zadd rfl rfl ?_)) | (show Does _ (.call _) _ _ _ _; refine does_lenS (SliceT.out) rfl ?_) | (show Does _ (.indexAddr _ _ _) _ _ _ _; (first | refine ziSL1 rfl rfl ?_ | refine ziS1 rfl rfl ?_))); intro a h; (try simp only [Value.cells, splice, nz, Nat.reduceAdd, Nat.reduceMul, Int.reduceAdd, Int.reduceToNat, Int.reduceTMod] at h)))
    rw [take_map_snoc eI hlt] at hm
    exact k_thenN ⟨k + 1, ⟨by omega, hm, h.keep ⟨rfl, rfl, rfl, trivial⟩⟩, by omega⟩
  · obtain rfl : k = xs.length := by omega
    rw [fillTo_full (by simp), List.take_length] at hm
    have hfl := flat_len (enc := eI) (sz := 1) (fun _ => rfl) xs
    replace hm := hm.toRow 0 (n := xs.length) (cap := 0) 1 rfl hfl (by simp only [maxLen]; omega)
    repeat' (first | refine c_seq ?_ | refine c_region ?_ | refine c_nil ?_ | refine k_then ?_ | refine k_thenE ?_ | refine k_inE ?_ | refine c_ret ?_ | refine c_exit ?_ | refine c_condF h rfl ?_ | ((refine st_op rfl rfl h ?_); clear h a; (first | (show Does _ (.move _) _ _ _ _; refine does_move rfl ?_) | (show Does _ (.assign _) _ _ _ _; refine does_assign rfl ?_) | (show Does _ (.binOp _ _ _ _ _) _ _ _ _; (refine zlss rfl rfl ?_)) | (show Does _ (.call _) _ _ _ _; refine does_lenS (SliceT.out) rfl ?_)); intro a h; (try simp only [Value.cells, splice, nz, Nat.reduceAdd, Nat.reduceMul, Int.reduceAdd, Int.reduceToNat, Int.reduceTMod] at h)))
    exact k_ret1 rfl h rfl ⟨hm.below, row_new (i := 0) hm rfl⟩
set_option maxHeartbeats 2000000 in
theorem eqIntN_ok (p q : Option Addr) (xs ys : List Int) (c d : Nat) (hxs : xs.length ≤ maxLen) : FunP Tryz.prog 67 [.slice p xs.length c, .slice q ys.length d] (fun H => Sl H p eI 1 xs ∧ Sl H q eI 1 ys) (.bool (dB (xs = ys))) := by
  refine enterFunP Tryz.func67 rfl Tryz.ntmps67 rfl (fun W0 w a hp hm h => ?_)
  obtain ⟨hx, hy⟩ := hp
  unfold maxLen at hxs
  repeat' (first | refine c_seq ?_ | refine c_region ?_ | refine c_nil ?_ | refine k_then ?_ | refine k_thenR ?_ | refine c_skip ?_ | refine c_ret ?_ | refine c_block ?_ | ((refine st_op rfl rfl h ?_); clear h a; (first | (show Does _ (.move _) _ _ _ _; refine does_move rfl ?_) | (show Does _ (.assign _) _ _ _ _; refine does_assign rfl ?_) | (show Does _ (.binOp _ _ _ _ _) _ _ _ _; (refine zneq rfl rfl ?_)) | (show Does _ (.call _) _ _ _ _; refine does_lenS (SliceT.out) rfl ?_)); intro a h; (try simp only [Value.cells, splice, nz, Nat.reduceAdd, Nat.reduceMul, Int.reduceAdd, Int.reduceToNat, Int.reduceTMod] at h)) | ((refine c_condD h rfl ?_ ?_) <;> intro hc <;> (try (fail))))
  · (refine k_ret1 rfl h rfl ⟨?_, hm.below⟩)
    exact boolF (fun e => hc (by rw [e]))
  · have hl : xs.length = ys.length := by omega
    refine c_loop (σ := Nat) (fun k a w => k ≤ xs.length ∧ (∀ i, i < k → xs[i]? = ys[i]?) ∧ Mem W0 [] (fun b => W0.heap[b]?) [] w ∧ Holds [(0, .slice p xs.length c), (1, .slice q ys.length d), (5, .int .i64 k)] _ a) (fun k => xs.length - k) 0
      ⟨Nat.zero_le _, fun i hi => absurd hi (Nat.not_lt_zero _), hm, h.keep ⟨rfl, rfl, rfl, trivial⟩⟩ ?_
    clear h hm hc
    rintro k a w ⟨hk, hpre, hm, h⟩
    by_cases hlt : k < xs.length
    · obtain ⟨q1, rfl, hat1⟩ := hx.at1 hlt
      obtain ⟨q2, rfl, hat2⟩ := hy.at1 (k := k) (by omega)
      repeat' (first | refine c_seq ?_ | refine c_region ?_ | refine c_nil ?_ | refine k_then ?_ | refine k_thenR ?_ | refine k_inN ?_ | refine k_inR ?_ | refine c_skip ?_ | refine c_ret ?_ | refine c_block ?_ | refine c_condT h rfl ?_ | ((refine st_op rfl rfl h ?_); clear h a; (first | (show Does _ (.move _) _ _ _ _; refine does_move rfl ?_) | (show Does _ (.assign _) _ _ _ _; refine does_assign rfl ?_) | (show Does _ (.binOp _ _ _ _ _) _ _ _ _; (first | refine zlss rfl rfl ?_ | refine zadd rfl rfl ?_)) | (show Does _ (.call _) _ _ _ _; refine does_lenS (SliceT.out) rfl ?_)); intro a h; (try simp only [Value.cells, splice, nz, Nat.reduceAdd, Nat.reduceMul, Int.reduceAdd, Int.reduceToNat, Int.reduceTMod] at h)) | (apply c_drawM (id := 6) 9 [.val _, .val _, .val _, .val _, .val _, .val _, .val _, .val _, .val _] mixed (by kernel_rfl) (h := h) (hm := hm); (case vcs => (repeat' (first | exact vcs_nil | refine vcs_cons ?_ ?_ | (intro w hm; (repeat (first | refine dep_val ?_ | refine dep_nil ?_)); first | exact vc_skip rfl | exact vc_alloc rfl | exact vc_box rfl rfl rfl | exact vc_buildSlice rfl rfl rfl rfl | exact vc_makeSlice (by omega) (by omega) rfl rfl rfl | exact vc_store rfl rfl rfl rfl rfl rfl rfl rfl rfl rfl | (apply vc_run rfl; (first | (show Does _ (.move _) _ _ _ _; refine does_move rfl ?_) | (show Does _ (.load _ _) _ _ _ _; (refine does_loadB hm rfl (by assumption) rfl ?_)) | (show Does _ (.binOp _ _ _ _ _) _ _ _ _; (refine does_neq rfl rfl ?_)) | (show Does _ (.indexAddr _ _ _) _ _ _ _; (refine does_indexS1 (by omega) rfl rfl ?_))); (exact ⟨ext_refl _, rfl⟩)))))); (case hup => kernel_rfl); (case hown => kernel_rfl); (case hnp => kernel_rfl); clear h hm a; intro  w hm; (try simp only [List.map_nil, List.nil_append] at hm); (repeat (first | refine dep_val ?_ | refine dep_nil ?_)); intro a h; (try simp only [Value.cells, List.toList_toArray, splice, List.set_cons_zero, List.set_cons_succ, List.drop_zero, List.drop_succ_cons, List.take_succ_cons, List.take_zero, Nat.zero_add, Nat.reduceAdd, Nat.reduceMul, Int.reduceAdd, Int.reduceToNat, Int.reduceTMod, Nat.zero_mul, Nat.one_mul, Int.toNat_natCast] at h)) | ((refine c_condD h rfl ?_ ?_) <;> intro hc <;> (try (fail))))
      · (refine k_ret1 rfl h rfl ⟨?_, hm.below⟩)
        exact boolF (fun e => hc (by subst e; rfl))
      · refine k_thenN ⟨k + 1, ⟨by omega, fun i hi => ?_, hm, h.keep ⟨rfl, rfl, rfl, trivial⟩⟩, by omega⟩
        by_cases hik : i < k
        · exact hpre i hik
        · obtain rfl : i = k := by omega
          rw [List.getElem?_eq_getElem hlt, List.getElem?_eq_getElem (by omega : i < ys.length)]
          simpa using hc
    · repeat' (first | refine c_seq ?_ | refine c_region ?_ | refine c_nil ?_ | refine k_then ?_ | refine k_thenE ?_ | refine k_inE ?_ | refine c_ret ?_ | refine c_exit ?_ | refine c_condF h rfl ?_ | ((refine st_op rfl rfl h ?_); clear h a; (first | (show Does _ (.move _) _ _ _ _; refine does_move rfl ?_) | (show Does _ (.assign _) _ _ _ _; refine does_assign rfl ?_) | (show Does _ (.binOp _ _ _ _ _) _ _ _ _; (refine zlss rfl rfl ?_)) | (show Does _ (.call _) _ _ _ _; refine does_lenS (SliceT.out) rfl ?_)); intro a h; (try simp only [Value.cells, splice, nz, Nat.reduceAdd, Nat.reduceMul, Int.reduceAdd, Int.reduceToNat, Int.reduceTMod] at h)))
      (refine k_ret1 rfl h rfl ⟨?_, hm.below⟩)
      exact boolT (eq_upto hl hlt hpre)
def rampI (m : Int) (n : Nat) : List Int := (List.range n).map fun (i : Nat) => m + 1 * (i : Int)
theorem openIntN {H : Type} {enc : TypeId × Value → H} {P : Program} {w : World} {spare : Nat → Bool} {held : Bool} {t e : TypeId} {fuel : Nat} {c : Value} {x : DataW H × List MemPlace} (hu : P.underlying t = some (.slice e)) (hf : flatT P 9 e = some [.int .i64]) (hc : P.cellsOf e = 1)
    (h : DataW.trod enc P w 0 spare held fuel t [c] = some x) : ∃ (p : Option Addr) (xs : List Int) (cap : Nat), c = .slice p xs.length cap ∧ xs.length ≤ cap ∧ cap ≤ maxLen ∧ Sl (fun b => w.heap[b]?) p eI 1 xs ∧ ∀ x ∈ xs, -9223372036854775808 ≤ x ∧ x ≤ 9223372036854775807 := by
  obtain ⟨p, css, cap, rfl, h1, h2, h3, h4⟩ := openSlice hu hf (by simp) (by simpa using hc) h
  obtain ⟨xs, rfl, hq⟩ := list_of eI (fun x => -9223372036854775808 ≤ x ∧ x ≤ 9223372036854775807) css fun cs hcs => by
    obtain ⟨n0, r0, rfl, b0, f1⟩ := fits_i64 (h4 cs hcs)
    obtain rfl := fits_nil f1
    exact ⟨n0, rfl, b0⟩
  refine ⟨p, xs, cap, by rw [List.length_map], by rwa [List.length_map] at h1, h2, fun i x hi => ?_, hq⟩
  exact h3 i (eI x) (by rw [List.getElem?_map, hi]; rfl)
set_option maxHeartbeats 2000000 in
theorem allWithin_ok (p : Option Addr) (xs : List Int) (c : Nat) (lo hi : Int) (hxs : xs.length ≤ 1048576) : FunP Tryz.prog 86 [.slice p xs.length c, I lo, I hi] (fun H => Sl H p eI 1 xs) (.bool (dB (∀ i, i < xs.length → lo ≤ xs.getD i 0 ∧ xs.getD i 0 ≤ hi))) := by
  refine enterFunP Tryz.func86 rfl Tryz.ntmps86 rfl (fun W0 w a hp hm h => ?_)
  repeat' (first | refine c_seq ?_ | refine c_region ?_ | refine c_nil ?_ | refine k_then ?_ | refine c_block ?_ | ((refine st_op rfl rfl h ?_); clear h a; (first | (show Does _ (.call _) _ _ _ _; (refine does_lenS (SliceT.out) rfl ?_)) | (show Does _ (.move _) _ _ _ _; refine does_move rfl ?_) | (show Does _ (.assign _) _ _ _ _; refine does_assign rfl ?_)); intro a h; (try simp only [Value.cells, splice, nz, Nat.reduceAdd, Nat.reduceMul, Int.reduceAdd, Int.reduceToNat, Int.reduceTMod] at h)))
  refine c_loop (σ := Nat) (fun k a w => k ≤ xs.length ∧ (∀ i, i < k → lo ≤ xs.getD i 0 ∧ xs.getD i 0 ≤ hi) ∧ Mem W0 [] (fun b => W0.heap[b]?) [] w ∧ Holds [(1, I lo), (2, I hi), (9, .slice p xs.length c), (10, .int .i64 xs.length), (11, .int .i64 k)] _ a) (fun k => xs.length - k) 0
    ⟨Nat.zero_le _, fun i h => absurd h (Nat.not_lt_zero _), hm, h.keep ⟨rfl, rfl, rfl, rfl, rfl, trivial⟩⟩ ?_
  clear h hm
  rintro k a w ⟨hk, hpre, hm, h⟩
  by_cases hlt : k < xs.length
  · obtain ⟨q1, rfl, hat1⟩ := hp.at1 hlt
    have hg : xs.getD k 0 = xs[k] := by simp [List.getD, hlt]
    repeat' (first | refine c_seq ?_ | refine c_region ?_ | refine c_nil ?_ | refine k_then ?_ | refine k_thenR ?_ | refine k_inN ?_ | refine k_inR ?_ | refine c_skip ?_ | refine c_ret ?_ | refine c_block ?_ | refine c_condT h rfl ?_ | ((refine st_op rfl rfl h ?_); clear h a; (first | (show Does _ (.call _) _ _ _ _; (((refine does_funM hm en53 rfl (within_ok _ _ _) ?_); clear hm; intro w hm))) | (show Does _ (.move _) _ _ _ _; refine does_move rfl ?_) | (show Does _ (.assign _) _ _ _ _; refine does_assign rfl ?_) | (show Does _ (.load _ _) _ _ _ _; (refine does_loadB hm rfl (by assumption) rfl ?_)) | (show Does _ (.binOp _ _ _ _ _) _ _ _ _; (first | refine zlss rfl rfl ?_ | refine zadd rfl rfl ?_)) | (show Does _ (.unOp _ _ _) _ _ _ _; (refine does_notD rfl ?_)) | (show Does _ (.indexAddr _ _ _) _ _ _ _; (refine ziS1 rfl rfl ?_))); intro a h; (try simp only [Value.cells, splice, nz, Nat.reduceAdd, Nat.reduceMul, Int.reduceAdd, Int.reduceToNat, Int.reduceTMod] at h)) | ((refine c_condD h rfl ?_ ?_) <;> intro hc <;> (try (fail))))
    · (refine k_ret1 rfl h rfl ⟨?_, hm.below⟩)
      exact boolF (fun hh => hc (by rw [← hg]; exact hh k hlt))
    · refine k_thenN ⟨k + 1, ⟨by omega, fun i hi' => ?_, hm.dropAll, h.keep ⟨rfl, rfl, rfl, rfl, rfl, trivial⟩⟩, by omega⟩
      by_cases hik : i < k
      · exact hpre i hik
      · obtain rfl : i = k := by omega
        rw [hg]
        exact Classical.not_not.1 hc
  · obtain rfl : k = xs.length := by omega
    repeat' (first | refine c_seq ?_ | refine c_region ?_ | refine c_nil ?_ | refine k_then ?_ | refine k_thenE ?_ | refine k_inE ?_ | refine c_ret ?_ | refine c_exit ?_ | refine c_condF h rfl ?_ | ((refine st_op rfl rfl h ?_); clear h a; (first | (show Does _ (.assign _) _ _ _ _; refine does_assign rfl ?_) | (show Does _ (.binOp _ _ _ _ _) _ _ _ _; (refine zlss rfl rfl ?_))); intro a h; (try simp only [Value.cells, splice, nz, Nat.reduceAdd, Nat.reduceMul, Int.reduceAdd, Int.reduceToNat, Int.reduceTMod] at h)))
    (refine k_ret1 rfl h rfl ⟨?_, hm.below⟩)
    exact boolT hpre
end Go.Proofs.YtgmonjghbjaadaaGreatDoor.St
