/-
  Contracts of the functions on grids.
-/
import Derived.Test.YtcdjneiaoikpnaaLwTex
import Derived.Test.YtcdjneiaoikpnaaStCur
import Derived.Test.YtcdjneiaoikpnaaLInts
set_option linter.unusedSimpArgs false
set_option linter.unusedVariables false
namespace Go.Proofs.Ytcdjneiaoikpnaa.St
open Go.RowKit Go.WideShapes
abbrev TPoint := Int × Int × Int × Int × Int
abbrev ePoint (x : TPoint) : List Value := [I x.1, I x.2.1, I x.2.2.1, I x.2.2.2.1, I x.2.2.2.2]
set_option maxHeartbeats 2000000 in
theorem eqPoint_ok (f0 f1 f2 f3 f4 g0 g1 g2 g3 g4 : Int) : Fun Try.prog 123 [.agg #[I f0, I f1, I f2, I f3, I f4], .agg #[I g0, I g1, I g2, I g3, I g4]] (.bool (dB (f0 = g0 ∧ f1 = g1 ∧ f2 = g2 ∧ f3 = g3 ∧ f4 = g4))) := by
  refine enterFun Try.func123 rfl Try.ntmps123 rfl (fun W0 w a hm h => ?_)
  repeat' (first | refine c_seq ?_ | refine c_region ?_ | refine c_nil ?_ | refine k_then ?_ | refine k_thenR ?_ | refine c_skip ?_ | refine c_ret ?_ | ((refine st_op rfl rfl h ?_); clear h a; (first | (show Does _ (.box _ _) _ _ _ _; (refine does_box hm rfl rfl ?_; clear hm; intro b w hm)) | (show Does _ (.assign _) _ _ _ _; refine does_assign rfl ?_) | (show Does _ (.fieldAddr _ _ _) _ _ _ _; (refine does_fieldAddrL rfl ?_)) | (show Does _ (.load _ _) _ _ _ _; (first | refine does_loadO 0 hm rfl rfl rfl ?_ | refine does_loadO 1 hm rfl rfl rfl ?_)) | (show Does _ (.binOp _ _ _ _ _) _ _ _ _; (refine does_neq rfl rfl ?_))); intro a h; (try simp only [Value.cells, List.toList_toArray, splice, List.set_cons_zero, List.set_cons_succ, List.drop_zero, List.drop_succ_cons, List.take_succ_cons, List.take_zero, Nat.zero_add, Nat.reduceAdd, Nat.reduceMul, Int.reduceAdd, Int.reduceToNat, Int.reduceTMod, Nat.zero_mul, Nat.one_mul, Int.toNat_natCast] at h)) | ((refine c_condD h rfl ?_ ?_) <;> intro hc <;> (try (fail))))
  all_goals (refine k_ret1 rfl h rfl ⟨?_, hm.below⟩)
  all_goals (first | exact boolT (by omega) | exact boolF (by omega))

set_option maxHeartbeats 2000000 in
theorem eqPointS_ok (p q : Option Addr) (xs ys : List TPoint) (c d : Nat) (hxs : xs.length ≤ maxLen) : FunP Try.prog 75 [.slice p xs.length c, .slice q ys.length d] (fun H => Sl H p ePoint 5 xs ∧ Sl H q ePoint 5 ys) (.bool (dB (xs = ys))) := by
  refine enterFunP Try.func75 rfl Try.ntmps75 rfl (fun W0 w a hp hm h => ?_)
  obtain ⟨hx, hy⟩ := hp
  unfold maxLen at hxs
  repeat' (first | refine c_seq ?_ | refine c_region ?_ | refine c_nil ?_ | refine k_then ?_ | refine k_thenR ?_ | refine c_skip ?_ | refine c_ret ?_ | refine c_block ?_ | ((refine st_op rfl rfl h ?_); clear h a; (first | (show Does _ (.call _) _ _ _ _; (refine does_lenS (SliceT.out) rfl ?_)) | (show Does _ (.move _) _ _ _ _; refine does_move rfl ?_) | (show Does _ (.assign _) _ _ _ _; refine does_assign rfl ?_) | (show Does _ (.binOp _ _ _ _ _) _ _ _ _; (refine does_neq rfl rfl ?_))); intro a h; (try simp only [Value.cells, List.toList_toArray, splice, List.set_cons_zero, List.set_cons_succ, List.drop_zero, List.drop_succ_cons, List.take_succ_cons, List.take_zero, Nat.zero_add, Nat.reduceAdd, Nat.reduceMul, Int.reduceAdd, Int.reduceToNat, Int.reduceTMod, Nat.zero_mul, Nat.one_mul, Int.toNat_natCast] at h)) | ((refine c_condD h rfl ?_ ?_) <;> intro hc <;> (try (fail))))
  · (refine k_ret1 rfl h rfl ⟨?_, hm.below⟩)
    exact boolF (fun e => hc (by rw [e]))
  · have hl : xs.length = ys.length := by omega
    refine c_loop (σ := Nat) (fun k a w => k ≤ xs.length ∧ (∀ i, i < k → xs[i]? = ys[i]?) ∧ Mem W0 [] (fun b => W0.heap[b]?) [] w ∧ Holds [(0, .slice p xs.length c), (1, .slice q ys.length d), (5, .int .i64 k)] _ a) (fun k => xs.length - k) 0
      ⟨Nat.zero_le _, fun i hi => absurd hi (Nat.not_lt_zero _), hm, h.keep ⟨rfl, rfl, rfl, trivial⟩⟩ ?_
    clear h hm hc
    rintro k a w ⟨hk, hpre, hm, h⟩
    by_cases hlt : k < xs.length
    · obtain ⟨q1, rfl, hat1⟩ := hx.at hlt
      obtain ⟨q2, rfl, hat2⟩ := hy.at (k := k) (by omega)
      repeat' (first | refine c_seq ?_ | refine c_region ?_ | refine c_nil ?_ | refine k_then ?_ | refine k_thenR ?_ | refine k_inN ?_ | refine k_inR ?_ | refine c_skip ?_ | refine c_ret ?_ | refine c_block ?_ | refine c_condT h rfl ?_ | ((refine st_op rfl rfl h ?_); clear h a; (first | (show Does _ (.call _) _ _ _ _; (refine does_lenS (SliceT.out) rfl ?_)) | (show Does _ (.move _) _ _ _ _; refine does_move rfl ?_) | (show Does _ (.assign _) _ _ _ _; refine does_assign rfl ?_) | (show Does _ (.binOp _ _ _ _ _) _ _ _ _; (first | refine does_lssT rfl rfl (by omega) ?_ | refine does_add rfl rfl (by omega) ?_))); intro a h; (try simp only [Value.cells, List.toList_toArray, splice, List.set_cons_zero, List.set_cons_succ, List.drop_zero, List.drop_succ_cons, List.take_succ_cons, List.take_zero, Nat.zero_add, Nat.reduceAdd, Nat.reduceMul, Int.reduceAdd, Int.reduceToNat, Int.reduceTMod, Nat.zero_mul, Nat.one_mul, Int.toNat_natCast] at h)) | (apply c_drawM (id := 6) 10 [.val _, .val _, .val _, .val _, .val _, .val _, .val _, .val _, .val _, .val _] mixed (by kernel_rfl) (h := h) (hm := hm); (case vcs => (repeat' (first | exact vcs_nil | refine vcs_cons ?_ ?_ | (intro w hm; (repeat (first | refine dep_val ?_ | refine dep_nil ?_)); first | exact vc_skip rfl | exact vc_alloc rfl | exact vc_box rfl rfl rfl | exact vc_buildSlice rfl rfl rfl rfl | exact vc_makeSlice (by omega) (by omega) rfl rfl rfl | exact vc_store rfl rfl rfl rfl rfl rfl rfl rfl rfl rfl | (apply vc_run rfl; (first | (show Does _ (.call _) _ _ _ _; ((refine does_funX en123 rfl (eqPoint_ok _ _ _ _ _ _ _ _ _ _) ?_))) | (show Does _ (.move _) _ _ _ _; refine does_move rfl ?_) | (show Does _ (.load _ _) _ _ _ _; (refine does_loadBA hm rfl (by assumption) rfl ?_)) | (show Does _ (.unOp _ _ _) _ _ _ _; (refine does_notD rfl ?_)) | (show Does _ (.indexAddr _ _ _) _ _ _ _; (refine does_indexSn (by omega) rfl rfl ?_))); (first | exact ⟨ext_refl _, rfl⟩ | exact fun _ hx => ⟨hx, rfl⟩)))))); (case hup => kernel_rfl); (case hown => kernel_rfl); (case hnp => kernel_rfl); clear h hm a; intro  w hm; (try simp only [List.map_nil, List.nil_append] at hm); (repeat (first | refine dep_val ?_ | refine dep_nil ?_)); intro a h; (try simp only [Value.cells, List.toList_toArray, splice, List.set_cons_zero, List.set_cons_succ, List.drop_zero, List.drop_succ_cons, List.take_succ_cons, List.take_zero, Nat.zero_add, Nat.reduceAdd, Nat.reduceMul, Int.reduceAdd, Int.reduceToNat, Int.reduceTMod, Nat.zero_mul, Nat.one_mul, Int.toNat_natCast] at h)) | ((refine c_condD h rfl ?_ ?_) <;> intro hc <;> (try (fail))))
      · (refine k_ret1 rfl h rfl ⟨?_, hm.below⟩)
        exact boolF (fun e => hc (by subst e; simp))
      · refine k_thenN ⟨k + 1, ⟨by omega, fun i hi => ?_, hm, h.keep ⟨rfl, rfl, rfl, trivial⟩⟩, by omega⟩
        by_cases hik : i < k
        · exact hpre i hik
        · obtain rfl : i = k := by omega
          rw [List.getElem?_eq_getElem hlt, List.getElem?_eq_getElem (by omega : i < ys.length)]
          simp only [Decidable.not_not] at hc
          congr 1
          ext <;> simp_all
    · repeat' (first | refine c_seq ?_ | refine c_region ?_ | refine c_nil ?_ | refine k_then ?_ | refine k_thenE ?_ | refine k_inE ?_ | refine c_ret ?_ | refine c_exit ?_ | refine c_condF h rfl ?_ | ((refine st_op rfl rfl h ?_); clear h a; (first | (show Does _ (.call _) _ _ _ _; (refine does_lenS (SliceT.out) rfl ?_)) | (show Does _ (.move _) _ _ _ _; refine does_move rfl ?_) | (show Does _ (.assign _) _ _ _ _; refine does_assign rfl ?_) | (show Does _ (.binOp _ _ _ _ _) _ _ _ _; (refine does_lssF rfl rfl (by omega) ?_))); intro a h; (try simp only [Value.cells, List.toList_toArray, splice, List.set_cons_zero, List.set_cons_succ, List.drop_zero, List.drop_succ_cons, List.take_succ_cons, List.take_zero, Nat.zero_add, Nat.reduceAdd, Nat.reduceMul, Int.reduceAdd, Int.reduceToNat, Int.reduceTMod, Nat.zero_mul, Nat.one_mul, Int.toNat_natCast] at h)))
      (refine k_ret1 rfl h rfl ⟨?_, hm.below⟩)
      exact boolT (eq_of_upto hl hlt hpre)

def bdPoint (x : TPoint) : Prop := (-9223372036854775808 ≤ x.1 ∧ x.1 ≤ 9223372036854775807) ∧ (-9223372036854775808 ≤ x.2.1 ∧ x.2.1 ≤ 9223372036854775807) ∧ (-9223372036854775808 ≤ x.2.2.1 ∧ x.2.2.1 ≤ 9223372036854775807) ∧ (-9223372036854775808 ≤ x.2.2.2.1 ∧ x.2.2.2.1 ≤ 9223372036854775807) ∧ (-9223372036854775808 ≤ x.2.2.2.2 ∧ x.2.2.2.2 ≤ 9223372036854775807)
theorem openPointS {H : Type} {enc : TypeId × Value → H} {P : Program} {w : World} {spare : Nat → Bool} {held : Bool} {t e : TypeId} {fuel : Nat} {c : Value} {x : DataW H × List MemPlace} (hu : P.underlying t = some (.slice e)) (hf : flatT P 9 e = some [.int .i64, .int .i64, .int .i64, .int .i64, .int .i64]) (hc : P.cellsOf e = 5)
    (h : DataW.trod enc P w 0 spare held fuel t [c] = some x) : ∃ (p : Option Addr) (xs : List TPoint) (cap : Nat), c = .slice p xs.length cap ∧ xs.length ≤ cap ∧ cap ≤ maxLen ∧ Sl (fun b => w.heap[b]?) p ePoint 5 xs ∧ ∀ x ∈ xs, bdPoint x := by
  obtain ⟨p, css, cap, rfl, h1, h2, h3, h4⟩ := openSlice hu hf (by simp) (by simpa using hc) h
  obtain ⟨xs, rfl, hq⟩ := list_of ePoint bdPoint css fun cs hcs => by
    have f0 := h4 cs hcs
    obtain ⟨n0, r0, rfl, b0, f1⟩ := fits_i64 f0
    obtain ⟨n1, r1, rfl, b1, f2⟩ := fits_i64 f1
    obtain ⟨n2, r2, rfl, b2, f3⟩ := fits_i64 f2
    obtain ⟨n3, r3, rfl, b3, f4⟩ := fits_i64 f3
    obtain ⟨n4, r4, rfl, b4, f5⟩ := fits_i64 f4
    obtain rfl := fits_nil f5
    exact ⟨(n0, n1, n2, n3, n4), rfl, b0, b1, b2, b3, b4⟩
  refine ⟨p, xs, cap, by rw [List.length_map], by rwa [List.length_map] at h1, h2, fun i x hi => ?_, hq⟩
  exact h3 i (ePoint x) (by rw [List.getElem?_map, hi]; rfl)

def atPoint (m : Int) : TPoint := (m, m + 1, m + 1 + 1, m + 1 + 1 + 1, m + 1 + 1 + 1 + 1)
def rampPoint (m : Int) (n : Nat) : List TPoint := (List.range n).map fun (i : Nat) => atPoint (m + 5 * (i : Int))
theorem rampPoint_len (m : Int) (n : Nat) : (rampPoint m n).length = n := by simp [rampPoint]
theorem rampPoint_succ (m : Int) (n : Nat) : rampPoint m (n + 1) = rampPoint m n ++ [atPoint (m + 5 * (n : Int))] := by simp [rampPoint, List.range_succ]
theorem rampPoint_get (m : Int) {n i : Nat} (h : i < (rampPoint m n).length) : (rampPoint m n)[i] = atPoint (m + 5 * (i : Int)) := by simp [rampPoint]
set_option maxHeartbeats 2000000 in
theorem markPointS_ok (v : Value) (xs : List TPoint) (m : Int) (hm0 : 0 ≤ m ∧ m ≤ 1000) (hxs : xs.length ≤ 35184372088832) : FunW Try.prog 76 [v, I m] v 134 5 (xs.map ePoint).flatten ((rampPoint m xs.length).map ePoint).flatten (I (m + 5 * xs.length)) := by
  have hfl := flat_len (enc := ePoint) (sz := 5) (fun _ => rfl) xs
  have hfr := flat_len (enc := ePoint) (sz := 5) (fun _ => rfl) (rampPoint m xs.length)
  rw [rampPoint_len] at hfr
  refine enterFunW Try.func76 rfl Try.ntmps76 rfl (by rw [hfl, hfr]) (fun W0 w a n hv hn hcs hm h => ?_) (fun W0 w a n b cap spare hv hn hcap hlen hm h => ?_)
  · subst hv
    have hx0 : xs.length = 0 := by rw [hcs] at hfl; simp at hfl; omega
    repeat' (first | refine c_seq ?_ | refine c_region ?_ | refine c_nil ?_ | refine k_then ?_ | refine k_thenE ?_ | refine k_inE ?_ | refine c_ret ?_ | refine c_exit ?_ | refine c_block ?_ | refine r_succ ?_ | refine c_condF h rfl ?_ | (refine c_rounds 1 ?_) | ((refine st_op rfl rfl h ?_); clear h a; (first | (show Does _ (.move _) _ _ _ _; refine does_move rfl ?_) | (show Does _ (.assign _) _ _ _ _; refine does_assign rfl ?_) | (show Does _ (.binOp _ _ _ _ _) _ _ _ _; (refine does_lssF rfl rfl (by omega) ?_)) | (show Does _ (.call _) _ _ _ _; refine does_lenS (SliceT.out) rfl ?_)); intro a h; (try simp only [Value.cells, List.toList_toArray, splice, List.set_cons_zero, List.set_cons_succ, List.drop_zero, List.drop_succ_cons, List.take_succ_cons, List.take_zero, Nat.zero_add, Nat.reduceAdd, Nat.reduceMul, Int.reduceAdd, Int.reduceToNat, Int.reduceTMod, Nat.zero_mul, Nat.one_mul, Int.toNat_natCast] at h)))
    refine k_ret1 rfl h rfl ⟨?_, hm.below⟩
    exact intE (by omega)
  · subst hv
    obtain rfl : n = xs.length := by omega
    repeat' (first | refine c_seq ?_ | refine c_region ?_ | refine c_nil ?_ | refine k_then ?_ | refine c_block ?_ | ((refine st_op rfl rfl h ?_); clear h a; ((show Does _ (.assign _) _ _ _ _; refine does_assign rfl ?_)); intro a h; (try simp only [Value.cells, List.toList_toArray, splice, List.set_cons_zero, List.set_cons_succ, List.drop_zero, List.drop_succ_cons, List.take_succ_cons, List.take_zero, Nat.zero_add, Nat.reduceAdd, Nat.reduceMul, Int.reduceAdd, Int.reduceToNat, Int.reduceTMod, Nat.zero_mul, Nat.one_mul, Int.toNat_natCast] at h)))
    refine c_loop (σ := Nat) (fun k a w => k ≤ xs.length ∧ Mem W0 [b] (fun k => if k = b then none else W0.heap[k]?) [.blk b (.cells (((rampPoint m k).map ePoint).flatten ++ (((xs.drop k).map ePoint).flatten ++ spare)).toArray 134)] w ∧ Holds [(0, .slice (some ⟨b, 0, none⟩) xs.length cap), (1, I (m + 5 * k)), (5, .int .i64 k)] _ a) (fun k => xs.length - k) 0
      ⟨Nat.zero_le _, by simpa [rampPoint] using hm, by simp only [Int.natCast_zero, Int.mul_zero, Int.add_zero]; exact h.keep ⟨rfl, rfl, rfl, trivial⟩⟩ ?_
    clear h hm
    rintro k a w ⟨hk, hm, h⟩
    by_cases hlt : k < xs.length
    · rw [List.drop_eq_getElem_cons hlt, List.map_cons, List.flatten_cons, List.append_assoc] at hm
      have hA := flat_len (enc := ePoint) (sz := 5) (fun _ => rfl) (rampPoint m k)
      rw [rampPoint_len] at hA
      generalize hg : ((rampPoint m k).map ePoint).flatten = A at hm hA
      repeat' (first | refine c_seq ?_ | refine c_region ?_ | refine c_nil ?_ | refine k_then ?_ | refine k_inN ?_ | refine c_skip ?_ | refine c_block ?_ | refine c_condT h rfl ?_ | ((first | refine st_op rfl rfl h ?_ | refine st_opn rfl h ?_); clear h a; (first | (show Does _ (.store _ _ _) _ _ _ _; ((refine does_storeM 0 hm rfl rfl rfl (by assumption) (by omega) rfl rfl rfl rfl ?_; clear hm; intro w hm; (try simp only [Value.cells, List.toList_toArray, List.set_cons_zero, List.set_cons_succ, splice, Nat.zero_add, Nat.reduceAdd, Nat.reduceMul, Int.reduceAdd, Int.reduceToNat, Nat.zero_mul, Nat.one_mul, Int.toNat_natCast] at hm)))) | (show Does _ (.move _) _ _ _ _; refine does_move rfl ?_) | (show Does _ (.assign _) _ _ _ _; refine does_assign rfl ?_) | (show Does _ (.fieldAddr _ _ _) _ _ _ _; (refine does_fieldAddrL rfl ?_)) | (show Does _ (.binOp _ _ _ _ _) _ _ _ _; (first | refine does_lssT rfl rfl (by omega) ?_ | refine does_add rfl rfl (by omega) ?_)) | (show Does _ (.call _) _ _ _ _; refine does_lenS (SliceT.out) rfl ?_) | (show Does _ (.indexAddr _ _ _) _ _ _ _; (refine does_indexSLn (by omega) rfl rfl ?_))); intro a h; (try simp only [Value.cells, List.toList_toArray, splice, List.set_cons_zero, List.set_cons_succ, List.drop_zero, List.drop_succ_cons, List.take_succ_cons, List.take_zero, Nat.zero_add, Nat.reduceAdd, Nat.reduceMul, Int.reduceAdd, Int.reduceToNat, Int.reduceTMod, Nat.zero_mul, Nat.one_mul, Int.toNat_natCast] at h)))
      have e1 : m + 5 * (k : Int) + 1 + 1 + 1 + 1 + 1 = m + 5 * ((k + 1 : Nat) : Int) := by omega
      have e2 : ((rampPoint m (k + 1)).map ePoint).flatten = A ++ ePoint (atPoint (m + 5 * k)) := by rw [rampPoint_succ, List.map_append, List.flatten_append, hg]; simp
      refine k_thenN ⟨k + 1, ⟨by omega, ?_, ?_⟩, by omega⟩
      · rw [e2, List.append_assoc]
        exact hm
      · rw [← e1]
        exact h.keep ⟨rfl, rfl, rfl, trivial⟩
    · obtain rfl : k = xs.length := by omega
      rw [List.drop_length] at hm
      repeat' (first | refine c_seq ?_ | refine c_region ?_ | refine c_nil ?_ | refine k_then ?_ | refine k_thenE ?_ | refine k_inE ?_ | refine c_ret ?_ | refine c_exit ?_ | refine c_condF h rfl ?_ | ((refine st_op rfl rfl h ?_); clear h a; (first | (show Does _ (.move _) _ _ _ _; refine does_move rfl ?_) | (show Does _ (.assign _) _ _ _ _; refine does_assign rfl ?_) | (show Does _ (.binOp _ _ _ _ _) _ _ _ _; (refine does_lssF rfl rfl (by omega) ?_)) | (show Does _ (.call _) _ _ _ _; refine does_lenS (SliceT.out) rfl ?_)); intro a h; (try simp only [Value.cells, List.toList_toArray, splice, List.set_cons_zero, List.set_cons_succ, List.drop_zero, List.drop_succ_cons, List.take_succ_cons, List.take_zero, Nat.zero_add, Nat.reduceAdd, Nat.reduceMul, Int.reduceAdd, Int.reduceToNat, Int.reduceTMod, Nat.zero_mul, Nat.one_mul, Int.toNat_natCast] at h)))
      refine k_ret1 rfl h rfl ⟨rfl, ?_⟩
      simpa using hm
set_option maxHeartbeats 2000000 in
theorem heldPointS_ok (p : Option Addr) (n c : Nat) (m : Int) (hm0 : 0 ≤ m ∧ m ≤ 1000) (hxs : n ≤ 35184372088832) : FunP Try.prog 77 [.slice p n c, I m] (fun H => Sl H p ePoint 5 (rampPoint m n)) (I (m + 5 * n)) := by
  refine enterFunP Try.func77 rfl Try.ntmps77 rfl (fun W0 w a hp hm h => ?_)
  repeat' (first | refine c_seq ?_ | refine c_region ?_ | refine c_nil ?_ | refine k_then ?_ | refine c_block ?_ | ((refine st_op rfl rfl h ?_); clear h a; ((show Does _ (.assign _) _ _ _ _; refine does_assign rfl ?_)); intro a h; (try simp only [Value.cells, List.toList_toArray, splice, List.set_cons_zero, List.set_cons_succ, List.drop_zero, List.drop_succ_cons, List.take_succ_cons, List.take_zero, Nat.zero_add, Nat.reduceAdd, Nat.reduceMul, Int.reduceAdd, Int.reduceToNat, Int.reduceTMod, Nat.zero_mul, Nat.one_mul, Int.toNat_natCast] at h)))
  refine c_loop (σ := Nat) (fun k a w => k ≤ n ∧ Mem W0 [] (fun b => W0.heap[b]?) [] w ∧ Holds [(0, .slice p n c), (1, I (m + 5 * k)), (5, .int .i64 k)] _ a) (fun k => n - k) 0
    ⟨Nat.zero_le _, hm, by simp only [Int.natCast_zero, Int.mul_zero, Int.add_zero]; exact h.keep ⟨rfl, rfl, rfl, trivial⟩⟩ ?_
  clear h hm
  rintro k a w ⟨hk, hm, h⟩
  by_cases hlt : k < n
  · obtain ⟨q1, rfl, hat1⟩ := hp.at (k := k) (by rw [rampPoint_len]; exact hlt)
    rw [rampPoint_get] at hat1
    simp only [ePoint, atPoint] at hat1
    repeat' (first | refine c_seq ?_ | refine c_region ?_ | refine c_nil ?_ | refine k_then ?_ | refine k_inN ?_ | refine c_skip ?_ | refine c_block ?_ | refine c_condT h rfl ?_ | refine c_condF h rfl ?_ | ((refine st_op rfl rfl h ?_); clear h a; (first | (show Does _ (.move _) _ _ _ _; refine does_move rfl ?_) | (show Does _ (.assign _) _ _ _ _; refine does_assign rfl ?_) | (show Does _ (.fieldAddr _ _ _) _ _ _ _; (refine does_fieldAddr rfl ?_)) | (show Does _ (.load _ _) _ _ _ _; (first | refine does_loadB hm rfl (by assumption) rfl ?_ | refine does_loadB hm rfl (At.add (by assumption) _) rfl ?_)) | (show Does _ (.binOp _ _ _ _ _) _ _ _ _; (first | refine does_lssT rfl rfl (by omega) ?_ | refine does_neqF rfl rfl (by omega) ?_ | refine does_add rfl rfl (by omega) ?_)) | (show Does _ (.call _) _ _ _ _; refine does_lenS (SliceT.out) rfl ?_) | (show Does _ (.indexAddr _ _ _) _ _ _ _; (refine does_indexSn (by omega) rfl rfl ?_))); intro a h; (try simp only [Value.cells, List.toList_toArray, splice, List.set_cons_zero, List.set_cons_succ, List.drop_zero, List.drop_succ_cons, List.take_succ_cons, List.take_zero, Nat.zero_add, Nat.reduceAdd, Nat.reduceMul, Int.reduceAdd, Int.reduceToNat, Int.reduceTMod, Nat.zero_mul, Nat.one_mul, Int.toNat_natCast] at h)))
    have e1 : m + 5 * (k : Int) + 1 + 1 + 1 + 1 + 1 = m + 5 * ((k + 1 : Nat) : Int) := by omega
    refine k_thenN ⟨k + 1, ⟨by omega, hm, ?_⟩, by omega⟩
    rw [← e1]
    exact h.keep ⟨rfl, rfl, rfl, trivial⟩
  · obtain rfl : k = n := by omega
    repeat' (first | refine c_seq ?_ | refine c_region ?_ | refine c_nil ?_ | refine k_then ?_ | refine k_thenE ?_ | refine k_inE ?_ | refine c_ret ?_ | refine c_exit ?_ | refine c_condF h rfl ?_ | ((refine st_op rfl rfl h ?_); clear h a; (first | (show Does _ (.move _) _ _ _ _; refine does_move rfl ?_) | (show Does _ (.assign _) _ _ _ _; refine does_assign rfl ?_) | (show Does _ (.binOp _ _ _ _ _) _ _ _ _; (refine does_lssF rfl rfl (by omega) ?_)) | (show Does _ (.call _) _ _ _ _; refine does_lenS (SliceT.out) rfl ?_)); intro a h; (try simp only [Value.cells, List.toList_toArray, splice, List.set_cons_zero, List.set_cons_succ, List.drop_zero, List.drop_succ_cons, List.take_succ_cons, List.take_zero, Nat.zero_add, Nat.reduceAdd, Nat.reduceMul, Int.reduceAdd, Int.reduceToNat, Int.reduceTMod, Nat.zero_mul, Nat.one_mul, Int.toNat_natCast] at h)))
    (refine k_ret1 rfl h rfl ⟨?_, hm.below⟩)
    rfl

def GridR (n tm g : Int) (xs : List TPoint) (ts : List Int) (v : Value) (H : Heap) : Prop := ∃ p c q d, v = .agg #[I n, .slice p xs.length c, I tm, I g, .slice q ts.length d] ∧ (xs.length ≤ c ∧ c ≤ maxLen) ∧ (ts.length ≤ d ∧ d ≤ maxLen) ∧ Sl H p ePoint 5 xs ∧ Sl H q eI 1 ts
instance (n tm g : Int) (xs : List TPoint) (ts : List Int) : MonoR (GridR n tm g xs ts) := ⟨fun _ _ _ hle ⟨p, c, q, d, h0, h1, h2, h3, h4⟩ => ⟨p, c, q, d, h0, h1, h2, h3.mono hle, h4.mono hle⟩⟩
set_option maxHeartbeats 4000000 in
theorem eqGrid_same (n tm g : Int) (p q p' q' : Option Addr) (xs : List TPoint) (ts : List Int) (c d c' d' : Nat) (hxs : xs.length ≤ 1048576) (hys : ts.length ≤ 1048576) : FunP Try.prog 26 [.agg #[I n, .slice p xs.length c, I tm, I g, .slice q ts.length d], .agg #[I n, .slice p' xs.length c', I tm, I g, .slice q' ts.length d']]
    (fun H => (Sl H p ePoint 5 xs ∧ Sl H q eI 1 ts) ∧ Sl H p' ePoint 5 xs ∧ Sl H q' eI 1 ts) (.bool true) := by
  refine enterFunP Try.func26 rfl Try.ntmps26 rfl (fun W0 w a hp hm h => ?_)
  obtain ⟨⟨hx, hy⟩, hx', hy'⟩ := hp
  repeat' (first | refine c_seq ?_ | refine c_region ?_ | refine c_nil ?_ | refine k_then ?_ | refine c_skip ?_ | refine c_ret ?_ | refine c_condF h rfl ?_ | ((refine st_op rfl rfl h ?_); clear h a; (first | (show Does _ (.box _ _) _ _ _ _; (refine does_box hm rfl rfl ?_; clear hm; intro b w hm)) | (show Does _ (.call _) _ _ _ _; (first | (refine does_funP2 hm en75 rfl (by repeat' (first | with_reducible refine And.intro ?_ ?_ | exact Sl.up (by assumption) hm)) (eqPointS_ok _ _ _ _ _ _ (by simp only [maxLen]; omega)) ?_; clear hm; intro w hm) | (refine does_funP2 hm en27 rfl (by repeat' (first | with_reducible refine And.intro ?_ ?_ | exact Sl.up (by assumption) hm)) (eqTexture_same _ _ _ _ _ _ (by omega)) ?_; clear hm; intro w hm))) | (show Does _ (.assign _) _ _ _ _; refine does_assign rfl ?_) | (show Does _ (.fieldAddr _ _ _) _ _ _ _; (refine does_fieldAddrL rfl ?_)) | (show Does _ (.load _ _) _ _ _ _; (first | refine does_loadO 0 hm rfl rfl rfl ?_ | refine does_loadO 1 hm rfl rfl rfl ?_ | refine does_loadOA 0 hm rfl rfl rfl ?_ | refine does_loadOA 1 hm rfl rfl rfl ?_)) | (show Does _ (.binOp _ _ _ _ _) _ _ _ _; (refine does_neqF rfl rfl (by omega) ?_)) | (show Does _ (.unOp _ _ _) _ _ _ _; (first | refine does_notD rfl ?_ | refine does_not rfl ?_))); intro a h; (try simp only [Value.cells, List.toList_toArray, splice, List.set_cons_zero, List.set_cons_succ, List.drop_zero, List.drop_succ_cons, List.take_succ_cons, List.take_zero, Nat.zero_add, Nat.reduceAdd, Nat.reduceMul, Int.reduceAdd, Int.reduceToNat, Int.reduceTMod, Nat.zero_mul, Nat.one_mul, Int.toNat_natCast] at h)) | ((refine c_condD h rfl ?_ ?_) <;> intro hc <;> (try (exact absurd trivial hc))))
  all_goals first | exact absurd rfl hc | ((refine k_ret1 rfl h rfl ⟨?_, hm.below⟩); rfl)
def vP5 (a b c d e : Int) : Prop := (-1000000 ≤ a ∧ a ≤ 1000000) ∧ (-1000000 ≤ b ∧ b ≤ 1000000) ∧ (-1000000 ≤ c ∧ c ≤ 1000000) ∧ (-1000000 ≤ d ∧ d ≤ 1000000) ∧ (-1000000 ≤ e ∧ e ≤ 1000000)
theorem all5_ok (p : Option Addr) (a b c d e : Int) (n : Nat) : FunP Try.prog 85 [.slice p 5 n, I (-1000000), I 1000000] (fun H => Sl H p eI 1 [a, b, c, d, e]) (.bool (dB (vP5 a b c d e))) := by
  have := allWithin_ok p [a, b, c, d, e] n (-1000000) 1000000 (by simp)
  rwa [dB_congr (q := vP5 a b c d e)] at this
  constructor
  · intro h
    exact ⟨h 0 (by simp), h 1 (by simp), h 2 (by simp), h 3 (by simp), h 4 (by simp)⟩
  · rintro ⟨h0, h1, h2, h3, h4⟩ i hi
    have : i = 0 ∨ i = 1 ∨ i = 2 ∨ i = 3 ∨ i = 4 := by simp at hi; omega
    rcases this with rfl | rfl | rfl | rfl | rfl <;> simpa [List.getD]
def vPt (x : TPoint) : Prop := vP5 x.1 x.2.1 x.2.2.1 x.2.2.2.1 x.2.2.2.2
def vGrd (n tm g : Int) (xs : List TPoint) (ts : List Int) : Prop := (1 ≤ n ∧ n ≤ 8) ∧ (xs.length : Int) = n * n ∧ (0 ≤ tm ∧ tm ≤ 256) ∧ vTex g ts ∧ ∀ (i : Nat) (x : TPoint), xs[i]? = some x → vPt x
set_option maxHeartbeats 8000000 in
theorem isValidGrid_ok (n tm g : Int) (p q : Option Addr) (xs : List TPoint) (ts : List Int) (c d : Nat) (hxs : xs.length ≤ 1048576) (hys : ts.length ≤ 1048576) : FunP Try.prog 74 [.agg #[I n, .slice p xs.length c, I tm, I g, .slice q ts.length d]] (fun H => Sl H p ePoint 5 xs ∧ Sl H q eI 1 ts) (.bool (dB (vGrd n tm g xs ts))) := by
  refine enterFunP Try.func74 rfl Try.ntmps74 rfl (fun W0 w a hp hm h => ?_)
  obtain ⟨hx, hy⟩ := hp
  repeat' (first | refine c_seq ?_ | refine c_region ?_ | refine c_nil ?_ | refine k_then ?_ | refine k_thenR ?_ | refine c_skip ?_ | refine c_ret ?_ | refine c_block ?_ | refine c_condT h rfl ?_ | (refine st_op (d := 1) rfl rfl h ?_; refine does_box hm rfl rfl ?_; clear h a hm; intro b_1 w hm a h; (try simp only [Value.cells, List.toList_toArray, splice, List.set_cons_zero, List.set_cons_succ, List.drop_zero, List.drop_succ_cons, List.take_succ_cons, List.take_zero, Nat.zero_add, Nat.reduceAdd, Nat.reduceMul, Int.reduceAdd, Int.reduceToNat, Int.reduceTMod, Nat.zero_mul, Nat.one_mul, Int.toNat_natCast] at h)) | ((refine st_op rfl rfl h ?_); clear h a; (first | (show Does _ (.call _) _ _ _ _; (first | (refine does_funM hm en61 rfl (within_ok _ _ _) ?_; clear hm; intro w hm) | (refine does_funP2 hm en122 rfl (by repeat' (exact Sl.up (by assumption) hm)) (isValidTexture_ok _ _ _ _ (by omega)) ?_; clear hm; intro w hm) | refine does_lenS (SliceT.out) rfl ?_)) | (show Does _ (.move _) _ _ _ _; refine does_move rfl ?_) | (show Does _ (.assign _) _ _ _ _; refine does_assign rfl ?_) | (show Does _ (.pick _ _ _) _ _ _ _; (first | refine does_pickT rfl rfl ?_ | refine does_pickF rfl rfl ?_)) | (show Does _ (.fieldAddr _ _ _) _ _ _ _; (refine does_fieldAddrL rfl ?_)) | (show Does _ (.load _ _) _ _ _ _; (first | refine does_loadO 0 hm rfl rfl rfl ?_ | refine does_loadOA 0 hm rfl rfl rfl ?_)) | (show Does _ (.binOp _ _ _ _ _) _ _ _ _; (first | refine does_neq rfl rfl ?_ | refine does_mul rfl rfl (mul_in (by omega) (by omega)) ?_)) | (show Does _ (.unOp _ _ _) _ _ _ _; (refine does_notD rfl ?_))); intro a h; (try simp only [Value.cells, List.toList_toArray, splice, List.set_cons_zero, List.set_cons_succ, List.drop_zero, List.drop_succ_cons, List.take_succ_cons, List.take_zero, Nat.zero_add, Nat.reduceAdd, Nat.reduceMul, Int.reduceAdd, Int.reduceToNat, Int.reduceTMod, Nat.zero_mul, Nat.one_mul, Int.toNat_natCast] at h)) | ((refine st_skip rfl rfl h ?_); clear h a; intro a h) | ((refine c_condD h rfl ?_ ?_) <;> intro hc <;> (try (fail))) | (refine st_guardD rfl rfl h ?_ ?_ <;> clear h <;> intro hc h))
  all_goals first | ((refine k_ret1 rfl h rfl ⟨?_, hm.below⟩); first | exact boolF (fun e => hc e.1) | exact boolF (fun e => hc e.2.1) | exact boolF (fun e => hc e.2.2.1) | exact boolF (fun e => hc e.2.2.2.1)) | skip
  have hpre0 : (1 ≤ n ∧ n ≤ 8) ∧ (xs.length : Int) = n * n ∧ (0 ≤ tm ∧ tm ≤ 256) ∧ vTex g ts := ⟨Classical.not_not.1 (by assumption), Classical.not_not.1 (by assumption), Classical.not_not.1 (by assumption), Classical.not_not.1 (by assumption)⟩
  rw [dB_congr (q := ∀ (i : Nat) (x : TPoint), xs[i]? = some x → vPt x) ⟨fun e => e.2.2.2.2, fun e => ⟨hpre0.1, hpre0.2.1, hpre0.2.2.1, hpre0.2.2.2, e⟩⟩]
  refine c_loop (σ := Nat) (fun k a w => k ≤ xs.length ∧ (∀ (i : Nat) (x : TPoint), i < k → xs[i]? = some x → vPt x) ∧ Mem W0 [] (fun b => W0.heap[b]?) [] w ∧ Holds [(33, .slice p xs.length c), (34, .int .i64 xs.length), (35, .int .i64 k)] _ a) (fun k => xs.length - k) 0
    ⟨Nat.zero_le _, fun i x hi => absurd hi (Nat.not_lt_zero _), hm.dropAll, h.keep ⟨rfl, rfl, rfl, trivial⟩⟩ ?_
  clear h hm hc
  rintro k a w ⟨hk, hpre, hm, h⟩
  by_cases hlt : k < xs.length
  · obtain ⟨q1, rfl, hat1⟩ := hx.at hlt
    have g1 : xs[k]? = some xs[k] := List.getElem?_eq_getElem hlt
    have hstep : vPt xs[k] → ∀ (i : Nat) (x : TPoint), i < k + 1 → xs[i]? = some x → vPt x := fun hv i x hi hix => by
      by_cases hik : i < k
      · exact hpre i x hik hix
      · obtain rfl : i = k := by omega
        rw [g1] at hix
        cases hix
        exact hv
    repeat' (first | refine c_seq ?_ | refine c_region ?_ | refine c_nil ?_ | refine k_then ?_ | refine k_thenR ?_ | refine k_inN ?_ | refine k_inR ?_ | refine c_skip ?_ | refine c_ret ?_ | refine c_block ?_ | refine c_condT h rfl ?_ | ((first | refine st_op rfl rfl h ?_ | refine st_opn rfl h ?_); clear h a; (first | (show Does _ (.call _) _ _ _ _; (((refine does_funP hm en85 rfl (all5_ok _ _ _ _ _ _ _) (blk_sl 0 hm rfl rfl (fun _ => rfl)) ?_; clear hm; intro w hm)))) | (show Does _ (.alloc _) _ _ _ _; (refine does_alloc hm ?_; clear hm; intro b w hm)) | (show Does _ (.buildSlice _ _ _) _ _ _ _; (refine does_buildSlice hm rfl rfl rfl ?_; clear hm; intro b w hm; (try simp only [rep, List.replicate_succ, List.replicate_zero, List.flatten_cons, List.flatten_nil, List.cons_append, List.nil_append, Nat.zero_mul, Nat.one_mul, Nat.reduceMul, Value.cells, List.toList_toArray, List.set_cons_zero, List.set_cons_succ, splice, Nat.zero_add, Nat.reduceAdd, Nat.reduceMul, Int.reduceAdd, Int.reduceToNat, Nat.zero_mul, Nat.one_mul, Int.toNat_natCast] at hm))) | (show Does _ (.store _ _ _) _ _ _ _; ((refine does_storeO 0 hm rfl rfl rfl rfl rfl rfl rfl ?_; clear hm; intro w hm; (try simp only [Value.cells, List.toList_toArray, List.set_cons_zero, List.set_cons_succ, splice, Nat.zero_add, Nat.reduceAdd, Nat.reduceMul, Int.reduceAdd, Int.reduceToNat, Nat.zero_mul, Nat.one_mul, Int.toNat_natCast] at hm)))) | (show Does _ (.move _) _ _ _ _; refine does_move rfl ?_) | (show Does _ (.assign _) _ _ _ _; refine does_assign rfl ?_) | (show Does _ (.fieldAddr _ _ _) _ _ _ _; (refine does_fieldAddrL rfl ?_)) | (show Does _ (.load _ _) _ _ _ _; (first | refine does_loadO 0 hm rfl rfl rfl ?_ | refine does_loadBA hm rfl (by assumption) rfl ?_)) | (show Does _ (.binOp _ _ _ _ _) _ _ _ _; (first | refine does_lssT rfl rfl (by omega) ?_ | refine does_add rfl rfl (by omega) ?_)) | (show Does _ (.unOp _ _ _) _ _ _ _; (refine does_notD rfl ?_)) | (show Does _ (.indexAddr _ _ _) _ _ _ _; (refine does_indexSn (by omega) rfl rfl ?_))); intro a h; (try simp only [Value.cells, List.toList_toArray, splice, List.set_cons_zero, List.set_cons_succ, List.drop_zero, List.drop_succ_cons, List.take_succ_cons, List.take_zero, Nat.zero_add, Nat.reduceAdd, Nat.reduceMul, Int.reduceAdd, Int.reduceToNat, Int.reduceTMod, Nat.zero_mul, Nat.one_mul, Int.toNat_natCast] at h)) | ((refine c_condD h rfl ?_ ?_) <;> intro hc <;> (try (fail))))
    · (refine k_ret1 rfl h rfl ⟨?_, hm.below⟩)
      exact boolF (fun hh => hc (hh k _ g1))
    · exact k_thenN ⟨k + 1, ⟨by omega, hstep (Classical.not_not.1 hc), hm.dropAll, h.keep ⟨rfl, rfl, rfl, trivial⟩⟩, by omega⟩
  · have hall : ∀ (i : Nat) (x : TPoint), xs[i]? = some x → vPt x := fun i x hix => hpre i x (by have := (List.getElem?_eq_some_iff.1 hix).1; omega) hix
    repeat' (first | refine c_seq ?_ | refine c_region ?_ | refine c_nil ?_ | refine k_then ?_ | refine k_thenE ?_ | refine k_inE ?_ | refine c_ret ?_ | refine c_exit ?_ | refine c_condF h rfl ?_ | ((refine st_op rfl rfl h ?_); clear h a; (first | (show Does _ (.assign _) _ _ _ _; refine does_assign rfl ?_) | (show Does _ (.binOp _ _ _ _ _) _ _ _ _; (refine does_lssF rfl rfl (by omega) ?_))); intro a h; (try simp only [Value.cells, List.toList_toArray, splice, List.set_cons_zero, List.set_cons_succ, List.drop_zero, List.drop_succ_cons, List.take_succ_cons, List.take_zero, Nat.zero_add, Nat.reduceAdd, Nat.reduceMul, Int.reduceAdd, Int.reduceToNat, Int.reduceTMod, Nat.zero_mul, Nat.one_mul, Int.toNat_natCast] at h)))
    (refine k_ret1 rfl h rfl ⟨?_, hm.below⟩)
    exact boolT hall
end Go.Proofs.Ytcdjneiaoikpnaa.St
