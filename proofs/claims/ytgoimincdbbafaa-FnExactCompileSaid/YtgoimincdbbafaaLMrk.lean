/-
  Contracts of the functions that mark compiled code.
-/
import Derived.Test.YtgoimincdbbafaaLCod
import Derived.Test.YtgoimincdbbafaaStCat
set_option linter.unusedSimpArgs false
set_option linter.unusedVariables false
namespace Go.Proofs.Ytgoimincdbbafaa.St
open Go.RowKit
def mDig : Nat → Int → ByteArray → ByteArray
  | 0, _, acc => acc
  | f + 1, k, acc => if 0 < k then mDig f (k.tdiv 10) (strOfNums [48 + k.tmod 10] ++ acc) else acc
def mText (k : Int) : ByteArray := if k ≤ 0 then ⟨#[109, 48]⟩ else ⟨#[109]⟩ ++ mDig 18 k ⟨#[]⟩
theorem strOfNums_one (n : Int) : (strOfNums [n]).size = 1 := rfl
def p10 (f : Nat) : Int := 10 ^ f
theorem digs {k : Int} (h : 0 < k) {f : Nat} (hf : k < p10 f) : ∃ f', f = f' + 1 ∧ k.tdiv 10 < p10 f' ∧ 0 ≤ k.tdiv 10 ∧ 0 ≤ k.tmod 10 ∧ k.tmod 10 ≤ 9 := by
  unfold p10 at *
  cases f with
  | zero => simp at hf; omega
  | succ f =>
    refine ⟨f, rfl, ?_⟩
    have e : (10 : Int) ^ (f + 1) = 10 * 10 ^ f := by rw [Int.pow_succ, Int.mul_comm]
    rw [e] at hf
    generalize (10 : Int) ^ f = p at hf
    rw [Int.tdiv_eq_ediv_of_nonneg (by omega), Int.tmod_eq_emod_of_nonneg (by omega)]
    omega
theorem mDig_size : ∀ (f : Nat) (k : Int) (acc : ByteArray), (mDig f k acc).size ≤ f + acc.size
  | 0, _, acc => by simp [mDig]
  | f + 1, k, acc => by
    simp only [mDig]
    split
    · have := mDig_size f (k.tdiv 10) (strOfNums [48 + k.tmod 10] ++ acc)
      rw [ByteArray.size_append, strOfNums_one] at this
      omega
    · omega
set_option maxHeartbeats 4000000 in
theorem markText_ok (k : Int) (hk : k < 1000000000000000000) : Fun Try.prog 196 [I k] (.string (mText k)) := by
  refine enterFun Try.func196 rfl Try.ntmps196 rfl (fun W0 w a hm h => ?_)
  by_cases h0 : k ≤ 0
  · repeat' (first | refine c_seq ?_ | refine c_region ?_ | refine c_nil ?_ | refine k_then ?_ | refine k_thenR ?_ | refine c_ret ?_ | refine c_condT h rfl ?_ | ((refine st_op rfl rfl h ?_); clear h a; (first | refine does_move rfl ?_ | refine does_assign rfl ?_ | refine does_leqT rfl rfl (by omega) ?_); intro a h; (try simp only [Value.cells, List.toList_toArray, splice, List.set_cons_zero, List.set_cons_succ, List.drop_zero, List.drop_succ_cons, List.take_succ_cons, List.take_zero, Nat.zero_add, Nat.reduceAdd, Nat.reduceMul, Int.reduceAdd, Int.reduceToNat, Int.reduceTMod, Nat.zero_mul, Nat.one_mul, Int.toNat_natCast] at h)))
    (refine k_ret1 rfl h rfl ⟨?_, hm.below⟩)
    rw [mText, if_pos h0]
  · repeat' (first | refine c_seq ?_ | refine c_region ?_ | refine c_nil ?_ | refine k_then ?_ | refine c_skip ?_ | refine c_block ?_ | refine c_condF h rfl ?_ | ((refine st_op rfl rfl h ?_); clear h a; (first | refine does_move rfl ?_ | refine does_assign rfl ?_ | refine does_leqF rfl rfl (by omega) ?_); intro a h; (try simp only [Value.cells, List.toList_toArray, splice, List.set_cons_zero, List.set_cons_succ, List.drop_zero, List.drop_succ_cons, List.take_succ_cons, List.take_zero, Nat.zero_add, Nat.reduceAdd, Nat.reduceMul, Int.reduceAdd, Int.reduceToNat, Int.reduceTMod, Nat.zero_mul, Nat.one_mul, Int.toNat_natCast] at h)))
    refine c_loop (σ := Nat × Int × ByteArray) (fun s a w => ((0 ≤ s.2.1 ∧ s.2.1 ≤ k) ∧ s.2.1 < p10 s.1) ∧ s.2.2.size + s.1 ≤ 18 ∧ mDig s.1 s.2.1 s.2.2 = mDig 18 k ⟨#[]⟩ ∧ Mem W0 [] (fun b => W0.heap[b]?) [] w ∧ Holds [(0, I s.2.1), (3, .string s.2.2)] _ a) (fun s => s.1) (18, k, ⟨#[]⟩)
      ⟨⟨⟨by show 0 ≤ k; omega, by show k ≤ k; omega⟩, by show k < (10 : Int) ^ 18; omega⟩, Nat.le_refl 18, rfl, hm, h.keep ⟨rfl, rfl, trivial⟩⟩ ?_
    clear h hm
    rintro ⟨f, m, acc⟩ a w ⟨⟨⟨hm0, hmk⟩, hmf⟩, hsz, hd, hm, h⟩
    simp only at hm0 hmk hmf hsz hd hm h
    by_cases hlt : 0 < m
    · obtain ⟨f', rfl, h1, h2, h3, h4⟩ := digs hlt hmf
      have hs1 := strOfNums_one (48 + m.tmod 10)
      have h5 : m.tdiv 10 ≤ m := by rw [Int.tdiv_eq_ediv_of_nonneg hm0]; omega
      repeat' (first | refine c_seq ?_ | refine c_region ?_ | refine c_nil ?_ | refine k_then ?_ | refine c_skip ?_ | refine c_block ?_ | refine c_condT h rfl ?_ | ((refine st_op rfl rfl h ?_); clear h a; (first | refine does_move rfl ?_ | refine does_gtrT rfl rfl (by omega) ?_ | refine does_add rfl rfl (by omega) ?_ | refine does_rem rfl rfl (by omega) ?_); intro a h; (try simp only [Value.cells, List.toList_toArray, splice, List.set_cons_zero, List.set_cons_succ, List.drop_zero, List.drop_succ_cons, List.take_succ_cons, List.take_zero, Nat.zero_add, Nat.reduceAdd, Nat.reduceMul, Int.reduceAdd, Int.reduceToNat, Int.reduceTMod, Nat.zero_mul, Nat.one_mul, Int.toNat_natCast] at h)))
      refine st_op rfl rfl h ?_; clear h a; refine does_convU8 Try.underlying3 Try.underlying5 rfl (by omega) ?_; intro a h
      repeat' (first | refine c_region ?_ | refine c_nil ?_ | refine k_then ?_ | refine k_inN ?_ | ((refine st_op rfl rfl h ?_); clear h a; (first | ((refine does_bytes1 0 Try.underlying73 Try.underlying5 Try.underlying9 hm rfl rfl ?_)) | ((refine does_addStr rfl rfl (by omega) ?_)) | (refine does_buildSlice hm rfl rfl rfl ?_; clear hm; intro b w hm; (try simp only [rep, List.replicate_succ, List.replicate_zero, List.flatten_cons, List.flatten_nil, List.cons_append, List.nil_append, Nat.zero_mul, Nat.one_mul, Nat.reduceMul, Value.cells, List.toList_toArray, List.set_cons_zero, List.set_cons_succ, splice, Nat.zero_add, Nat.reduceAdd, Nat.reduceMul, Int.reduceAdd, Int.reduceToNat, Nat.zero_mul, Nat.one_mul, Int.toNat_natCast] at hm)) | refine does_move rfl ?_ | refine does_assign rfl ?_ | refine does_quo rfl rfl (by omega) ?_); intro a h; (try simp only [Value.cells, List.toList_toArray, splice, List.set_cons_zero, List.set_cons_succ, List.drop_zero, List.drop_succ_cons, List.take_succ_cons, List.take_zero, Nat.zero_add, Nat.reduceAdd, Nat.reduceMul, Int.reduceAdd, Int.reduceToNat, Int.reduceTMod, Nat.zero_mul, Nat.one_mul, Int.toNat_natCast] at h)))
      refine k_thenN ⟨(f', m.tdiv 10, strOfNums [48 + m.tmod 10] ++ acc), ⟨⟨⟨h2, by show m.tdiv 10 ≤ k; omega⟩, h1⟩, by show (strOfNums [48 + m.tmod 10] ++ acc).size + f' ≤ 18; rw [ByteArray.size_append, hs1]; omega, ?_, hm.drop, h.keep ⟨rfl, rfl, trivial⟩⟩, by show f' < f' + 1; omega⟩
      rw [← hd]
      simp only [mDig, if_pos hlt]
    · repeat' (first | refine c_seq ?_ | refine c_region ?_ | refine c_nil ?_ | refine k_then ?_ | refine k_thenE ?_ | refine k_inE ?_ | refine c_ret ?_ | refine c_exit ?_ | refine c_condF h rfl ?_ | ((refine st_op rfl rfl h ?_); clear h a; (first | ((refine does_addStr rfl rfl (by simp only [show (⟨#[109]⟩ : ByteArray).size = 1 from rfl]; omega) ?_)) | refine does_move rfl ?_ | refine does_assign rfl ?_ | refine does_gtrF rfl rfl (by omega) ?_); intro a h; (try simp only [Value.cells, List.toList_toArray, splice, List.set_cons_zero, List.set_cons_succ, List.drop_zero, List.drop_succ_cons, List.take_succ_cons, List.take_zero, Nat.zero_add, Nat.reduceAdd, Nat.reduceMul, Int.reduceAdd, Int.reduceToNat, Int.reduceTMod, Nat.zero_mul, Nat.one_mul, Int.toNat_natCast] at h)))
      (refine k_ret1 rfl h rfl ⟨?_, hm.below⟩)
      have : mDig f m acc = acc := by cases f <;> simp [mDig, hlt]
      rw [mText, if_neg h0, ← hd, this]
def rampS (m : Int) (n : Nat) : List ByteArray := (List.range n).map fun (i : Nat) => mText (m + 1 * (i : Int))
theorem rampS_len (m : Int) (n : Nat) : (rampS m n).length = n := by simp [rampS]
theorem rampS_succ (m : Int) (n : Nat) : rampS m (n + 1) = rampS m n ++ [mText (m + 1 * (n : Int))] := by simp [rampS, List.range_succ]
theorem rampS_get (m : Int) {n i : Nat} (h : i < (rampS m n).length) : (rampS m n)[i] = mText (m + 1 * (i : Int)) := by simp [rampS]
abbrev atIns (m : Int) : TInstruction := (m, mText (m + 1), m + 1 + 1)
def rampIns (m : Int) (n : Nat) : List TInstruction := (List.range n).map fun (i : Nat) => atIns (m + 3 * (i : Int))
theorem rampIns_len (m : Int) (n : Nat) : (rampIns m n).length = n := by simp [rampIns]
theorem rampIns_succ (m : Int) (n : Nat) : rampIns m (n + 1) = rampIns m n ++ [atIns (m + 3 * (n : Int))] := by simp [rampIns, List.range_succ]
theorem rampIns_get (m : Int) {n i : Nat} (h : i < (rampIns m n).length) : (rampIns m n)[i] = atIns (m + 3 * (i : Int)) := by simp [rampIns]
set_option maxHeartbeats 4000000 in
theorem markStringS_nil (p : Option Addr) (c : Nat) (m : Int) : Fun Try.prog 121 [.slice p 0 c, I m] (I m) := by
  refine enterFun Try.func121 rfl Try.ntmps121 rfl (fun W0 w a hm h => ?_)
  repeat' (first | refine c_seq ?_ | refine c_region ?_ | refine c_nil ?_ | refine k_then ?_ | refine k_thenE ?_ | refine k_inE ?_ | refine c_ret ?_ | refine c_exit ?_ | refine c_block ?_ | refine r_succ ?_ | refine c_condF h rfl ?_ | (refine c_rounds 1 ?_) | ((refine st_op rfl rfl h ?_); clear h a; (first | refine does_move rfl ?_ | refine does_assign rfl ?_ | refine does_lssF rfl rfl (by omega) ?_ | refine does_lenS (SliceT.out) rfl ?_); intro a h; (try simp only [Value.cells, List.toList_toArray, splice, List.set_cons_zero, List.set_cons_succ, List.drop_zero, List.drop_succ_cons, List.take_succ_cons, List.take_zero, Nat.zero_add, Nat.reduceAdd, Nat.reduceMul, Int.reduceAdd, Int.reduceToNat, Int.reduceTMod, Nat.zero_mul, Nat.one_mul, Int.toNat_natCast] at h)))
  (refine k_ret1 rfl h rfl ⟨?_, hm.below⟩)
  rfl
set_option maxHeartbeats 4000000 in
theorem markStringS_ok (v : Value) (xs : List ByteArray) (m : Int) (hm0 : 0 ≤ m ∧ m ≤ 100000000) (hxs : xs.length ≤ 100000000) : FunW Try.prog 121 [v, I m] v 9 1 (xs.map eS).flatten ((rampS m xs.length).map eS).flatten (I (m + 1 * xs.length)) := by
  have hfl := flat_len (enc := eS) (sz := 1) (fun _ => rfl) xs
  have hfr := flat_len (enc := eS) (sz := 1) (fun _ => rfl) (rampS m xs.length)
  rw [rampS_len] at hfr
  refine enterFunW Try.func121 rfl Try.ntmps121 rfl (by rw [hfl, hfr]) (fun W0 w a n hv hn hcs hm h => ?_) (fun W0 w a n b cap spare hv hn hcap hlen hm h => ?_)
  · subst hv
    have hx0 : xs.length = 0 := by rw [hcs] at hfl; simp at hfl; omega
    repeat' (first | refine c_seq ?_ | refine c_region ?_ | refine c_nil ?_ | refine k_then ?_ | refine k_thenE ?_ | refine k_inE ?_ | refine c_ret ?_ | refine c_exit ?_ | refine c_block ?_ | refine r_succ ?_ | refine c_condF h rfl ?_ | (refine c_rounds 1 ?_) | ((refine st_op rfl rfl h ?_); clear h a; (first | refine does_move rfl ?_ | refine does_assign rfl ?_ | refine does_lssF rfl rfl (by omega) ?_ | refine does_lenS (SliceT.out) rfl ?_); intro a h; (try simp only [Value.cells, List.toList_toArray, splice, List.set_cons_zero, List.set_cons_succ, List.drop_zero, List.drop_succ_cons, List.take_succ_cons, List.take_zero, Nat.zero_add, Nat.reduceAdd, Nat.reduceMul, Int.reduceAdd, Int.reduceToNat, Int.reduceTMod, Nat.zero_mul, Nat.one_mul, Int.toNat_natCast] at h)))
    refine k_ret1 rfl h rfl ⟨?_, hm.below⟩
    exact intE (by omega)
  · subst hv
    obtain rfl : n = xs.length := by omega
    repeat' (first | refine c_seq ?_ | refine c_region ?_ | refine c_nil ?_ | refine k_then ?_ | refine c_block ?_ | ((refine st_op rfl rfl h ?_); clear h a; (refine does_assign rfl ?_); intro a h; (try simp only [Value.cells, List.toList_toArray, splice, List.set_cons_zero, List.set_cons_succ, List.drop_zero, List.drop_succ_cons, List.take_succ_cons, List.take_zero, Nat.zero_add, Nat.reduceAdd, Nat.reduceMul, Int.reduceAdd, Int.reduceToNat, Int.reduceTMod, Nat.zero_mul, Nat.one_mul, Int.toNat_natCast] at h)))
    refine c_loop (σ := Nat) (fun k a w => k ≤ xs.length ∧ Mem W0 [b] (fun k => if k = b then none else W0.heap[k]?) [.blk b (.cells (((rampS m k).map eS).flatten ++ (((xs.drop k).map eS).flatten ++ spare)).toArray 9)] w ∧ Holds [(0, .slice (some ⟨b, 0, none⟩) xs.length cap), (1, I (m + 1 * k)), (5, .int .i64 k)] _ a) (fun k => xs.length - k) 0
      ⟨Nat.zero_le _, by simpa [rampS] using hm, by simp only [Int.natCast_zero, Int.mul_zero, Int.add_zero]; exact h.keep ⟨rfl, rfl, rfl, trivial⟩⟩ ?_
    clear h hm
    rintro k a w ⟨hk, hm, h⟩
    by_cases hlt : k < xs.length
    · rw [List.drop_eq_getElem_cons hlt, List.map_cons, List.flatten_cons, List.append_assoc] at hm
      have hA := flat_len (enc := eS) (sz := 1) (fun _ => rfl) (rampS m k)
      rw [rampS_len] at hA
      generalize hg : ((rampS m k).map eS).flatten = A at hm hA
      repeat' (first | refine c_seq ?_ | refine c_region ?_ | refine c_nil ?_ | refine k_then ?_ | refine k_inN ?_ | refine c_skip ?_ | refine c_block ?_ | refine c_condT h rfl ?_ | ((first | refine st_op rfl rfl h ?_ | refine st_opn rfl h ?_); clear h a; (first | (refine does_storeM0 0 hm rfl rfl rfl (by assumption) (by omega) rfl rfl rfl rfl ?_; clear hm; intro w hm; (try simp only [Value.cells, List.toList_toArray, List.set_cons_zero, List.set_cons_succ, splice, Nat.zero_add, Nat.reduceAdd, Nat.reduceMul, Int.reduceAdd, Int.reduceToNat, Nat.zero_mul, Nat.one_mul, Int.toNat_natCast] at hm)) | (refine does_funM hm en196 rfl (markText_ok _ (by omega)) ?_; clear hm; intro w hm) | refine does_move rfl ?_ | refine does_assign rfl ?_ | refine does_lssT rfl rfl (by omega) ?_ | refine does_add rfl rfl (by omega) ?_ | refine does_lenS (SliceT.out) rfl ?_ | refine does_indexSL1 (by omega) rfl rfl ?_); intro a h; (try simp only [Value.cells, List.toList_toArray, splice, List.set_cons_zero, List.set_cons_succ, List.drop_zero, List.drop_succ_cons, List.take_succ_cons, List.take_zero, Nat.zero_add, Nat.reduceAdd, Nat.reduceMul, Int.reduceAdd, Int.reduceToNat, Int.reduceTMod, Nat.zero_mul, Nat.one_mul, Int.toNat_natCast] at h)))
      have e1 : m + 1 * (k : Int) + 1 = m + 1 * ((k + 1 : Nat) : Int) := by omega
      have e2 : ((rampS m (k + 1)).map eS).flatten = A ++ eS (mText (m + 1 * k)) := by rw [rampS_succ, List.map_append, List.flatten_append, hg]; simp
      refine k_thenN ⟨k + 1, ⟨by omega, ?_, ?_⟩, by omega⟩
      · rw [e2, List.append_assoc]
        exact hm
      · rw [← e1]
        exact h.keep ⟨rfl, rfl, rfl, trivial⟩
    · obtain rfl : k = xs.length := by omega
      rw [List.drop_length] at hm
      repeat' (first | refine c_seq ?_ | refine c_region ?_ | refine c_nil ?_ | refine k_then ?_ | refine k_thenE ?_ | refine k_inE ?_ | refine c_ret ?_ | refine c_exit ?_ | refine c_condF h rfl ?_ | ((refine st_op rfl rfl h ?_); clear h a; (first | refine does_move rfl ?_ | refine does_assign rfl ?_ | refine does_lssF rfl rfl (by omega) ?_ | refine does_lenS (SliceT.out) rfl ?_); intro a h; (try simp only [Value.cells, List.toList_toArray, splice, List.set_cons_zero, List.set_cons_succ, List.drop_zero, List.drop_succ_cons, List.take_succ_cons, List.take_zero, Nat.zero_add, Nat.reduceAdd, Nat.reduceMul, Int.reduceAdd, Int.reduceToNat, Int.reduceTMod, Nat.zero_mul, Nat.one_mul, Int.toNat_natCast] at h)))
      refine k_ret1 rfl h rfl ⟨rfl, ?_⟩
      simpa using hm
set_option maxHeartbeats 4000000 in
theorem heldStringS_ok (p : Option Addr) (n c : Nat) (m : Int) (hm0 : 0 ≤ m ∧ m ≤ 100000000) (hxs : n ≤ 100000000) : FunP Try.prog 123 [.slice p n c, I m] (fun H => Sl H p eS 1 (rampS m n)) (I (m + 1 * n)) := by
  refine enterFunP Try.func123 rfl Try.ntmps123 rfl (fun W0 w a hp hm h => ?_)
  repeat' (first | refine c_seq ?_ | refine c_region ?_ | refine c_nil ?_ | refine k_then ?_ | refine c_block ?_ | ((refine st_op rfl rfl h ?_); clear h a; (refine does_assign rfl ?_); intro a h; (try simp only [Value.cells, List.toList_toArray, splice, List.set_cons_zero, List.set_cons_succ, List.drop_zero, List.drop_succ_cons, List.take_succ_cons, List.take_zero, Nat.zero_add, Nat.reduceAdd, Nat.reduceMul, Int.reduceAdd, Int.reduceToNat, Int.reduceTMod, Nat.zero_mul, Nat.one_mul, Int.toNat_natCast] at h)))
  refine c_loop (σ := Nat) (fun k a w => k ≤ n ∧ Mem W0 [] (fun b => W0.heap[b]?) [] w ∧ Holds [(0, .slice p n c), (1, I (m + 1 * k)), (5, .int .i64 k)] _ a) (fun k => n - k) 0
    ⟨Nat.zero_le _, hm, by simp only [Int.natCast_zero, Int.mul_zero, Int.add_zero]; exact h.keep ⟨rfl, rfl, rfl, trivial⟩⟩ ?_
  clear h hm
  rintro k a w ⟨hk, hm, h⟩
  by_cases hlt : k < n
  · obtain ⟨q1, rfl, hat1⟩ := hp.atS (k := k) (by rw [rampS_len]; exact hlt)
    rw [rampS_get] at hat1
    repeat' (first | refine c_seq ?_ | refine c_region ?_ | refine c_nil ?_ | refine k_then ?_ | refine k_inN ?_ | refine c_skip ?_ | refine c_block ?_ | refine c_condT h rfl ?_ | refine c_condF h rfl ?_ | ((refine st_op rfl rfl h ?_); clear h a; (first | refine does_move rfl ?_ | refine does_assign rfl ?_ | refine does_lssT rfl rfl (by omega) ?_ | refine does_add rfl rfl (by omega) ?_ | refine does_lenS (SliceT.out) rfl ?_); intro a h; (try simp only [Value.cells, List.toList_toArray, splice, List.set_cons_zero, List.set_cons_succ, List.drop_zero, List.drop_succ_cons, List.take_succ_cons, List.take_zero, Nat.zero_add, Nat.reduceAdd, Nat.reduceMul, Int.reduceAdd, Int.reduceToNat, Int.reduceTMod, Nat.zero_mul, Nat.one_mul, Int.toNat_natCast] at h)) | (apply c_drawM (id := 4) 7 [.val _, .val _, .val _, .val _, .val _, .val _, .val _] mixed (by kernel_rfl) (h := h) (hm := hm); (case vcs => (repeat' (first | exact vcs_nil | refine vcs_cons ?_ ?_ | (intro w hm; (repeat (first | refine dep_val ?_ | refine dep_nil ?_)); first | exact vc_skip rfl | exact vc_alloc rfl | exact vc_box rfl rfl rfl | exact vc_buildSlice rfl rfl rfl rfl | exact vc_makeSlice (by omega) (by omega) rfl rfl rfl | exact vc_store rfl rfl rfl rfl rfl rfl rfl rfl rfl rfl | (apply vc_run rfl; (first | (refine does_funX en196 rfl (markText_ok _ (by omega)) ?_) | refine does_move rfl ?_ | refine does_loadB hm rfl (by assumption) rfl ?_ | refine does_neqStrS rfl rfl ?_ | refine does_indexS1 (by omega) rfl rfl ?_); (first | exact ⟨ext_refl _, rfl⟩ | exact fun _ hx => ⟨hx, rfl⟩)))))); (case hup => kernel_rfl); (case hown => kernel_rfl); (case hnp => kernel_rfl); clear h hm a; intro  w hm; (try simp only [List.map_nil, List.nil_append] at hm); (repeat (first | refine dep_val ?_ | refine dep_nil ?_)); intro a h; (try simp only [Value.cells, List.toList_toArray, splice, List.set_cons_zero, List.set_cons_succ, List.drop_zero, List.drop_succ_cons, List.take_succ_cons, List.take_zero, Nat.zero_add, Nat.reduceAdd, Nat.reduceMul, Int.reduceAdd, Int.reduceToNat, Int.reduceTMod, Nat.zero_mul, Nat.one_mul, Int.toNat_natCast] at h)))
    have e1 : m + 1 * (k : Int) + 1 = m + 1 * ((k + 1 : Nat) : Int) := by omega
    refine k_thenN ⟨k + 1, ⟨by omega, hm, ?_⟩, by omega⟩
    rw [← e1]
    exact h.keep ⟨rfl, rfl, rfl, trivial⟩
  · obtain rfl : k = n := by omega
    repeat' (first | refine c_seq ?_ | refine c_region ?_ | refine c_nil ?_ | refine k_then ?_ | refine k_thenE ?_ | refine k_inE ?_ | refine c_ret ?_ | refine c_exit ?_ | refine c_condF h rfl ?_ | ((refine st_op rfl rfl h ?_); clear h a; (first | refine does_move rfl ?_ | refine does_assign rfl ?_ | refine does_lssF rfl rfl (by omega) ?_ | refine does_lenS (SliceT.out) rfl ?_); intro a h; (try simp only [Value.cells, List.toList_toArray, splice, List.set_cons_zero, List.set_cons_succ, List.drop_zero, List.drop_succ_cons, List.take_succ_cons, List.take_zero, Nat.zero_add, Nat.reduceAdd, Nat.reduceMul, Int.reduceAdd, Int.reduceToNat, Int.reduceTMod, Nat.zero_mul, Nat.one_mul, Int.toNat_natCast] at h)))
    (refine k_ret1 rfl h rfl ⟨?_, hm.below⟩)
    rfl
set_option maxHeartbeats 4000000 in
theorem markInstructionS_nil (p : Option Addr) (c : Nat) (m : Int) : Fun Try.prog 120 [.slice p 0 c, I m] (I m) := by
  refine enterFun Try.func120 rfl Try.ntmps120 rfl (fun W0 w a hm h => ?_)
  repeat' (first | refine c_seq ?_ | refine c_region ?_ | refine c_nil ?_ | refine k_then ?_ | refine k_thenE ?_ | refine k_inE ?_ | refine c_ret ?_ | refine c_exit ?_ | refine c_block ?_ | refine r_succ ?_ | refine c_condF h rfl ?_ | (refine c_rounds 1 ?_) | ((refine st_op rfl rfl h ?_); clear h a; (first | refine does_move rfl ?_ | refine does_assign rfl ?_ | refine does_lssF rfl rfl (by omega) ?_ | refine does_lenS (SliceT.out) rfl ?_); intro a h; (try simp only [Value.cells, List.toList_toArray, splice, List.set_cons_zero, List.set_cons_succ, List.drop_zero, List.drop_succ_cons, List.take_succ_cons, List.take_zero, Nat.zero_add, Nat.reduceAdd, Nat.reduceMul, Int.reduceAdd, Int.reduceToNat, Int.reduceTMod, Nat.zero_mul, Nat.one_mul, Int.toNat_natCast] at h)))
  (refine k_ret1 rfl h rfl ⟨?_, hm.below⟩)
  rfl
set_option maxHeartbeats 4000000 in
theorem markInstructionS_ok (v : Value) (xs : List TInstruction) (m : Int) (hm0 : 0 ≤ m ∧ m ≤ 100000000) (hxs : xs.length ≤ 100000000) : FunW Try.prog 120 [v, I m] v 181 3 (xs.map eInstruction).flatten ((rampIns m xs.length).map eInstruction).flatten (I (m + 3 * xs.length)) := by
  have hfl := flat_len (enc := eInstruction) (sz := 3) (fun _ => rfl) xs
  have hfr := flat_len (enc := eInstruction) (sz := 3) (fun _ => rfl) (rampIns m xs.length)
  rw [rampIns_len] at hfr
  refine enterFunW Try.func120 rfl Try.ntmps120 rfl (by rw [hfl, hfr]) (fun W0 w a n hv hn hcs hm h => ?_) (fun W0 w a n b cap spare hv hn hcap hlen hm h => ?_)
  · subst hv
    have hx0 : xs.length = 0 := by rw [hcs] at hfl; simp at hfl; omega
    repeat' (first | refine c_seq ?_ | refine c_region ?_ | refine c_nil ?_ | refine k_then ?_ | refine k_thenE ?_ | refine k_inE ?_ | refine c_ret ?_ | refine c_exit ?_ | refine c_block ?_ | refine r_succ ?_ | refine c_condF h rfl ?_ | (refine c_rounds 1 ?_) | ((refine st_op rfl rfl h ?_); clear h a; (first | refine does_move rfl ?_ | refine does_assign rfl ?_ | refine does_lssF rfl rfl (by omega) ?_ | refine does_lenS (SliceT.out) rfl ?_); intro a h; (try simp only [Value.cells, List.toList_toArray, splice, List.set_cons_zero, List.set_cons_succ, List.drop_zero, List.drop_succ_cons, List.take_succ_cons, List.take_zero, Nat.zero_add, Nat.reduceAdd, Nat.reduceMul, Int.reduceAdd, Int.reduceToNat, Int.reduceTMod, Nat.zero_mul, Nat.one_mul, Int.toNat_natCast] at h)))
    refine k_ret1 rfl h rfl ⟨?_, hm.below⟩
    exact intE (by omega)
  · subst hv
    obtain rfl : n = xs.length := by omega
    repeat' (first | refine c_seq ?_ | refine c_region ?_ | refine c_nil ?_ | refine k_then ?_ | refine c_block ?_ | ((refine st_op rfl rfl h ?_); clear h a; (refine does_assign rfl ?_); intro a h; (try simp only [Value.cells, List.toList_toArray, splice, List.set_cons_zero, List.set_cons_succ, List.drop_zero, List.drop_succ_cons, List.take_succ_cons, List.take_zero, Nat.zero_add, Nat.reduceAdd, Nat.reduceMul, Int.reduceAdd, Int.reduceToNat, Int.reduceTMod, Nat.zero_mul, Nat.one_mul, Int.toNat_natCast] at h)))
    refine c_loop (σ := Nat) (fun k a w => k ≤ xs.length ∧ Mem W0 [b] (fun k => if k = b then none else W0.heap[k]?) [.blk b (.cells (((rampIns m k).map eInstruction).flatten ++ (((xs.drop k).map eInstruction).flatten ++ spare)).toArray 181)] w ∧ Holds [(0, .slice (some ⟨b, 0, none⟩) xs.length cap), (1, I (m + 3 * k)), (5, .int .i64 k)] _ a) (fun k => xs.length - k) 0
      ⟨Nat.zero_le _, by simpa [rampIns] using hm, by simp only [Int.natCast_zero, Int.mul_zero, Int.add_zero]; exact h.keep ⟨rfl, rfl, rfl, trivial⟩⟩ ?_
    clear h hm
    rintro k a w ⟨hk, hm, h⟩
    by_cases hlt : k < xs.length
    · rw [List.drop_eq_getElem_cons hlt, List.map_cons, List.flatten_cons, List.append_assoc] at hm
      have hA := flat_len (enc := eInstruction) (sz := 3) (fun _ => rfl) (rampIns m k)
      rw [rampIns_len] at hA
      generalize hg : ((rampIns m k).map eInstruction).flatten = A at hm hA
      repeat' (first | refine c_seq ?_ | refine c_region ?_ | refine c_nil ?_ | refine k_then ?_ | refine k_inN ?_ | refine c_skip ?_ | refine c_block ?_ | refine c_condT h rfl ?_ | ((first | refine st_op rfl rfl h ?_ | refine st_opn rfl h ?_); clear h a; (first | (refine does_storeM 0 hm rfl rfl rfl (by assumption) (by omega) rfl rfl rfl rfl ?_; clear hm; intro w hm; (try simp only [Value.cells, List.toList_toArray, List.set_cons_zero, List.set_cons_succ, splice, Nat.zero_add, Nat.reduceAdd, Nat.reduceMul, Int.reduceAdd, Int.reduceToNat, Nat.zero_mul, Nat.one_mul, Int.toNat_natCast] at hm)) | (refine does_funM hm en196 rfl (markText_ok _ (by omega)) ?_; clear hm; intro w hm) | refine does_move rfl ?_ | refine does_assign rfl ?_ | refine does_fieldAddrL rfl ?_ | refine does_lssT rfl rfl (by omega) ?_ | refine does_add rfl rfl (by omega) ?_ | refine does_lenS (SliceT.out) rfl ?_ | refine does_indexSLn (by omega) rfl rfl ?_); intro a h; (try simp only [Value.cells, List.toList_toArray, splice, List.set_cons_zero, List.set_cons_succ, List.drop_zero, List.drop_succ_cons, List.take_succ_cons, List.take_zero, Nat.zero_add, Nat.reduceAdd, Nat.reduceMul, Int.reduceAdd, Int.reduceToNat, Int.reduceTMod, Nat.zero_mul, Nat.one_mul, Int.toNat_natCast] at h)))
      have e1 : m + 3 * (k : Int) + 1 + 1 + 1 = m + 3 * ((k + 1 : Nat) : Int) := by omega
      have e2 : ((rampIns m (k + 1)).map eInstruction).flatten = A ++ eInstruction (atIns (m + 3 * k)) := by rw [rampIns_succ, List.map_append, List.flatten_append, hg]; simp
      refine k_thenN ⟨k + 1, ⟨by omega, ?_, ?_⟩, by omega⟩
      · rw [e2, List.append_assoc]
        exact hm
      · rw [← e1]
        exact h.keep ⟨rfl, rfl, rfl, trivial⟩
    · obtain rfl : k = xs.length := by omega
      rw [List.drop_length] at hm
      repeat' (first | refine c_seq ?_ | refine c_region ?_ | refine c_nil ?_ | refine k_then ?_ | refine k_thenE ?_ | refine k_inE ?_ | refine c_ret ?_ | refine c_exit ?_ | refine c_condF h rfl ?_ | ((refine st_op rfl rfl h ?_); clear h a; (first | refine does_move rfl ?_ | refine does_assign rfl ?_ | refine does_lssF rfl rfl (by omega) ?_ | refine does_lenS (SliceT.out) rfl ?_); intro a h; (try simp only [Value.cells, List.toList_toArray, splice, List.set_cons_zero, List.set_cons_succ, List.drop_zero, List.drop_succ_cons, List.take_succ_cons, List.take_zero, Nat.zero_add, Nat.reduceAdd, Nat.reduceMul, Int.reduceAdd, Int.reduceToNat, Int.reduceTMod, Nat.zero_mul, Nat.one_mul, Int.toNat_natCast] at h)))
      refine k_ret1 rfl h rfl ⟨rfl, ?_⟩
      simpa using hm
set_option maxHeartbeats 4000000 in
theorem heldInstructionS_ok (p : Option Addr) (n c : Nat) (m : Int) (hm0 : 0 ≤ m ∧ m ≤ 100000000) (hxs : n ≤ 100000000) : FunP Try.prog 122 [.slice p n c, I m] (fun H => Sl H p eInstruction 3 (rampIns m n)) (I (m + 3 * n)) := by
  refine enterFunP Try.func122 rfl Try.ntmps122 rfl (fun W0 w a hp hm h => ?_)
  repeat' (first | refine c_seq ?_ | refine c_region ?_ | refine c_nil ?_ | refine k_then ?_ | refine c_block ?_ | ((refine st_op rfl rfl h ?_); clear h a; (refine does_assign rfl ?_); intro a h; (try simp only [Value.cells, List.toList_toArray, splice, List.set_cons_zero, List.set_cons_succ, List.drop_zero, List.drop_succ_cons, List.take_succ_cons, List.take_zero, Nat.zero_add, Nat.reduceAdd, Nat.reduceMul, Int.reduceAdd, Int.reduceToNat, Int.reduceTMod, Nat.zero_mul, Nat.one_mul, Int.toNat_natCast] at h)))
  refine c_loop (σ := Nat) (fun k a w => k ≤ n ∧ Mem W0 [] (fun b => W0.heap[b]?) [] w ∧ Holds [(0, .slice p n c), (1, I (m + 3 * k)), (5, .int .i64 k)] _ a) (fun k => n - k) 0
    ⟨Nat.zero_le _, hm, by simp only [Int.natCast_zero, Int.mul_zero, Int.add_zero]; exact h.keep ⟨rfl, rfl, rfl, trivial⟩⟩ ?_
  clear h hm
  rintro k a w ⟨hk, hm, h⟩
  by_cases hlt : k < n
  · obtain ⟨q1, rfl, hat1⟩ := hp.at (k := k) (by rw [rampIns_len]; exact hlt)
    rw [rampIns_get] at hat1
    repeat' (first | refine c_seq ?_ | refine c_region ?_ | refine c_nil ?_ | refine k_then ?_ | refine k_inN ?_ | refine c_skip ?_ | refine c_block ?_ | refine c_condT h rfl ?_ | refine c_condF h rfl ?_ | ((refine st_op rfl rfl h ?_); clear h a; (first | refine does_move rfl ?_ | refine does_assign rfl ?_ | refine does_loadB hm rfl (by assumption) rfl ?_ | refine does_loadB hm rfl (At.add (by assumption) _) rfl ?_ | refine does_fieldAddr rfl ?_ | refine does_lssT rfl rfl (by omega) ?_ | refine does_neqF rfl rfl (by omega) ?_ | refine does_add rfl rfl (by omega) ?_ | refine does_lenS (SliceT.out) rfl ?_ | refine does_indexSn (by omega) rfl rfl ?_); intro a h; (try simp only [Value.cells, List.toList_toArray, splice, List.set_cons_zero, List.set_cons_succ, List.drop_zero, List.drop_succ_cons, List.take_succ_cons, List.take_zero, Nat.zero_add, Nat.reduceAdd, Nat.reduceMul, Int.reduceAdd, Int.reduceToNat, Int.reduceTMod, Nat.zero_mul, Nat.one_mul, Int.toNat_natCast] at h)) | (apply c_drawM (id := 7) 8 [.val _, .val _, .val _, .val _, .val _, .val _, .val _, .val _] mixed (by kernel_rfl) (h := h) (hm := hm); (case vcs => (repeat' (first | exact vcs_nil | refine vcs_cons ?_ ?_ | (intro w hm; (repeat (first | refine dep_val ?_ | refine dep_nil ?_)); first | exact vc_skip rfl | exact vc_alloc rfl | exact vc_box rfl rfl rfl | exact vc_buildSlice rfl rfl rfl rfl | exact vc_makeSlice (by omega) (by omega) rfl rfl rfl | exact vc_store rfl rfl rfl rfl rfl rfl rfl rfl rfl rfl | (apply vc_run rfl; (first | (refine does_funX en196 rfl (markText_ok _ (by omega)) ?_) | refine does_move rfl ?_ | refine does_loadB hm rfl (At.add (by assumption) _) rfl ?_ | refine does_fieldAddr rfl ?_ | refine does_neqStrS rfl rfl ?_ | refine does_indexSn (by omega) rfl rfl ?_); (first | exact ⟨ext_refl _, rfl⟩ | exact fun _ hx => ⟨hx, rfl⟩)))))); (case hup => kernel_rfl); (case hown => kernel_rfl); (case hnp => kernel_rfl); clear h hm a; intro  w hm; (try simp only [List.map_nil, List.nil_append] at hm); (repeat (first | refine dep_val ?_ | refine dep_nil ?_)); intro a h; (try simp only [Value.cells, List.toList_toArray, splice, List.set_cons_zero, List.set_cons_succ, List.drop_zero, List.drop_succ_cons, List.take_succ_cons, List.take_zero, Nat.zero_add, Nat.reduceAdd, Nat.reduceMul, Int.reduceAdd, Int.reduceToNat, Int.reduceTMod, Nat.zero_mul, Nat.one_mul, Int.toNat_natCast] at h)))
    have e1 : m + 3 * (k : Int) + 1 + 1 + 1 = m + 3 * ((k + 1 : Nat) : Int) := by omega
    refine k_thenN ⟨k + 1, ⟨by omega, hm, ?_⟩, by omega⟩
    rw [← e1]
    exact h.keep ⟨rfl, rfl, rfl, trivial⟩
  · obtain rfl : k = n := by omega
    repeat' (first | refine c_seq ?_ | refine c_region ?_ | refine c_nil ?_ | refine k_then ?_ | refine k_thenE ?_ | refine k_inE ?_ | refine c_ret ?_ | refine c_exit ?_ | refine c_condF h rfl ?_ | ((refine st_op rfl rfl h ?_); clear h a; (first | refine does_move rfl ?_ | refine does_assign rfl ?_ | refine does_lssF rfl rfl (by omega) ?_ | refine does_lenS (SliceT.out) rfl ?_); intro a h; (try simp only [Value.cells, List.toList_toArray, splice, List.set_cons_zero, List.set_cons_succ, List.drop_zero, List.drop_succ_cons, List.take_succ_cons, List.take_zero, Nat.zero_add, Nat.reduceAdd, Nat.reduceMul, Int.reduceAdd, Int.reduceToNat, Int.reduceTMod, Nat.zero_mul, Nat.one_mul, Int.toNat_natCast] at h)))
    (refine k_ret1 rfl h rfl ⟨?_, hm.below⟩)
    rfl
end Go.Proofs.Ytgoimincdbbafaa.St
