/-
  To which assignment each node belongs: the reference's walk over the nodes; the last assignment to a name.
-/
import Derived.Test.YtcbnegmmjflmcaaGreatJ14
import Derived.Test.YtcbnegmmjflmcaaGreatJ3
set_option linter.unusedSimpArgs false
set_option linter.unusedVariables false
namespace Go.Proofs.YtcbnegmmjflmcaaGreat.St
open Go.RowKit
def Gd (ns : List PNode) (ys : List TAssignment) (us : List Int) (m : Nat) : Prop := ∃ k : Nat, us[m]? = some (k : Int) ∧ Own1 ns ys m k
theorem Gd.set {ns : List PNode} {ys : List TAssignment} {us : List Int} {c k : Nat} (hc : c < us.length) (ho : Own1 ns ys c k) {m : Nat} (h : Gd ns ys us m ∨ m = c) : Gd ns ys (us.set c k) m := by
  by_cases hmc : m = c
  · subst hmc
    exact ⟨k, List.getElem?_set_self hc, ho⟩
  · obtain ⟨k', h1, h2⟩ := h.resolve_right hmc
    exact ⟨k', by rw [List.getElem?_set_ne fun e => hmc e.symm, h1], h2⟩
set_option maxHeartbeats 16000000 in
theorem sOwners_ok (p q : Option Addr) (xs : List TNode) (ys : List TAssignment) (c d : Nat) (hys : ys.length ≤ 1048576) (hv : vProg (xs.map aN) ys) :
    FunV2 Tryz.prog 103 [.agg #[.slice p xs.length c, .slice q ys.length d]] (fun H => ProgH H p q xs ys) 3 1 (fun cs => ∃ os, cs = (os.map eI).flatten ∧ OwnL (xs.map aN) ys os) := by
  have hlen : (xs.map aN).length = xs.length := List.length_map _
  have hxs : xs.length ≤ 60 := by have := hv.small; omega
  refine enterFunV2 Tryz.func103 rfl Tryz.ntmps103 rfl (fun W0 w a hp hm h => ?_)
  obtain ⟨hx, hy⟩ := hp
  repeat' (first | refine c_seq ?_ | refine c_region ?_ | refine c_nil ?_ | refine k_then ?_ | refine c_block ?_ | (((refine st_op (d := 1) rfl rfl h ?_; refine does_box hm rfl rfl ?_; clear h a hm; intro b_1 w hm a h))) | ((refine st_op rfl rfl h ?_); clear h a; (first | (show Does _ (.makeSlice _ _ _) _ _ _ _; ((refine does_make hm rfl rfl (by omega) (by omega) ?_; clear hm; intro b w hm))) | (show Does _ (.move _) _ _ _ _; refine does_move rfl ?_) | (show Does _ (.assign _) _ _ _ _; refine does_assign rfl ?_) | (show Does _ (.fieldAddr _ _ _) _ _ _ _; (refine does_fieldAddrL rfl ?_)) | (show Does _ (.load _ _) _ _ _ _; (refine zl hm rfl rfl ?_)) | (show Does _ (.call _) _ _ _ _; refine does_lenS (SliceT.out) rfl ?_)); intro a h; (first | simp only [Value.cells, splice, nz, Nat.reduceAdd, Nat.reduceMul, Int.reduceAdd, Int.reduceToNat, Int.reduceTMod] at h | skip)))
  rw [rep_cnt] at hm
  refine c_loop (σ := Nat × List Int) (fun s a w => s.1 ≤ ys.length ∧ s.2.length = xs.length ∧ (∀ (k' r : Nat) (y : TAssignment), k' < s.1 → ys[k']? = some y → y.2 = r → Gd (xs.map aN) ys s.2 r) ∧ Mem W0 [] (fun b => W0.heap[b]?) [.blk b (.cells (s.2.map I).toArray 3), .blk b_1 (.cells [.slice p xs.length c, .slice q ys.length d].toArray 108)] w ∧
    Holds [(1, ptr0 b_1), (3, .slice (some ⟨b, 0, none⟩) xs.length xs.length), (14, .slice q ys.length d), (15, .int .i64 ys.length), (16, .int .i64 s.1)] _ a) (fun s => ys.length - s.1) (0, cntL xs.length [])
    ⟨Nat.zero_le _, cntL_len _ _, fun k' r y hk' => absurd hk' (Nat.not_lt_zero _), hm, h.keep ⟨rfl, rfl, rfl, rfl, rfl, trivial⟩⟩ ?_
  clear h hm
  rintro ⟨k, us⟩ a w ⟨hk, hul, hgd, hm, h⟩
  simp only at hk hul hgd hm h
  by_cases hlt : k < ys.length
  · obtain ⟨q1, rfl, hat1⟩ := hy.at hlt
    have g1 : ys[k]? = some ys[k] := List.getElem?_eq_getElem hlt
    have has := hv.asg _ (List.getElem_mem hlt)
    obtain ⟨r, hr0⟩ : ∃ r : Nat, ys[k].2 = (r : Int) := ⟨ys[k].2.toNat, by omega⟩
    have hrn : r < xs.length := by omega
    change At _ _ [.string ys[k].1, I ys[k].2] at hat1
    rw [hr0] at hat1
    repeat' (first | refine c_seq ?_ | refine c_region ?_ | refine c_nil ?_ | refine k_then ?_ | refine k_inN ?_ | refine c_skip ?_ | refine c_block ?_ | refine c_condT h rfl ?_ | (((refine st_op (d := 5) rfl rfl h ?_; refine does_alloc hm ?_; clear h a hm; intro b_5 w hm a h))) | ((first | refine st_op rfl rfl h ?_ | refine st_opn rfl h ?_); clear h a; (first | (show Does _ (.store _ _ _) _ _ _ _; (first | ((refine does_storeArr (u := (k : Int)) 1 hm rfl rfl rfl rfl rfl (by omega) rfl rfl rfl ?_; clear hm; intro w hm; simp only [List.set_cons_succ, List.set_cons_zero] at hm)) | ((refine zs hm rfl rfl rfl rfl rfl rfl ?_); clear hm; intro w hm; (simp only [Value.cells, splice, nz, ns, Nat.reduceAdd, Nat.reduceMul, Int.reduceAdd, Int.reduceToNat] at hm)))) | (show Does _ (.move _) _ _ _ _; refine does_move rfl ?_) | (show Does _ (.assign _) _ _ _ _; refine does_assign rfl ?_) | (show Does _ (.fieldAddr _ _ _) _ _ _ _; (refine does_fieldAddrL rfl ?_)) | (show Does _ (.load _ _) _ _ _ _; (first | refine zl hm rfl rfl ?_ | refine does_loadBA hm rfl (by assumption) rfl ?_)) | (show Does _ (.binOp _ _ _ _ _) _ _ _ _; (first | refine zlss rfl rfl ?_ | refine zadd rfl rfl ?_)) | (show Does _ (.indexAddr _ _ _) _ _ _ _; (first | refine ziSL1 rfl rfl ?_ | refine ziSn rfl rfl ?_))); intro a h; (first | simp only [Value.cells, splice, nz, Nat.reduceAdd, Nat.reduceMul, Int.reduceAdd, Int.reduceToNat, Int.reduceTMod] at h | skip)))
    refine k_thenN ⟨(k + 1, us.set r k), ⟨by omega, by simp [hul], fun k' r' y hk' hy' hyr => ?_, hm.drop, h.keep ⟨rfl, rfl, rfl, rfl, rfl, trivial⟩⟩, by show ys.length - (k + 1) < ys.length - k; omega⟩
    refine Gd.set (by omega) (Own1.root g1 hr0) ?_
    by_cases hkk : k' < k
    · exact .inl (hgd k' r' y hkk hy' hyr)
    · obtain rfl : k' = k := by have hk1 : k' < k + 1 := hk'; omega
      rw [g1] at hy'
      cases hy'
      rw [hr0] at hyr
      exact .inr (by omega)
  · obtain rfl : k = ys.length := by omega
    have hroots : ∀ (k' r : Nat) (y : TAssignment), ys[k']? = some y → y.2 = r → Gd (xs.map aN) ys us r := fun k' r y hy' hyr => hgd k' r y (List.getElem?_eq_some_iff.1 hy').1 hy' hyr
    clear hgd
    repeat' (first | refine c_seq ?_ | refine c_region ?_ | refine c_nil ?_ | refine k_then ?_ | refine k_thenE ?_ | refine k_inE ?_ | refine c_exit ?_ | refine c_block ?_ | refine c_condF h rfl ?_ | ((refine st_op rfl rfl h ?_); clear h a; (first | (show Does _ (.assign _) _ _ _ _; refine does_assign rfl ?_) | (show Does _ (.fieldAddr _ _ _) _ _ _ _; (refine does_fieldAddrL rfl ?_)) | (show Does _ (.load _ _) _ _ _ _; (refine zl hm rfl rfl ?_)) | (show Does _ (.binOp _ _ _ _ _) _ _ _ _; (first | refine zlss rfl rfl ?_ | refine zsub rfl rfl ?_)) | (show Does _ (.call _) _ _ _ _; refine does_lenS (SliceT.out) rfl ?_)); intro a h; (first | simp only [Value.cells, splice, nz, Nat.reduceAdd, Nat.reduceMul, Int.reduceAdd, Int.reduceToNat, Int.reduceTMod] at h | skip)))
    refine c_loop (σ := Nat × List Int) (fun s a w => s.1 ≤ xs.length ∧ s.2.length = xs.length ∧ (∀ (k' r : Nat) (y : TAssignment), ys[k']? = some y → y.2 = r → Gd (xs.map aN) ys s.2 r) ∧ (∀ (i' m : Nat) (x : PNode), s.1 ≤ i' → (xs.map aN)[i']? = some x → (m : Int) ∈ x.args → Gd (xs.map aN) ys s.2 m) ∧
      Mem W0 [] (fun b => W0.heap[b]?) [.blk b (.cells (s.2.map I).toArray 3), .blk b_1 (.cells [.slice p xs.length c, .slice q ys.length d].toArray 108)] w ∧
      Holds [(1, ptr0 b_1), (3, .slice (some ⟨b, 0, none⟩) xs.length xs.length), (6, .int .i64 ((s.1 : Int) - 1))] _ a) (fun s => s.1) (xs.length, us)
      ⟨Nat.le_refl _, hul, hroots, fun i' m x hi' hx' => absurd (List.getElem?_eq_some_iff.1 hx').1 (by rw [hlen]; simp only at hi'; omega), hm, h.keep ⟨rfl, rfl, rfl, trivial⟩⟩ ?_
    clear h hm hroots hul
    rintro ⟨t, us⟩ a w ⟨ht, hul, hroots, hars, hm, h⟩
    simp only at ht hul hroots hars hm h
    cases t with
    | zero =>
      have hOwn : OwnL (xs.map aN) ys us := ⟨by rw [hul, hlen], fun m hm0 => by
        rcases used hv hm0 with ⟨k, y, hk, hy⟩ | ⟨i, x, hi, hmx⟩
        · exact hroots k m y hk hy
        · exact hars i m x (Nat.zero_le _) hi hmx⟩
      rw [← flat_map_I] at hm
      have hfl : (us.map eI).flatten.length = xs.length * 1 := by rw [flat_len (enc := eI) (sz := 1) (fun _ => rfl), hul]
      replace hm := hm.toRow 0 (n := xs.length) (cap := 0) 1 rfl hfl (by simp only [maxLen]; omega)
      simp only [List.set_cons_succ, List.set_cons_zero] at hm
      repeat' (first | refine c_seq ?_ | refine c_region ?_ | refine c_nil ?_ | refine k_then ?_ | refine k_thenE ?_ | refine k_inE ?_ | refine c_ret ?_ | refine c_exit ?_ | refine c_condF h rfl ?_ | ((refine st_op rfl rfl h ?_); clear h a; (first | (show Does _ (.move _) _ _ _ _; refine does_move rfl ?_) | (show Does _ (.assign _) _ _ _ _; refine does_assign rfl ?_) | (show Does _ (.binOp _ _ _ _ _) _ _ _ _; (refine zgeq rfl rfl ?_))); intro a h))
      exact k_ret1 rfl h rfl ⟨hm.below, _, _, ⟨us, rfl, hOwn⟩, (row_new (i := 0) hm rfl).choose_spec⟩
    | succ i =>
      have e : ((((i + 1 : Nat)) : Int) - 1) = (i : Int) := by omega
      rw [e] at h
      have hi : i < xs.length := by omega
      obtain ⟨q1, rfl, hat1⟩ := hx.row.at hi
      have hargs := hx.args _ (List.getElem_mem hi)
      have g2 : (xs.map aN)[i]? = some xs[i].a := by rw [List.getElem?_map, List.getElem?_eq_getElem hi]; rfl
      have h3 : xs[i].a.args.length ≤ 3 := ar3 (hv.nodes i _ g2).2
      have hgi : ∀ us' : List Int, (∀ m, Gd (xs.map aN) ys us m → Gd (xs.map aN) ys us' m) → Gd (xs.map aN) ys us' i := fun us' hup => by
        rcases used hv (m := i) (by rw [hlen]; exact hi) with ⟨k, y, hk, hy⟩ | ⟨i', x, hi', hmx⟩
        · exact hup _ (hroots k i y hk hy)
        · exact hup _ (hars i' i x (args_lt hv hi' hmx) hi' hmx)
      repeat' (first | refine c_seq ?_ | refine c_region ?_ | refine c_nil ?_ | refine k_then ?_ | refine c_skip ?_ | refine c_block ?_ | refine c_condT h rfl ?_ | ((refine st_op rfl rfl h ?_); clear h a; (first | (show Does _ (.move _) _ _ _ _; refine does_move rfl ?_) | (show Does _ (.fieldAddr _ _ _) _ _ _ _; (first | refine does_fieldAddrL rfl ?_ | refine does_fieldAddr rfl ?_)) | (show Does _ (.load _ _) _ _ _ _; (first | refine zl hm rfl rfl ?_ | refine does_loadB hm rfl (At.add (by assumption) _) rfl ?_)) | (show Does _ (.binOp _ _ _ _ _) _ _ _ _; (refine zgeq rfl rfl ?_)) | (show Does _ (.call _) _ _ _ _; refine does_lenS (SliceT.out) rfl ?_) | (show Does _ (.indexAddr _ _ _) _ _ _ _; (refine ziSn rfl rfl ?_))); intro a h; (first | simp only [Value.cells, splice, nz, Nat.reduceAdd, Nat.reduceMul, Int.reduceAdd, Int.reduceToNat, Int.reduceTMod] at h | skip)))
      refine c_loop (σ := Nat × List Int) (fun s a w => s.1 ≤ xs[i].a.args.length ∧ s.2.length = xs.length ∧ (∀ m, Gd (xs.map aN) ys us m → Gd (xs.map aN) ys s.2 m) ∧ (∀ (j' m : Nat), j' < s.1 → xs[i].a.args[j']? = some (m : Int) → Gd (xs.map aN) ys s.2 m) ∧
        Mem W0 [] (fun b => W0.heap[b]?) [.blk b (.cells (s.2.map I).toArray 3), .blk b_1 (.cells [.slice (some q1) xs.length c, .slice q ys.length d].toArray 108)] w ∧
        Holds [(1, ptr0 b_1), (3, .slice (some ⟨b, 0, none⟩) xs.length xs.length), (6, .int .i64 i), (40, .slice xs[i].ptr xs[i].a.args.length xs[i].cap), (41, .int .i64 xs[i].a.args.length), (42, .int .i64 s.1)] _ a) (fun s => xs[i].a.args.length - s.1) (0, us)
        ⟨Nat.zero_le _, hul, fun m hm => hm, fun j' m hj' => absurd hj' (Nat.not_lt_zero _), hm, h.keep ⟨rfl, rfl, rfl, rfl, rfl, rfl, trivial⟩⟩ ?_
      clear h hm
      rintro ⟨j, us2⟩ a w ⟨hj, hul2, hup, hjs, hm, h⟩
      simp only at hj hul2 hup hjs hm h
      by_cases hlt2 : j < xs[i].a.args.length
      · obtain ⟨q2, hq2, hat2⟩ := hargs.at1 hlt2
        obtain ⟨m, hm0, hmi⟩ := args_nn hv g2 (List.getElem_mem hlt2)
        have hgj : xs[i].a.args[j]? = some (m : Int) := by rw [List.getElem?_eq_getElem hlt2, hm0]
        rw [hm0] at hat2
        rw [hq2] at h
        obtain ⟨kk, hkk, hok⟩ := hgi us2 hup
        have hmm : (m : Int) ∈ xs[i].a.args := List.mem_of_getElem? hgj
        repeat' (first | refine c_seq ?_ | refine c_region ?_ | refine c_nil ?_ | refine k_then ?_ | refine k_inN ?_ | refine c_skip ?_ | refine c_block ?_ | refine c_condT h rfl ?_ | ((first | refine st_op rfl rfl h ?_ | refine st_opn rfl h ?_); clear h a; (first | (show Does _ (.load _ _) _ _ _ _; (first | ((refine does_loadArr 0 hm rfl rfl rfl hkk ?_)) | refine does_loadB hm rfl (by assumption) rfl ?_)) | (show Does _ (.store _ _ _) _ _ _ _; (((refine does_storeArr (u := (kk : Int)) 0 hm rfl rfl rfl rfl rfl (by omega) rfl rfl rfl ?_; clear hm; intro w hm; simp only [List.set_cons_succ, List.set_cons_zero] at hm)))) | (show Does _ (.move _) _ _ _ _; refine does_move rfl ?_) | (show Does _ (.assign _) _ _ _ _; refine does_assign rfl ?_) | (show Does _ (.binOp _ _ _ _ _) _ _ _ _; (first | refine zlss rfl rfl ?_ | refine zadd rfl rfl ?_)) | (show Does _ (.indexAddr _ _ _) _ _ _ _; (first | refine ziSL1 rfl rfl ?_ | refine ziS1 rfl rfl ?_))); intro a h))
        rw [← hq2] at h
        refine k_thenN ⟨(j + 1, us2.set m kk), ⟨by omega, by simp [hul2], fun m' hm' => Gd.set (by omega) (.arg g2 hmm hok) (.inl (hup m' hm')), fun j' m' hj' hjm => ?_, hm, h.keep ⟨rfl, rfl, rfl, rfl, rfl, rfl, trivial⟩⟩, by show xs[i].a.args.length - (j + 1) < xs[i].a.args.length - j; omega⟩
        refine Gd.set (by omega) (.arg g2 hmm hok) ?_
        by_cases hjj : j' < j
        · exact .inl (hjs j' m' hjj hjm)
        · obtain rfl : j' = j := by have h1 : j' < j + 1 := hj'; omega
          rw [hgj] at hjm
          exact .inr (by have := Option.some.inj hjm; omega)
      · obtain rfl : j = xs[i].a.args.length := by omega
        repeat' (first | refine c_seq ?_ | refine c_region ?_ | refine c_nil ?_ | refine k_then ?_ | refine k_thenE ?_ | refine k_inN ?_ | refine k_inE ?_ | refine c_exit ?_ | refine c_condF h rfl ?_ | ((refine st_op rfl rfl h ?_); clear h a; (first | (show Does _ (.move _) _ _ _ _; refine does_move rfl ?_) | (show Does _ (.assign _) _ _ _ _; refine does_assign rfl ?_) | (show Does _ (.binOp _ _ _ _ _) _ _ _ _; (first | refine zlss rfl rfl ?_ | refine zsub rfl rfl ?_))); intro a h))
        refine k_thenN ⟨(i, us2), ⟨by omega, hul2, fun k' r y hk' hyr => hup _ (hroots k' r y hk' hyr), fun i' m x hi' hx' hmx => ?_, hm, h.keep ⟨rfl, rfl, rfl, trivial⟩⟩, by show i < i + 1; omega⟩
        by_cases hii : i' = i
        · subst hii
          rw [g2] at hx'
          cases hx'
          obtain ⟨j', hj'⟩ := List.mem_iff_getElem?.1 hmx
          exact hjs j' m (List.getElem?_eq_some_iff.1 hj').1 hj'
        · exact hup _ (hars i' m x (by simp only at hi'; omega) hx' hmx)
/-- the last assignment to a name ahead of one, or -1 -/
def lastA (ys : List TAssignment) (s : ByteArray) (n : Int) : Nat → Int
  | 0 => -1
  | k + 1 => if (k : Int) < n ∧ (ys[k]?.map Prod.fst) = some s then k else lastA ys s n k
theorem lastA_bd (ys : List TAssignment) (s : ByteArray) (n : Int) : ∀ k, -1 ≤ lastA ys s n k ∧ lastA ys s n k < k
  | 0 => by simp [lastA]
  | k + 1 => by
    have := lastA_bd ys s n k
    simp only [lastA]
    split <;> omega
set_option maxHeartbeats 4000000 in
theorem sAssigned_ok (p q : Option Addr) (xs : List TNode) (ys : List TAssignment) (c d : Nat) (s : ByteArray) (n : Int) (hys : ys.length ≤ 1048576) :
    FunP Tryz.prog 89 [.agg #[.slice p xs.length c, .slice q ys.length d], .string s, I n] (fun H => ProgH H p q xs ys) (I (lastA ys s n ys.length)) := by
  refine enterFunP Tryz.func89 rfl Tryz.ntmps89 rfl (fun W0 w a hp hm h => ?_)
  obtain ⟨hx, hy⟩ := hp
  repeat' (first | refine c_seq ?_ | refine c_region ?_ | refine c_nil ?_ | refine k_then ?_ | refine c_block ?_ | (((refine st_op (d := 3) rfl rfl h ?_; refine does_box hm rfl rfl ?_; clear h a hm; intro b_3 w hm a h))) | ((refine st_op rfl rfl h ?_); clear h a; (first | (show Does _ (.move _) _ _ _ _; refine does_move rfl ?_) | (show Does _ (.assign _) _ _ _ _; refine does_assign rfl ?_) | (show Does _ (.fieldAddr _ _ _) _ _ _ _; (refine does_fieldAddrL rfl ?_)) | (show Does _ (.load _ _) _ _ _ _; (refine zl hm rfl rfl ?_)) | (show Does _ (.call _) _ _ _ _; refine does_lenS (SliceT.out) rfl ?_)); intro a h; (first | simp only [Value.cells, splice, nz, Nat.reduceAdd, Nat.reduceMul, Int.reduceAdd, Int.reduceToNat, Int.reduceTMod] at h | skip)))
  refine c_loop (σ := Nat) (fun k a w => k ≤ ys.length ∧ Mem W0 [] (fun b => W0.heap[b]?) [.blk b_3 (.cells [.slice p xs.length c, .slice q ys.length d].toArray 108)] w ∧
    Holds [(1, .string s), (2, I n), (7, I (lastA ys s n k)), (11, .slice q ys.length d), (12, .int .i64 ys.length), (13, .int .i64 k)] _ a) (fun k => ys.length - k) 0
    ⟨Nat.zero_le _, hm, h.keep ⟨rfl, rfl, rfl, rfl, rfl, rfl, trivial⟩⟩ ?_
  clear h hm
  rintro k a w ⟨hk, hm, h⟩
  by_cases hlt : k < ys.length
  · obtain ⟨q1, rfl, hat1⟩ := hy.at hlt
    have g1 : ys[k]? = some ys[k] := List.getElem?_eq_getElem hlt
    have hstep : lastA ys s n (k + 1) = if (k : Int) < n ∧ ys[k].1 = s then (k : Int) else lastA ys s n k := by
      simp only [lastA, g1, Option.map_some, Option.some.injEq]
    by_cases hc1 : (k : Int) < n
    · by_cases hc2 : ys[k].1 = s
      · rw [if_pos ⟨hc1, hc2⟩] at hstep
        repeat' (first | refine c_seq ?_ | refine c_region ?_ | refine c_nil ?_ | refine k_then ?_ | refine k_inN ?_ | refine c_skip ?_ | refine c_block ?_ | refine c_condT h rfl ?_ | (((refine st_op (d := 9) rfl rfl h ?_; refine does_alloc hm ?_; clear h a hm; intro b_9 w hm a h))) | ((first | refine st_op rfl rfl h ?_ | refine st_opn rfl h ?_); clear h a; (first | (show Does _ (.binOp _ _ _ _ _) _ _ _ _; (first | (refine does_eqlStrT rfl rfl hc2 ?_) | refine zlss rfl rfl ?_ | refine zadd rfl rfl ?_)) | (show Does _ (.store _ _ _) _ _ _ _; ((refine zs hm rfl rfl rfl rfl rfl rfl ?_); clear hm; intro w hm; (simp only [Value.cells, splice, nz, ns, Nat.reduceAdd, Nat.reduceMul, Int.reduceAdd, Int.reduceToNat] at hm))) | (show Does _ (.move _) _ _ _ _; refine does_move rfl ?_) | (show Does _ (.assign _) _ _ _ _; refine does_assign rfl ?_) | (show Does _ (.pick _ _ _) _ _ _ _; (refine does_pickT rfl rfl ?_)) | (show Does _ (.fieldAddr _ _ _) _ _ _ _; (refine does_fieldAddrL rfl ?_)) | (show Does _ (.load _ _) _ _ _ _; (first | refine zl hm rfl rfl ?_ | refine does_loadBA hm rfl (by assumption) rfl ?_)) | (show Does _ (.indexAddr _ _ _) _ _ _ _; (refine ziSn rfl rfl ?_))); intro a h; (first | simp only [Value.cells, splice, nz, Nat.reduceAdd, Nat.reduceMul, Int.reduceAdd, Int.reduceToNat, Int.reduceTMod] at h | skip)))
        exact k_thenN ⟨k + 1, ⟨by omega, hm.drop, h.keep ⟨rfl, rfl, by rw [hstep]; rfl, rfl, rfl, rfl, trivial⟩⟩, by omega⟩
      · rw [if_neg (fun e => hc2 e.2)] at hstep
        repeat' (first | refine c_seq ?_ | refine c_region ?_ | refine c_nil ?_ | refine k_then ?_ | refine k_inN ?_ | refine c_skip ?_ | refine c_block ?_ | refine c_condT h rfl ?_ | refine c_condF h rfl ?_ | (((refine st_op (d := 9) rfl rfl h ?_; refine does_alloc hm ?_; clear h a hm; intro b_9 w hm a h))) | ((first | refine st_op rfl rfl h ?_ | refine st_opn rfl h ?_); clear h a; (first | (show Does _ (.binOp _ _ _ _ _) _ _ _ _; (first | (refine does_eqlStrF rfl rfl hc2 ?_) | refine zlss rfl rfl ?_ | refine zadd rfl rfl ?_)) | (show Does _ (.store _ _ _) _ _ _ _; ((refine zs hm rfl rfl rfl rfl rfl rfl ?_); clear hm; intro w hm; (simp only [Value.cells, splice, nz, ns, Nat.reduceAdd, Nat.reduceMul, Int.reduceAdd, Int.reduceToNat] at hm))) | (show Does _ (.move _) _ _ _ _; refine does_move rfl ?_) | (show Does _ (.assign _) _ _ _ _; refine does_assign rfl ?_) | (show Does _ (.pick _ _ _) _ _ _ _; (refine does_pickT rfl rfl ?_)) | (show Does _ (.fieldAddr _ _ _) _ _ _ _; (refine does_fieldAddrL rfl ?_)) | (show Does _ (.load _ _) _ _ _ _; (first | refine zl hm rfl rfl ?_ | refine does_loadBA hm rfl (by assumption) rfl ?_)) | (show Does _ (.indexAddr _ _ _) _ _ _ _; (refine ziSn rfl rfl ?_))); intro a h; (first | simp only [Value.cells, splice, nz, Nat.reduceAdd, Nat.reduceMul, Int.reduceAdd, Int.reduceToNat, Int.reduceTMod] at h | skip)))
        exact k_thenN ⟨k + 1, ⟨by omega, hm.drop, h.keep ⟨rfl, rfl, by rw [hstep]; rfl, rfl, rfl, rfl, trivial⟩⟩, by omega⟩
    · rw [if_neg (fun e => hc1 e.1)] at hstep
      repeat' (first | refine c_seq ?_ | refine c_region ?_ | refine c_nil ?_ | refine k_then ?_ | refine k_inN ?_ | refine c_skip ?_ | refine c_block ?_ | refine c_condT h rfl ?_ | refine c_condF h rfl ?_ | (((refine st_op (d := 9) rfl rfl h ?_; refine does_alloc hm ?_; clear h a hm; intro b_9 w hm a h))) | ((first | refine st_op rfl rfl h ?_ | refine st_opn rfl h ?_); clear h a; (first | (show Does _ (.store _ _ _) _ _ _ _; ((refine zs hm rfl rfl rfl rfl rfl rfl ?_); clear hm; intro w hm; (simp only [Value.cells, splice, nz, ns, Nat.reduceAdd, Nat.reduceMul, Int.reduceAdd, Int.reduceToNat] at hm))) | (show Does _ (.move _) _ _ _ _; refine does_move rfl ?_) | (show Does _ (.assign _) _ _ _ _; refine does_assign rfl ?_) | (show Does _ (.pick _ _ _) _ _ _ _; (refine does_pickF rfl rfl ?_)) | (show Does _ (.load _ _) _ _ _ _; (refine does_loadBA hm rfl (by assumption) rfl ?_)) | (show Does _ (.binOp _ _ _ _ _) _ _ _ _; (first | refine zlss rfl rfl ?_ | refine zadd rfl rfl ?_)) | (show Does _ (.indexAddr _ _ _) _ _ _ _; (refine ziSn rfl rfl ?_))); intro a h) | ((refine st_skip rfl rfl h ?_); clear h a; intro a h))
      exact k_thenN ⟨k + 1, ⟨by omega, hm.drop, h.keep ⟨rfl, rfl, by rw [hstep]; rfl, rfl, rfl, rfl, trivial⟩⟩, by omega⟩
  · obtain rfl : k = ys.length := by omega
    repeat' (first | refine c_seq ?_ | refine c_region ?_ | refine c_nil ?_ | refine k_then ?_ | refine k_thenE ?_ | refine k_inE ?_ | refine c_ret ?_ | refine c_exit ?_ | refine c_condF h rfl ?_ | ((refine st_op rfl rfl h ?_); clear h a; (first | (show Does _ (.move _) _ _ _ _; refine does_move rfl ?_) | (show Does _ (.assign _) _ _ _ _; refine does_assign rfl ?_) | (show Does _ (.binOp _ _ _ _ _) _ _ _ _; (refine zlss rfl rfl ?_))); intro a h))
    (refine k_ret1 rfl h rfl ⟨?_, hm.below⟩)
    rfl
end Go.Proofs.YtcbnegmmjflmcaaGreat.St
