/-
  The program's check.
-/
import Derived.Test.YtgphmhjnnppbnaaPChk
import Derived.Test.YtgphmhjnnppbnaaStZip
set_option linter.unusedSimpArgs false
set_option linter.unusedVariables false
namespace Go.Proofs.Ytgphmhjnnppbnaa.St
open Go.RowKit
def notInt : Value → Bool
  | .int _ _ => false
  | _ => true
theorem out1 {W0 w : World} {X : List Nat} {B : Heap} {b : Nat} {cs : List Value} {T : TypeId} {fz : Nat × Nat} (hm : Mem W0 X B [.blk b (.cells cs.toArray T fz)] w) (hcs : cs.all notInt = true) :
    ∃ B', Heap.le B B' ∧ Mem W0 X B' [.blk b (.cells cs.toArray T fz)] w ∧ (∀ p os, Sl (fun b => w.heap[b]?) p eI 1 os → Sl B' p eI 1 os) ∧ (∀ b0 o0, w.heap[b0]? = some o0 → isRow o0 = false → B' b0 = some o0) := by
  have hb := hm.own _ (List.mem_singleton.2 rfl)
  simp only [Own.holds] at hb
  refine ⟨fun k => if k = b then none else w.heap[k]?, fun k o hk => ?_, ⟨hm.os, hm.tape, hm.output, hm.size, hm.block, fun k o hk => ?_, hm.own, hm.fresh, fun x hx k hk => ?_, hm.nodup⟩, fun p os hs i n hi => ?_, fun b0 o0 h0 hr => ?_⟩
  · have hne : k ≠ b := fun e => by
      subst e
      rw [hm.apart _ (List.mem_singleton.2 rfl) k rfl] at hk
      cases hk
    show (if k = b then none else w.heap[k]?) = some o
    rw [if_neg hne]
    exact hm.base k o hk
  · have hk2 : (if k = b then none else w.heap[k]?) = some o := hk
    split at hk2
    · cases hk2
    · exact hk2
  · obtain rfl := List.mem_singleton.1 hx
    cases hk
    simp
  · obtain ⟨a, ha, h1, arr, T', fz', h2, h3⟩ := hs i n hi
    refine ⟨a, ha, h1, arr, T', fz', ?_, h3⟩
    have hne : (a.add (i * 1)).block ≠ b := fun e => by
      have h2' : w.heap[(a.add (i * 1)).block]? = some (.cells arr T' fz') := h2
      rw [e, hb] at h2'
      cases h2'
      have h4 := h3 0 (I n) rfl
      rw [List.getElem?_toArray] at h4
      have h5 := List.all_eq_true.1 hcs _ (List.mem_of_getElem? h4)
      cases h5
    show (if (a.add (i * 1)).block = b then none else w.heap[(a.add (i * 1)).block]?) = _
    rw [if_neg hne]
    exact h2
  · have hne : b0 ≠ b := fun e => by
      subst e
      rw [hb] at h0
      cases h0
      cases hr
    show (if b0 = b then none else w.heap[b0]?) = _
    rw [if_neg hne]
    exact h0
theorem MapS.notRow {o : Obj} {f : ByteArray → Option Int} (h : MapS o f) : isRow o = false := by
  obtain ⟨_, _, rfl, _⟩ := h.out
  rfl
set_option maxHeartbeats 16000000 in
theorem check_ok (p q : Option Addr) (xs : List TNode) (ys : List TAssignment) (c d : Nat) (hxs : xs.length ≤ 1048576) (hsm : ∀ x ∈ xs, smN x) (hys : ys.length ≤ 1048576) :
    FunV Try.prog 51 [.agg #[.slice p xs.length c, .slice q ys.length d]] (fun H => ProgH H p q xs ys) (ChkR (xs.map aN) ys) := by
  have hlen : (xs.map aN).length = xs.length := List.length_map _
  refine enterFunV Try.func51 rfl Try.ntmps51 rfl (fun W0 w a hp hm h => ?_)
  have hp0 := hp
  obtain ⟨hx, hy⟩ := hp
  by_cases hv : vProg (xs.map aN) ys
  · have hxs60 : xs.length ≤ 60 := by have := hv.small; omega
    repeat' (first | refine c_seq ?_ | refine c_region ?_ | refine c_nil ?_ | refine k_then ?_ | refine c_skip ?_ | refine c_block ?_ | refine c_condF h rfl ?_ | (((refine st_op (d := 1) rfl rfl h ?_; refine does_box hm rfl rfl ?_; clear h a hm; intro b_1 w hm a h)); (try simp only [Value.cells, splice, nz, Nat.reduceAdd, Nat.reduceMul, Int.reduceAdd, Int.reduceToNat, Int.reduceTMod] at h)) | ((refine st_op rfl rfl h ?_); clear h a; (first | ((refine does_funP hm en129 rfl ((isValidProgram_ok _ _ _ _ _ _ hxs hsm hys).yes hv) (hp0.up hm) ?_; clear hm; intro w hm)) | refine does_move rfl ?_ | refine does_assign rfl ?_ | refine does_fieldAddrL rfl ?_ | refine zl hm rfl rfl ?_ | refine za hm rfl rfl ?_ | refine does_not rfl ?_ | refine does_lenS (SliceT.out) rfl ?_); intro a h; (try simp only [Value.cells, splice, nz, Nat.reduceAdd, Nat.reduceMul, Int.reduceAdd, Int.reduceToNat, Int.reduceTMod] at h)) | (apply c_drawP (id := 3) 4 [.val _, heapP _, .val _, heapP _] mixed (by kernel_rfl) (h := h) (hm := hm); (case vcs => (repeat' (first | exact vcs_nil | refine vcs_cons ?_ ?_ | (intro w hm; (repeat (first | refine dep_val ?_ | (refine dep_heapP ?_; rintro _ ⟨⟨b0, o0, rfl, hN0, hM0⟩⟩) | refine dep_nil ?_)); first | exact vc_skip rfl | exact vc_alloc rfl | exact vc_box rfl rfl rfl | exact vc_buildSlice rfl rfl rfl rfl | exact vc_makeSlice (by omega) (by omega) rfl rfl rfl | exact vc_store rfl rfl rfl rfl rfl rfl rfl rfl rfl rfl | (apply vc_heapP rfl; refine does_funRX en130 rfl (by repeat' (exact ProgH.up (by assumption) hm)) (assigned_ok _ _ _ _ _ _ (by omega)) ?_; exact fun _ _ hx hr => ⟨hx, hr⟩) | (apply vc_heapP rfl; refine does_funRX en131 rfl (by repeat' (exact ProgH.up (by assumption) hm)) (ownersR_ok2 _ _ _ _ _ _ (by omega) (by assumption)) ?_; exact fun _ _ hx hr => ⟨hx, hr⟩) | (apply vc_run rfl; (refine does_loadOA 0 hm rfl rfl rfl ?_); (exact ⟨ext_refl _, rfl⟩)))))); (case hup => kernel_rfl); (case hown => kernel_rfl); (case hmono => (repeat constructor)); clear h hm a; intro  w hm; (try simp only [List.map_nil, List.nil_append] at hm); (repeat (first | refine dep_val ?_ | (refine dep_heapP ?_; rintro _ ⟨⟨b0, o0, rfl, hN0, hM0⟩⟩) | (refine dep_heapP ?_; rintro _ ⟨⟨p1, c1, os1, rfl, hco1, hcm1, hos1, hOw1⟩⟩) | refine dep_nil ?_)); intro a h; (try simp only [Value.cells, List.toList_toArray, splice, List.set_cons_zero, List.set_cons_succ, List.drop_zero, List.drop_succ_cons, List.take_succ_cons, List.take_zero, Nat.zero_add, Nat.reduceAdd, Nat.reduceMul, Int.reduceAdd, Int.reduceToNat, Int.reduceTMod, Nat.zero_mul, Nat.one_mul, Int.toNat_natCast] at h)))
    obtain ⟨B, hB, hm2, hSl, hOb⟩ := out1 hm rfl
    replace hos1 := hSl _ _ hos1
    have hMH : MapH B b0 (firstA ys ys.length) := ⟨o0, hOb _ _ hN0 hM0.notRow, hM0⟩
    replace hx := hx.mono hB
    replace hy := hy.mono hB
    clear hm hSl hOb hN0
    have hol : os1.length = xs.length := by rw [hOw1.len, hlen]
    rw [hol] at h
    refine c_loop (σ := Nat) (fun k a w => k ≤ xs.length ∧ (∀ (i : Nat) (x : PNode), i < k → (xs.map aN)[i]? = some x → nodeOk (xs.map aN) ys i x) ∧ Mem W0 [] B [.blk b_1 (.cells [.slice p xs.length c, .slice q ys.length d].toArray 78)] w ∧
      Holds [(1, ptr0 b_1), (4, .map (some b0)), (5, .slice p1 xs.length c1), (22, .slice p xs.length c), (23, .int .i64 xs.length), (24, .int .i64 k)] _ a) (fun k => xs.length - k) 0
      ⟨Nat.zero_le _, fun i x hi => absurd hi (Nat.not_lt_zero _), hm2, h.keep ⟨rfl, rfl, rfl, rfl, rfl, rfl, trivial⟩⟩ ?_
    clear h hm2
    rintro k a w ⟨hk, hpre, hm, h⟩
    by_cases hlt : k < xs.length
    · obtain ⟨q1, rfl, hat1⟩ := hx.row.at hlt
      have g1 : xs[k]? = some xs[k] := List.getElem?_eq_getElem hlt
      have g2 : (xs.map aN)[k]? = some xs[k].a := by rw [List.getElem?_map, g1]; rfl
      obtain ⟨kk, hkk, hok⟩ := hOw1.own k (by rw [hlen]; exact hlt)
      obtain ⟨q2, rfl, hat2⟩ := hos1.at1 (k := k) (by omega)
      have hgo : os1[k]'(by omega) = (kk : Int) := by
        rw [List.getElem?_eq_getElem (by omega)] at hkk
        exact Option.some.inj hkk
      rw [hgo] at hat2
      have hstep : nodeOk (xs.map aN) ys k xs[k].a → ∀ (i : Nat) (x : PNode), i < k + 1 → (xs.map aN)[i]? = some x → nodeOk (xs.map aN) ys i x := fun hn i x hi hix => by
        by_cases hik : i < k
        · exact hpre i x hik hix
        · obtain rfl : i = k := by omega
          rw [g2] at hix
          cases hix
          exact hn
      by_cases h2 : xs[k].a.op = 2
      · by_cases hkn : knV (firstA ys ys.length) xs[k].a.name kk
        · have hn : nodeOk (xs.map aN) ys k xs[k].a := ⟨fun _ => (Classical.em (isVar xs[k].a.name)).imp id (fun hnv => ⟨kk, hok, ((knV_iff ys _ _).1 hkn).resolve_left hnv⟩), fun e => by omega⟩
          repeat' (first | refine c_seq ?_ | refine c_region ?_ | refine c_nil ?_ | refine k_then ?_ | refine k_inN ?_ | refine c_skip ?_ | refine c_block ?_ | refine c_condT h rfl ?_ | refine c_condF h rfl ?_ | (((refine st_op (d := 7) rfl rfl h ?_; refine does_alloc hm ?_; clear h a hm; intro b_7 w hm a h)); (try simp only [Value.cells, splice, nz, Nat.reduceAdd, Nat.reduceMul, Int.reduceAdd, Int.reduceToNat, Int.reduceTMod] at h)) | ((first | refine st_op rfl rfl h ?_ | refine st_opn rfl h ?_); clear h a; (first | ((refine zs hm rfl rfl rfl rfl rfl rfl ?_); clear hm; intro w hm; (try simp only [Value.cells, splice, nz, ns, Nat.reduceAdd, Nat.reduceMul, Int.reduceAdd, Int.reduceToNat] at hm)) | refine does_move rfl ?_ | refine does_assign rfl ?_ | refine does_loadBA hm rfl (by assumption) rfl ?_ | refine zlss rfl rfl ?_ | refine zadd rfl rfl ?_ | refine ziSn rfl rfl ?_); intro a h; (try simp only [Value.cells, splice, nz, Nat.reduceAdd, Nat.reduceMul, Int.reduceAdd, Int.reduceToNat, Int.reduceTMod] at h)) | (apply c_drawM (id := 7) 9 [.val _, .val _, .val _, .val _, .val _, .val _, .val _, .val _, .val _] mixed (by kernel_rfl) (h := h) (hm := hm); (case vcs => (repeat' (first | exact vcs_nil | refine vcs_cons ?_ ?_ | (intro w hm; (repeat (first | refine dep_val ?_ | refine dep_nil ?_)); first | exact vc_skip rfl | exact vc_alloc rfl | exact vc_box rfl rfl rfl | exact vc_buildSlice rfl rfl rfl rfl | exact vc_makeSlice (by omega) (by omega) rfl rfl rfl | exact vc_store rfl rfl rfl rfl rfl rfl rfl rfl rfl rfl | (apply vc_run rfl; (first | ((refine does_funX en133 rfl (exprOf_v xs[k] h2) ?_)) | ((refine does_funPX2 en132 rfl (hMH.up hm) ((known_v xs[k] kk b0 _).yes hkn) ?_)) | refine does_move rfl ?_ | refine does_loadOA 0 hm rfl rfl rfl ?_ | refine does_loadB hm rfl (by assumption) rfl ?_ | refine does_not rfl ?_ | refine does_indexS1 (by omega) rfl rfl ?_); (first | exact ⟨ext_refl _, rfl⟩ | exact fun _ hx => ⟨hx, rfl⟩)))))); (case hup => kernel_rfl); (case hown => kernel_rfl); (case hnp => kernel_rfl); clear h hm a; intro  w hm; (try simp only [List.map_nil, List.nil_append] at hm); (repeat (first | refine dep_val ?_ | refine dep_nil ?_)); intro a h; (try simp only [Value.cells, List.toList_toArray, splice, List.set_cons_zero, List.set_cons_succ, List.drop_zero, List.drop_succ_cons, List.take_succ_cons, List.take_zero, Nat.zero_add, Nat.reduceAdd, Nat.reduceMul, Int.reduceAdd, Int.reduceToNat, Int.reduceTMod, Nat.zero_mul, Nat.one_mul, Int.toNat_natCast] at h)))
          exact k_thenN ⟨k + 1, ⟨by omega, hstep hn, hm.drop, h.keep ⟨rfl, rfl, rfl, rfl, rfl, rfl, trivial⟩⟩, by omega⟩
        · repeat' (first | refine c_seq ?_ | refine c_region ?_ | refine c_nil ?_ | refine k_then ?_ | refine k_thenR ?_ | refine k_inR ?_ | refine c_skip ?_ | refine c_ret ?_ | refine c_block ?_ | refine c_condT h rfl ?_ | (((refine st_op (d := 7) rfl rfl h ?_; refine does_alloc hm ?_; clear h a hm; intro b_7 w hm a h)); (try simp only [Value.cells, splice, nz, Nat.reduceAdd, Nat.reduceMul, Int.reduceAdd, Int.reduceToNat, Int.reduceTMod] at h)) | ((first | refine st_op rfl rfl h ?_ | refine st_opn rfl h ?_); clear h a; (first | ((refine zs hm rfl rfl rfl rfl rfl rfl ?_); clear hm; intro w hm; (try simp only [Value.cells, splice, nz, ns, Nat.reduceAdd, Nat.reduceMul, Int.reduceAdd, Int.reduceToNat] at hm)) | refine does_move rfl ?_ | refine does_assign rfl ?_ | refine does_loadBA hm rfl (by assumption) rfl ?_ | refine zlss rfl rfl ?_ | refine ziSn rfl rfl ?_); intro a h; (try simp only [Value.cells, splice, nz, Nat.reduceAdd, Nat.reduceMul, Int.reduceAdd, Int.reduceToNat, Int.reduceTMod] at h)) | (apply c_drawM (id := 7) 9 [.val _, .val _, .val _, .val _, .val _, .val _, .val _, .val _, .val _] mixed (by kernel_rfl) (h := h) (hm := hm); (case vcs => (repeat' (first | exact vcs_nil | refine vcs_cons ?_ ?_ | (intro w hm; (repeat (first | refine dep_val ?_ | refine dep_nil ?_)); first | exact vc_skip rfl | exact vc_alloc rfl | exact vc_box rfl rfl rfl | exact vc_buildSlice rfl rfl rfl rfl | exact vc_makeSlice (by omega) (by omega) rfl rfl rfl | exact vc_store rfl rfl rfl rfl rfl rfl rfl rfl rfl rfl | (apply vc_run rfl; (first | ((refine does_funX en133 rfl (exprOf_v xs[k] h2) ?_)) | ((refine does_funPX2 en132 rfl (hMH.up hm) ((known_v xs[k] kk b0 _).no hkn) ?_)) | refine does_move rfl ?_ | refine does_loadOA 0 hm rfl rfl rfl ?_ | refine does_loadB hm rfl (by assumption) rfl ?_ | refine does_not rfl ?_ | refine does_indexS1 (by omega) rfl rfl ?_); (first | exact ⟨ext_refl _, rfl⟩ | exact fun _ hx => ⟨hx, rfl⟩)))))); (case hup => kernel_rfl); (case hown => kernel_rfl); (case hnp => kernel_rfl); clear h hm a; intro  w hm; (try simp only [List.map_nil, List.nil_append] at hm); (repeat (first | refine dep_val ?_ | refine dep_nil ?_)); intro a h; (try simp only [Value.cells, List.toList_toArray, splice, List.set_cons_zero, List.set_cons_succ, List.drop_zero, List.drop_succ_cons, List.take_succ_cons, List.take_zero, Nat.zero_add, Nat.reduceAdd, Nat.reduceMul, Int.reduceAdd, Int.reduceToNat, Int.reduceTMod, Nat.zero_mul, Nat.one_mul, Int.toNat_natCast] at h)))
          (refine k_ret2 rfl h rfl rfl ⟨?_, hm.below⟩)
          refine ChkR.no (by omega) (fun e => hkn ((knV_iff ys _ _).2 ?_))
          rcases (e.names k _ g2).1 h2 with hvv | ⟨k', ho', hb'⟩
          · exact .inl hvv
          · rw [own_unique hv _ k (Nat.le_refl _) (by rw [hlen]; exact hlt) hok ho']
            exact .inr hb'
      · by_cases h8 : xs[k].a.op = 8
        · by_cases har : 0 ≤ ar xs[k].a.name
          · have hn : nodeOk (xs.map aN) ys k xs[k].a := ⟨fun e => absurd e h2, fun _ => har⟩
            repeat' (first | refine c_seq ?_ | refine c_region ?_ | refine c_nil ?_ | refine k_then ?_ | refine k_inN ?_ | refine c_skip ?_ | refine c_block ?_ | refine c_condT h rfl ?_ | refine c_condF h rfl ?_ | (((refine st_op (d := 7) rfl rfl h ?_; refine does_alloc hm ?_; clear h a hm; intro b_7 w hm a h)); (try simp only [Value.cells, splice, nz, Nat.reduceAdd, Nat.reduceMul, Int.reduceAdd, Int.reduceToNat, Int.reduceTMod] at h)) | ((first | refine st_op rfl rfl h ?_ | refine st_opn rfl h ?_); clear h a; (first | ((refine zs hm rfl rfl rfl rfl rfl rfl ?_); clear hm; intro w hm; (try simp only [Value.cells, splice, nz, ns, Nat.reduceAdd, Nat.reduceMul, Int.reduceAdd, Int.reduceToNat] at hm)) | refine does_move rfl ?_ | refine does_assign rfl ?_ | refine does_loadBA hm rfl (by assumption) rfl ?_ | refine zlss rfl rfl ?_ | refine zadd rfl rfl ?_ | refine ziSn rfl rfl ?_); intro a h; (try simp only [Value.cells, splice, nz, Nat.reduceAdd, Nat.reduceMul, Int.reduceAdd, Int.reduceToNat, Int.reduceTMod] at h)) | (apply c_drawM (id := 7) 9 [.val _, .val _, .val _, .val _, .val _, .val _, .val _, .val _, .val _] mixed (by kernel_rfl) (h := h) (hm := hm); (case vcs => (repeat' (first | exact vcs_nil | refine vcs_cons ?_ ?_ | (intro w hm; (repeat (first | refine dep_val ?_ | refine dep_nil ?_)); first | exact vc_skip rfl | exact vc_alloc rfl | exact vc_box rfl rfl rfl | exact vc_buildSlice rfl rfl rfl rfl | exact vc_makeSlice (by omega) (by omega) rfl rfl rfl | exact vc_store rfl rfl rfl rfl rfl rfl rfl rfl rfl rfl | (apply vc_run rfl; (first | ((refine does_funX en133 rfl (exprOf_c xs[k] h8) ?_)) | ((refine does_funX en132 rfl ((known_c xs[k] kk b0).yes har) ?_)) | refine does_move rfl ?_ | refine does_loadOA 0 hm rfl rfl rfl ?_ | refine does_loadB hm rfl (by assumption) rfl ?_ | refine does_not rfl ?_ | refine does_indexS1 (by omega) rfl rfl ?_); (first | exact ⟨ext_refl _, rfl⟩ | exact fun _ hx => ⟨hx, rfl⟩)))))); (case hup => kernel_rfl); (case hown => kernel_rfl); (case hnp => kernel_rfl); clear h hm a; intro  w hm; (try simp only [List.map_nil, List.nil_append] at hm); (repeat (first | refine dep_val ?_ | refine dep_nil ?_)); intro a h; (try simp only [Value.cells, List.toList_toArray, splice, List.set_cons_zero, List.set_cons_succ, List.drop_zero, List.drop_succ_cons, List.take_succ_cons, List.take_zero, Nat.zero_add, Nat.reduceAdd, Nat.reduceMul, Int.reduceAdd, Int.reduceToNat, Int.reduceTMod, Nat.zero_mul, Nat.one_mul, Int.toNat_natCast] at h)))
            exact k_thenN ⟨k + 1, ⟨by omega, hstep hn, hm.drop, h.keep ⟨rfl, rfl, rfl, rfl, rfl, rfl, trivial⟩⟩, by omega⟩
          · repeat' (first | refine c_seq ?_ | refine c_region ?_ | refine c_nil ?_ | refine k_then ?_ | refine k_thenR ?_ | refine k_inR ?_ | refine c_skip ?_ | refine c_ret ?_ | refine c_block ?_ | refine c_condT h rfl ?_ | (((refine st_op (d := 7) rfl rfl h ?_; refine does_alloc hm ?_; clear h a hm; intro b_7 w hm a h)); (try simp only [Value.cells, splice, nz, Nat.reduceAdd, Nat.reduceMul, Int.reduceAdd, Int.reduceToNat, Int.reduceTMod] at h)) | ((first | refine st_op rfl rfl h ?_ | refine st_opn rfl h ?_); clear h a; (first | ((refine zs hm rfl rfl rfl rfl rfl rfl ?_); clear hm; intro w hm; (try simp only [Value.cells, splice, nz, ns, Nat.reduceAdd, Nat.reduceMul, Int.reduceAdd, Int.reduceToNat] at hm)) | refine does_move rfl ?_ | refine does_assign rfl ?_ | refine does_loadBA hm rfl (by assumption) rfl ?_ | refine zlss rfl rfl ?_ | refine ziSn rfl rfl ?_); intro a h; (try simp only [Value.cells, splice, nz, Nat.reduceAdd, Nat.reduceMul, Int.reduceAdd, Int.reduceToNat, Int.reduceTMod] at h)) | (apply c_drawM (id := 7) 9 [.val _, .val _, .val _, .val _, .val _, .val _, .val _, .val _, .val _] mixed (by kernel_rfl) (h := h) (hm := hm); (case vcs => (repeat' (first | exact vcs_nil | refine vcs_cons ?_ ?_ | (intro w hm; (repeat (first | refine dep_val ?_ | refine dep_nil ?_)); first | exact vc_skip rfl | exact vc_alloc rfl | exact vc_box rfl rfl rfl | exact vc_buildSlice rfl rfl rfl rfl | exact vc_makeSlice (by omega) (by omega) rfl rfl rfl | exact vc_store rfl rfl rfl rfl rfl rfl rfl rfl rfl rfl | (apply vc_run rfl; (first | ((refine does_funX en133 rfl (exprOf_c xs[k] h8) ?_)) | ((refine does_funX en132 rfl ((known_c xs[k] kk b0).no har) ?_)) | refine does_move rfl ?_ | refine does_loadOA 0 hm rfl rfl rfl ?_ | refine does_loadB hm rfl (by assumption) rfl ?_ | refine does_not rfl ?_ | refine does_indexS1 (by omega) rfl rfl ?_); (first | exact ⟨ext_refl _, rfl⟩ | exact fun _ hx => ⟨hx, rfl⟩)))))); (case hup => kernel_rfl); (case hown => kernel_rfl); (case hnp => kernel_rfl); clear h hm a; intro  w hm; (try simp only [List.map_nil, List.nil_append] at hm); (repeat (first | refine dep_val ?_ | refine dep_nil ?_)); intro a h; (try simp only [Value.cells, List.toList_toArray, splice, List.set_cons_zero, List.set_cons_succ, List.drop_zero, List.drop_succ_cons, List.take_succ_cons, List.take_zero, Nat.zero_add, Nat.reduceAdd, Nat.reduceMul, Int.reduceAdd, Int.reduceToNat, Int.reduceTMod, Nat.zero_mul, Nat.one_mul, Int.toNat_natCast] at h)))
            (refine k_ret2 rfl h rfl rfl ⟨?_, hm.below⟩)
            exact ChkR.no (by omega) (fun e => har ((e.names k _ g2).2 h8))
        · have hn : nodeOk (xs.map aN) ys k xs[k].a := ⟨fun e => absurd e h2, fun e => absurd e h8⟩
          repeat' (first | refine c_seq ?_ | refine c_region ?_ | refine c_nil ?_ | refine k_then ?_ | refine k_inN ?_ | refine c_skip ?_ | refine c_block ?_ | refine c_condT h rfl ?_ | refine c_condF h rfl ?_ | (((refine st_op (d := 7) rfl rfl h ?_; refine does_alloc hm ?_; clear h a hm; intro b_7 w hm a h)); (try simp only [Value.cells, splice, nz, Nat.reduceAdd, Nat.reduceMul, Int.reduceAdd, Int.reduceToNat, Int.reduceTMod] at h)) | ((first | refine st_op rfl rfl h ?_ | refine st_opn rfl h ?_); clear h a; (first | ((refine zs hm rfl rfl rfl rfl rfl rfl ?_); clear hm; intro w hm; (try simp only [Value.cells, splice, nz, ns, Nat.reduceAdd, Nat.reduceMul, Int.reduceAdd, Int.reduceToNat] at hm)) | refine does_move rfl ?_ | refine does_assign rfl ?_ | refine does_loadBA hm rfl (by assumption) rfl ?_ | refine zlss rfl rfl ?_ | refine zadd rfl rfl ?_ | refine ziSn rfl rfl ?_); intro a h; (try simp only [Value.cells, splice, nz, Nat.reduceAdd, Nat.reduceMul, Int.reduceAdd, Int.reduceToNat, Int.reduceTMod] at h)) | (apply c_drawM (id := 7) 9 [.val _, .val _, .val _, .val _, .val _, .val _, .val _, .val _, .val _] mixed (by kernel_rfl) (h := h) (hm := hm); (case vcs => (repeat' (first | exact vcs_nil | refine vcs_cons ?_ ?_ | (intro w hm; (repeat (first | refine dep_val ?_ | refine dep_nil ?_)); first | exact vc_skip rfl | exact vc_alloc rfl | exact vc_box rfl rfl rfl | exact vc_buildSlice rfl rfl rfl rfl | exact vc_makeSlice (by omega) (by omega) rfl rfl rfl | exact vc_store rfl rfl rfl rfl rfl rfl rfl rfl rfl rfl | (apply vc_run rfl; (first | ((refine does_funX en133 rfl (exprOf_p xs[k] h2 h8) ?_)) | ((refine does_funX en132 rfl (known_p xs[k] kk b0) ?_)) | refine does_move rfl ?_ | refine does_loadOA 0 hm rfl rfl rfl ?_ | refine does_loadB hm rfl (by assumption) rfl ?_ | refine does_not rfl ?_ | refine does_indexS1 (by omega) rfl rfl ?_); (first | exact ⟨ext_refl _, rfl⟩ | exact fun _ hx => ⟨hx, rfl⟩)))))); (case hup => kernel_rfl); (case hown => kernel_rfl); (case hnp => kernel_rfl); clear h hm a; intro  w hm; (try simp only [List.map_nil, List.nil_append] at hm); (repeat (first | refine dep_val ?_ | refine dep_nil ?_)); intro a h; (try simp only [Value.cells, List.toList_toArray, splice, List.set_cons_zero, List.set_cons_succ, List.drop_zero, List.drop_succ_cons, List.take_succ_cons, List.take_zero, Nat.zero_add, Nat.reduceAdd, Nat.reduceMul, Int.reduceAdd, Int.reduceToNat, Int.reduceTMod, Nat.zero_mul, Nat.one_mul, Int.toNat_natCast] at h)))
          exact k_thenN ⟨k + 1, ⟨by omega, hstep hn, hm.drop, h.keep ⟨rfl, rfl, rfl, rfl, rfl, rfl, trivial⟩⟩, by omega⟩
    · have hnames : ∀ (i : Nat) (x : PNode), (xs.map aN)[i]? = some x → nodeOk (xs.map aN) ys i x := fun i x hix => hpre i x (by have := (List.getElem?_eq_some_iff.1 hix).1; rw [hlen] at this; omega) hix
      clear hpre
      repeat' (first | refine c_seq ?_ | refine c_region ?_ | refine c_nil ?_ | refine k_then ?_ | refine k_thenE ?_ | refine k_inE ?_ | refine c_exit ?_ | refine c_block ?_ | refine c_condF h rfl ?_ | ((refine st_op rfl rfl h ?_); clear h a; (first | refine does_move rfl ?_ | refine does_fieldAddrL rfl ?_ | refine zl hm rfl rfl ?_ | refine zlss rfl rfl ?_ | refine does_lenS (SliceT.out) rfl ?_); intro a h; (try simp only [Value.cells, splice, nz, Nat.reduceAdd, Nat.reduceMul, Int.reduceAdd, Int.reduceToNat, Int.reduceTMod] at h)))
      refine c_loop (σ := Nat) (fun k a w => k ≤ xs.length ∧ (∀ (i : Nat) (x : PNode), i < k → (xs.map aN)[i]? = some x → arityOk x) ∧ Mem W0 [] B [.blk b_1 (.cells [.slice p xs.length c, .slice q ys.length d].toArray 78)] w ∧
        Holds [(1, ptr0 b_1), (4, .map (some b0)), (41, .slice p xs.length c), (42, .int .i64 xs.length), (43, .int .i64 k)] _ a) (fun k => xs.length - k) 0
        ⟨Nat.zero_le _, fun i x hi => absurd hi (Nat.not_lt_zero _), hm, h.keep ⟨rfl, rfl, rfl, rfl, rfl, trivial⟩⟩ ?_
      clear h hm hlt hk k
      rintro k a w ⟨hk, hpre, hm, h⟩
      by_cases hlt : k < xs.length
      · obtain ⟨q1, rfl, hat1⟩ := hx.row.at hlt
        have g1 : xs[k]? = some xs[k] := List.getElem?_eq_getElem hlt
        have g2 : (xs.map aN)[k]? = some xs[k].a := by rw [List.getElem?_map, g1]; rfl
        have hsz : xs[k].a.args.length ≤ 1048576 := hsm _ (List.getElem_mem hlt)
        have hstep : arityOk xs[k].a → ∀ (i : Nat) (x : PNode), i < k + 1 → (xs.map aN)[i]? = some x → arityOk x := fun hn i x hi hix => by
          by_cases hik : i < k
          · exact hpre i x hik hix
          · obtain rfl : i = k := by omega
            rw [g2] at hix
            cases hix
            exact hn
        by_cases h8 : xs[k].a.op = 8
        · by_cases har : (xs[k].a.args.length : Int) = ar xs[k].a.name
          · repeat' (first | refine c_seq ?_ | refine c_region ?_ | refine c_nil ?_ | refine k_then ?_ | refine k_inN ?_ | refine c_skip ?_ | refine c_block ?_ | refine c_condT h rfl ?_ | refine c_condF h rfl ?_ | (((refine st_op (d := 9) rfl rfl h ?_; refine does_alloc hm ?_; clear h a hm; intro b_9 w hm a h)); (try simp only [Value.cells, splice, nz, Nat.reduceAdd, Nat.reduceMul, Int.reduceAdd, Int.reduceToNat, Int.reduceTMod] at h)) | ((first | refine st_op rfl rfl h ?_ | refine st_opn rfl h ?_); clear h a; (first | ((refine does_funM hm en133 rfl (exprOf_c xs[k] h8) ?_; clear hm; intro w hm)) | ((refine does_funM hm en134 rfl ((fitting_c xs[k] hsz).yes har) ?_; clear hm; intro w hm)) | ((refine zs hm rfl rfl rfl rfl rfl rfl ?_); clear hm; intro w hm; (try simp only [Value.cells, splice, nz, ns, Nat.reduceAdd, Nat.reduceMul, Int.reduceAdd, Int.reduceToNat] at hm)) | refine does_move rfl ?_ | refine does_assign rfl ?_ | refine za hm rfl rfl ?_ | refine does_loadBA hm rfl (by assumption) rfl ?_ | refine zlss rfl rfl ?_ | refine does_not rfl ?_ | refine zadd rfl rfl ?_ | refine ziSn rfl rfl ?_); intro a h; (try simp only [Value.cells, splice, nz, Nat.reduceAdd, Nat.reduceMul, Int.reduceAdd, Int.reduceToNat, Int.reduceTMod] at h)))
            exact k_thenN ⟨k + 1, ⟨by omega, hstep (fun _ => har), hm.drop, h.keep ⟨rfl, rfl, rfl, rfl, rfl, trivial⟩⟩, by omega⟩
          · repeat' (first | refine c_seq ?_ | refine c_region ?_ | refine c_nil ?_ | refine k_then ?_ | refine k_thenR ?_ | refine k_inR ?_ | refine c_skip ?_ | refine c_ret ?_ | refine c_block ?_ | refine c_condT h rfl ?_ | (((refine st_op (d := 9) rfl rfl h ?_; refine does_alloc hm ?_; clear h a hm; intro b_9 w hm a h)); (try simp only [Value.cells, splice, nz, Nat.reduceAdd, Nat.reduceMul, Int.reduceAdd, Int.reduceToNat, Int.reduceTMod] at h)) | ((first | refine st_op rfl rfl h ?_ | refine st_opn rfl h ?_); clear h a; (first | ((refine does_funM hm en133 rfl (exprOf_c xs[k] h8) ?_; clear hm; intro w hm)) | ((refine does_funM hm en134 rfl ((fitting_c xs[k] hsz).no har) ?_; clear hm; intro w hm)) | ((refine zs hm rfl rfl rfl rfl rfl rfl ?_); clear hm; intro w hm; (try simp only [Value.cells, splice, nz, ns, Nat.reduceAdd, Nat.reduceMul, Int.reduceAdd, Int.reduceToNat] at hm)) | refine does_move rfl ?_ | refine does_assign rfl ?_ | refine za hm rfl rfl ?_ | refine does_loadBA hm rfl (by assumption) rfl ?_ | refine zlss rfl rfl ?_ | refine does_not rfl ?_ | refine ziSn rfl rfl ?_); intro a h; (try simp only [Value.cells, splice, nz, Nat.reduceAdd, Nat.reduceMul, Int.reduceAdd, Int.reduceToNat, Int.reduceTMod] at h)))
            (refine k_ret2 rfl h rfl rfl ⟨?_, hm.below⟩)
            exact ChkR.no (by omega) (fun e => har (e.arity k _ g2 h8))
        · have hn : arityOk xs[k].a := fun e => absurd e h8
          by_cases h2 : xs[k].a.op = 2
          · repeat' (first | refine c_seq ?_ | refine c_region ?_ | refine c_nil ?_ | refine k_then ?_ | refine k_inN ?_ | refine c_skip ?_ | refine c_block ?_ | refine c_condT h rfl ?_ | refine c_condF h rfl ?_ | (((refine st_op (d := 9) rfl rfl h ?_; refine does_alloc hm ?_; clear h a hm; intro b_9 w hm a h)); (try simp only [Value.cells, splice, nz, Nat.reduceAdd, Nat.reduceMul, Int.reduceAdd, Int.reduceToNat, Int.reduceTMod] at h)) | ((first | refine st_op rfl rfl h ?_ | refine st_opn rfl h ?_); clear h a; (first | ((refine does_funM hm en133 rfl (exprOf_v xs[k] h2) ?_; clear hm; intro w hm)) | ((refine does_funM hm en134 rfl (fitting_n xs[k] Tvar (.inl rfl)) ?_; clear hm; intro w hm)) | ((refine zs hm rfl rfl rfl rfl rfl rfl ?_); clear hm; intro w hm; (try simp only [Value.cells, splice, nz, ns, Nat.reduceAdd, Nat.reduceMul, Int.reduceAdd, Int.reduceToNat] at hm)) | refine does_move rfl ?_ | refine does_assign rfl ?_ | refine za hm rfl rfl ?_ | refine does_loadBA hm rfl (by assumption) rfl ?_ | refine zlss rfl rfl ?_ | refine does_not rfl ?_ | refine zadd rfl rfl ?_ | refine ziSn rfl rfl ?_); intro a h; (try simp only [Value.cells, splice, nz, Nat.reduceAdd, Nat.reduceMul, Int.reduceAdd, Int.reduceToNat, Int.reduceTMod] at h)))
            exact k_thenN ⟨k + 1, ⟨by omega, hstep hn, hm.drop, h.keep ⟨rfl, rfl, rfl, rfl, rfl, trivial⟩⟩, by omega⟩
          · repeat' (first | refine c_seq ?_ | refine c_region ?_ | refine c_nil ?_ | refine k_then ?_ | refine k_inN ?_ | refine c_skip ?_ | refine c_block ?_ | refine c_condT h rfl ?_ | refine c_condF h rfl ?_ | (((refine st_op (d := 9) rfl rfl h ?_; refine does_alloc hm ?_; clear h a hm; intro b_9 w hm a h)); (try simp only [Value.cells, splice, nz, Nat.reduceAdd, Nat.reduceMul, Int.reduceAdd, Int.reduceToNat, Int.reduceTMod] at h)) | ((first | refine st_op rfl rfl h ?_ | refine st_opn rfl h ?_); clear h a; (first | ((refine does_funM hm en133 rfl (exprOf_p xs[k] h2 h8) ?_; clear hm; intro w hm)) | ((refine does_funM hm en134 rfl (fitting_n xs[k] Tplain (.inr rfl)) ?_; clear hm; intro w hm)) | ((refine zs hm rfl rfl rfl rfl rfl rfl ?_); clear hm; intro w hm; (try simp only [Value.cells, splice, nz, ns, Nat.reduceAdd, Nat.reduceMul, Int.reduceAdd, Int.reduceToNat] at hm)) | refine does_move rfl ?_ | refine does_assign rfl ?_ | refine za hm rfl rfl ?_ | refine does_loadBA hm rfl (by assumption) rfl ?_ | refine zlss rfl rfl ?_ | refine does_not rfl ?_ | refine zadd rfl rfl ?_ | refine ziSn rfl rfl ?_); intro a h; (try simp only [Value.cells, splice, nz, Nat.reduceAdd, Nat.reduceMul, Int.reduceAdd, Int.reduceToNat, Int.reduceTMod] at h)))
            exact k_thenN ⟨k + 1, ⟨by omega, hstep hn, hm.drop, h.keep ⟨rfl, rfl, rfl, rfl, rfl, trivial⟩⟩, by omega⟩
      · have harity : ∀ (i : Nat) (x : PNode), (xs.map aN)[i]? = some x → arityOk x := fun i x hix => hpre i x (by have := (List.getElem?_eq_some_iff.1 hix).1; rw [hlen] at this; omega) hix
        clear hpre
        repeat' (first | refine c_seq ?_ | refine c_region ?_ | refine c_nil ?_ | refine k_then ?_ | refine k_thenE ?_ | refine k_inE ?_ | refine c_exit ?_ | refine c_block ?_ | refine c_condF h rfl ?_ | ((refine st_op rfl rfl h ?_); clear h a; (first | refine does_move rfl ?_ | refine does_fieldAddrL rfl ?_ | refine zl hm rfl rfl ?_ | refine zlss rfl rfl ?_ | refine does_lenS (SliceT.out) rfl ?_); intro a h; (try simp only [Value.cells, splice, nz, Nat.reduceAdd, Nat.reduceMul, Int.reduceAdd, Int.reduceToNat, Int.reduceTMod] at h)))
        refine c_loop (σ := Nat) (fun k a w => k ≤ ys.length ∧ (∀ (i : Nat) (y : TAssignment), i < k → ys[i]? = some y → asgOk ys i y) ∧ Mem W0 [] B [.blk b_1 (.cells [.slice p xs.length c, .slice q ys.length d].toArray 78)] w ∧
          Holds [(1, ptr0 b_1), (4, .map (some b0)), (55, .slice q ys.length d), (56, .int .i64 ys.length), (57, .int .i64 k)] _ a) (fun k => ys.length - k) 0
          ⟨Nat.zero_le _, fun i x hi => absurd hi (Nat.not_lt_zero _), hm, h.keep ⟨rfl, rfl, rfl, rfl, rfl, trivial⟩⟩ ?_
        clear h hm hlt hk k
        rintro k a w ⟨hk, hpre, hm, h⟩
        obtain ⟨o2, hb2, hM2⟩ := hMH
        by_cases hlt : k < ys.length
        · obtain ⟨q1, rfl, hat1⟩ := hy.at hlt
          have g1 : ys[k]? = some ys[k] := List.getElem?_eq_getElem hlt
          obtain ⟨v, hf, hvk⟩ := (firstA_lt ys ys[k].1 ((k : Int) + 1)).2 ⟨k, by omega, by rw [g1]; rfl⟩
          obtain ⟨j, rfl, hj1, hj2⟩ := firstA_bd hf
          have hbf : bef ys ys[k].1 k ↔ (j : Int) < k := by
            rw [← firstA_lt]
            exact ⟨fun ⟨v, h1, h2⟩ => by rw [hf] at h1; cases h1; exact h2, fun e => ⟨_, hf, e⟩⟩
          by_cases hvar : isVar ys[k].1
          · repeat' (first | refine c_seq ?_ | refine c_region ?_ | refine c_nil ?_ | refine k_then ?_ | refine k_thenR ?_ | refine k_inR ?_ | refine c_skip ?_ | refine c_ret ?_ | refine c_block ?_ | refine c_condT h rfl ?_ | (((refine st_op (d := 11) rfl rfl h ?_; refine does_alloc hm ?_; clear h a hm; intro b_11 w hm a h)); (try simp only [Value.cells, splice, nz, Nat.reduceAdd, Nat.reduceMul, Int.reduceAdd, Int.reduceToNat, Int.reduceTMod] at h)) | ((first | refine st_op rfl rfl h ?_ | refine st_opn rfl h ?_); clear h a; (first | ((refine zs hm rfl rfl rfl rfl rfl rfl ?_); clear hm; intro w hm; (try simp only [Value.cells, splice, nz, ns, Nat.reduceAdd, Nat.reduceMul, Int.reduceAdd, Int.reduceToNat] at hm)) | ((refine does_funM hm en135 rfl (iVar_y _ (by assumption)) ?_); clear hm; intro w hm) | refine does_move rfl ?_ | refine does_assign rfl ?_ | refine does_pickT rfl rfl ?_ | refine does_fieldAddrL rfl ?_ | refine zl hm rfl rfl ?_ | refine does_loadBA hm rfl (by assumption) rfl ?_ | refine zlss rfl rfl ?_ | refine ziSn rfl rfl ?_); intro a h; (try simp only [Value.cells, splice, nz, Nat.reduceAdd, Nat.reduceMul, Int.reduceAdd, Int.reduceToNat, Int.reduceTMod] at h)) | ((refine st_skip rfl rfl h ?_); clear h a; intro a h))
            (refine k_ret2 rfl h rfl rfl ⟨?_, hm.below⟩)
            exact ChkR.no (by omega) (fun e => (e.asg k _ g1).1 hvar)
          · by_cases hjk : (j : Int) < k
            · repeat' (first | refine c_seq ?_ | refine c_region ?_ | refine c_nil ?_ | refine k_then ?_ | refine k_thenR ?_ | refine k_inR ?_ | refine c_skip ?_ | refine c_ret ?_ | refine c_block ?_ | refine c_condT h rfl ?_ | (((refine st_op (d := 11) rfl rfl h ?_; refine does_alloc hm ?_; clear h a hm; intro b_11 w hm a h)); (try simp only [Value.cells, splice, nz, Nat.reduceAdd, Nat.reduceMul, Int.reduceAdd, Int.reduceToNat, Int.reduceTMod] at h)) | ((first | refine st_op rfl rfl h ?_ | refine st_opn rfl h ?_); clear h a; (first | ((refine does_lookupNs hf Try.underlying186 Try.underlying9 (hm.base _ _ hb2) hM2 rfl rfl ?_)) | ((refine zs hm rfl rfl rfl rfl rfl rfl ?_); clear hm; intro w hm; (try simp only [Value.cells, splice, nz, ns, Nat.reduceAdd, Nat.reduceMul, Int.reduceAdd, Int.reduceToNat] at hm)) | ((refine does_funM hm en135 rfl (iVar_n _ (by assumption)) ?_); clear hm; intro w hm) | refine does_move rfl ?_ | refine does_assign rfl ?_ | refine does_pickF rfl rfl ?_ | refine does_fieldAddrL rfl ?_ | refine zl hm rfl rfl ?_ | refine does_loadBA hm rfl (by assumption) rfl ?_ | refine zlss rfl rfl ?_ | refine ziSn rfl rfl ?_); intro a h; (try simp only [Value.cells, splice, nz, Nat.reduceAdd, Nat.reduceMul, Int.reduceAdd, Int.reduceToNat, Int.reduceTMod] at h)))
              (refine k_ret2 rfl h rfl rfl ⟨?_, hm.below⟩)
              exact ChkR.no (by omega) (fun e => (e.asg k _ g1).2 (hbf.2 hjk))
            · repeat' (first | refine c_seq ?_ | refine c_region ?_ | refine c_nil ?_ | refine k_then ?_ | refine k_inN ?_ | refine c_skip ?_ | refine c_block ?_ | refine c_condT h rfl ?_ | refine c_condF h rfl ?_ | (((refine st_op (d := 11) rfl rfl h ?_; refine does_alloc hm ?_; clear h a hm; intro b_11 w hm a h)); (try simp only [Value.cells, splice, nz, Nat.reduceAdd, Nat.reduceMul, Int.reduceAdd, Int.reduceToNat, Int.reduceTMod] at h)) | ((first | refine st_op rfl rfl h ?_ | refine st_opn rfl h ?_); clear h a; (first | ((refine does_lookupNs hf Try.underlying186 Try.underlying9 (hm.base _ _ hb2) hM2 rfl rfl ?_)) | ((refine zs hm rfl rfl rfl rfl rfl rfl ?_); clear hm; intro w hm; (try simp only [Value.cells, splice, nz, ns, Nat.reduceAdd, Nat.reduceMul, Int.reduceAdd, Int.reduceToNat] at hm)) | ((refine does_funM hm en135 rfl (iVar_n _ (by assumption)) ?_); clear hm; intro w hm) | refine does_move rfl ?_ | refine does_assign rfl ?_ | refine does_pickF rfl rfl ?_ | refine does_fieldAddrL rfl ?_ | refine zl hm rfl rfl ?_ | refine does_loadBA hm rfl (by assumption) rfl ?_ | refine zlss rfl rfl ?_ | refine zadd rfl rfl ?_ | refine ziSn rfl rfl ?_); intro a h; (try simp only [Value.cells, splice, nz, Nat.reduceAdd, Nat.reduceMul, Int.reduceAdd, Int.reduceToNat, Int.reduceTMod] at h)))
              refine k_thenN ⟨k + 1, ⟨by omega, fun i y hi hiy => ?_, hm.drop, h.keep ⟨rfl, rfl, rfl, rfl, rfl, trivial⟩⟩, by omega⟩
              by_cases hik : i < k
              · exact hpre i y hik hiy
              · obtain rfl : i = k := by omega
                rw [g1] at hiy
                cases hiy
                exact ⟨hvar, fun e => hjk (hbf.1 e)⟩
        · have hasg : ∀ (i : Nat) (y : TAssignment), ys[i]? = some y → asgOk ys i y := fun i y hiy => hpre i y (by have := (List.getElem?_eq_some_iff.1 hiy).1; omega) hiy
          have hcol := firstA_lt ys sColor ys.length
          cases hf : firstA ys ys.length sColor with
          | some v =>
            obtain ⟨j, rfl, hj1, hj2⟩ := firstA_bd hf
            repeat' (first | refine c_seq ?_ | refine c_region ?_ | refine c_nil ?_ | refine k_then ?_ | refine k_thenE ?_ | refine k_inE ?_ | refine c_skip ?_ | refine c_ret ?_ | refine c_exit ?_ | refine c_condF h rfl ?_ | ((refine st_op rfl rfl h ?_); clear h a; (first | ((refine does_lookupYs hf Try.underlying186 Try.underlying9 (hm.base _ _ hb2) hM2 rfl rfl ?_)) | refine does_move rfl ?_ | refine does_assign rfl ?_ | refine zlss rfl rfl ?_ | refine does_not rfl ?_ | refine does_extract rfl rfl ?_); intro a h; (try simp only [Value.cells, splice, nz, Nat.reduceAdd, Nat.reduceMul, Int.reduceAdd, Int.reduceToNat, Int.reduceTMod] at h)))
            (refine k_ret2 rfl h rfl rfl ⟨?_, hm.below⟩)
            exact ChkR.yes ⟨hv, hnames, harity, hasg, hcol.1 ⟨_, hf, by omega⟩⟩
          | none =>
            repeat' (first | refine c_seq ?_ | refine c_region ?_ | refine c_nil ?_ | refine k_then ?_ | refine k_thenR ?_ | refine k_thenE ?_ | refine k_inE ?_ | refine c_ret ?_ | refine c_exit ?_ | refine c_condT h rfl ?_ | refine c_condF h rfl ?_ | ((refine st_op rfl rfl h ?_); clear h a; (first | ((refine does_lookupYn hf Try.underlying186 Try.underlying9 (hm.base _ _ hb2) hM2 rfl rfl ?_)) | refine does_move rfl ?_ | refine does_assign rfl ?_ | refine zlss rfl rfl ?_ | refine does_not rfl ?_ | refine does_extract rfl rfl ?_); intro a h; (try simp only [Value.cells, splice, nz, Nat.reduceAdd, Nat.reduceMul, Int.reduceAdd, Int.reduceToNat, Int.reduceTMod] at h)))
            (refine k_ret2 rfl h rfl rfl ⟨?_, hm.below⟩)
            exact ChkR.no (by omega) (fun e => by
              obtain ⟨v, h1, _⟩ := hcol.2 e.color
              rw [hf] at h1
              cases h1)
  · repeat' (first | refine c_seq ?_ | refine c_region ?_ | refine c_nil ?_ | refine k_then ?_ | refine k_thenR ?_ | refine c_ret ?_ | refine c_condT h rfl ?_ | (((refine st_op (d := 1) rfl rfl h ?_; refine does_box hm rfl rfl ?_; clear h a hm; intro b_1 w hm a h)); (try simp only [Value.cells, splice, nz, Nat.reduceAdd, Nat.reduceMul, Int.reduceAdd, Int.reduceToNat, Int.reduceTMod] at h)) | ((refine st_op rfl rfl h ?_); clear h a; (first | ((refine does_funP hm en129 rfl ((isValidProgram_ok _ _ _ _ _ _ hxs hsm hys).no hv) (hp0.up hm) ?_; clear hm; intro w hm)) | refine does_assign rfl ?_ | refine za hm rfl rfl ?_ | refine does_not rfl ?_); intro a h; (try simp only [Value.cells, splice, nz, Nat.reduceAdd, Nat.reduceMul, Int.reduceAdd, Int.reduceToNat, Int.reduceTMod] at h)))
    (refine k_ret2 rfl h rfl rfl ⟨?_, hm.below⟩)
    exact ChkR.no (by omega) (fun e => hv e.val)
theorem isOk_ok (p q : Option Addr) (xs : List TNode) (ys : List TAssignment) (c d : Nat) (hxs : xs.length ≤ 1048576) (hsm : ∀ x ∈ xs, smN x) (hys : ys.length ≤ 1048576) :
    FunP Try.prog 112 [.agg #[.slice p xs.length c, .slice q ys.length d]] (fun H => ProgH H p q xs ys) (.bool (dB (okP (xs.map aN) ys))) := by
  refine enterFunP Try.func112 rfl Try.ntmps112 rfl (fun W0 w a hp hm h => ?_)
  repeat' (first | refine c_seq ?_ | refine c_region ?_ | refine c_nil ?_ | refine k_then ?_ | refine c_ret ?_ | (((refine st_op (d := 1) rfl rfl h ?_; refine does_box hm rfl rfl ?_; clear h a hm; intro b_1 w hm a h)); (try simp only [Value.cells, splice, nz, Nat.reduceAdd, Nat.reduceMul, Int.reduceAdd, Int.reduceToNat, Int.reduceTMod] at h)) | ((refine st_op rfl rfl h ?_); clear h a; (first | ((refine does_funVal hm en51 rfl (check_ok _ _ _ _ _ _ hxs hsm hys) (hp.up hm) ?_; clear hm; rintro v w ⟨r1, r2, rfl, hr1, hr2⟩ hm)) | refine does_move rfl ?_ | refine does_assign rfl ?_ | refine za hm rfl rfl ?_ | refine zeql rfl rfl ?_ | refine does_extract rfl rfl ?_); intro a h; (try simp only [Value.cells, splice, nz, Nat.reduceAdd, Nat.reduceMul, Int.reduceAdd, Int.reduceToNat, Int.reduceTMod] at h)))
  (refine k_ret1 rfl h rfl ⟨?_, hm.below⟩)
  exact boolI hr1
end Go.Proofs.Ytgphmhjnnppbnaa.St
