/-
  Scenes that are one's own: copies of them, marks in them.
-/
import Derived.Test.YtaiiiendfcglmaaLMkP
import Derived.Test.YtaiiiendfcglmaaLSce
import Derived.Test.YtaiiiendfcglmaaStZip
set_option linter.unusedSimpArgs false
set_option linter.unusedVariables false
namespace Go.Proofs.Ytaiiiendfcglmaa.St
open Go.RowKit
abbrev progLT (y : TProg) : List Own := progL y.p y.c y.q y.d y.xs y.ys
abbrev progsL (p : Option Addr) (c : Nat) (ps : List TProg) : List Own := .row (.slice p ps.length c) 82 2 (ps.map eP).flatten :: (ps.map progLT).flatten
abbrev texL (x : TScene) : Own := .row (.slice x.tp x.tx.length x.tc) 3 1 (x.tx.map eI).flatten
abbrev surL (x : TScene) : Own := .row (.slice x.up x.su.length x.uc) 66 26 (x.su.map eSurface).flatten
abbrev scnL (x : TScene) : List Own := surL x :: (progsL x.sp x.sc x.sh ++ [texL x])
section
variable {w W0 : World} {X : List Nat} {B : Heap} {L : List Own}
theorem own_progs {p : Option Addr} {c : Nat} {ps : List TProg} (hm : Mem W0 X B L w) (h : ∀ o ∈ progsL p c ps, o ∈ L) : ProgsH (fun b => w.heap[b]?) p ps :=
  ⟨row_slM hm (h _ (List.mem_cons_self ..)) (fun _ => rfl) (by omega), fun y hy => own_prog hm fun o ho => h o (List.mem_cons_of_mem _ (List.mem_flatten.2 ⟨_, List.mem_map_of_mem hy, ho⟩))⟩
theorem own_scene {x : TScene} (hm : Mem W0 X B L w) (h : ∀ o ∈ scnL x, o ∈ L) : SceneH (fun b => w.heap[b]?) x :=
  ⟨row_slM hm (h _ (List.mem_cons_of_mem _ (List.mem_append_right _ (List.mem_singleton.2 rfl)))) (fun _ => rfl) (by omega), own_progs hm fun o ho => h o (List.mem_cons_of_mem _ (List.mem_append_left _ ho)), row_slM hm (h _ (List.mem_cons_self ..)) (fun _ => rfl) (by omega)⟩
theorem own_sceneS {x : TScene} (hm : Mem W0 X B L w) (h : List.Sublist (scnL x) L) : SceneH (fun b => w.heap[b]?) x := own_scene hm fun o ho => h.subset ho
end
set_option maxHeartbeats 8000000 in
theorem toProgramSG_ok (p : Option Addr) (xs : List TProg) (c : Nat) (hxs : xs.length ≤ 1048576) (hsm : ∀ x ∈ xs, smP x) : FunG Try.prog 21 [.slice p xs.length c] (fun H => ProgsH H p xs) (fun v L' => ∃ p' c' xs', v = .slice p' xs'.length c' ∧ xs'.map aP = xs.map aP ∧ L' = progsL p' c' xs') := by
  refine enterFunG Try.func21 rfl Try.ntmps21 rfl (fun W0 w a hx hm h => ?_)
  repeat' (first | refine c_seq ?_ | refine c_region ?_ | refine c_nil ?_ | refine k_then ?_ | refine c_block ?_ | ((refine st_op rfl rfl h ?_); clear h a; (first | (show Does _ (.makeSlice _ _ _) _ _ _ _; ((refine does_make hm rfl rfl (by omega) (by omega) ?_; clear hm; intro b w hm))) | (show Does _ (.move _) _ _ _ _; refine does_move rfl ?_) | (show Does _ (.assign _) _ _ _ _; refine does_assign rfl ?_) | (show Does _ (.call _) _ _ _ _; refine does_lenS (SliceT.out) rfl ?_)); intro a h; (try simp only [Value.cells, splice, nz, Nat.reduceAdd, Nat.reduceMul, Int.reduceAdd, Int.reduceToNat, Int.reduceTMod] at h)))
  rw [fillTo_nil] at hm
  refine c_loop (σ := Nat × List TProg) (fun s a w => (s.1 ≤ xs.length ∧ s.2.length = s.1) ∧ s.2.map aP = (xs.take s.1).map aP ∧
    Mem W0 [] (fun b => W0.heap[b]?) (.blk b (.cells (fillTo xs.length [.slice none 0 0, .slice none 0 0] (s.2.map eP)).toArray 82) :: (s.2.map progLT).flatten) w ∧ Holds [(0, .slice p xs.length c), (3, .slice (some ⟨b, 0, none⟩) xs.length xs.length), (4, .int .i64 s.1)] _ a) (fun s => xs.length - s.1) (0, [])
    ⟨⟨Nat.zero_le _, rfl⟩, rfl, by simpa using hm, h.keep ⟨rfl, rfl, rfl, trivial⟩⟩ ?_
  clear h hm
  rintro ⟨k, ys⟩ a w ⟨⟨hk, hyl⟩, hya, hm, h⟩
  simp only at hk hyl hya hm h
  by_cases hlt : k < xs.length
  · obtain ⟨q1, rfl, hat1⟩ := hx.row.at hlt
    have hmem := List.getElem_mem hlt
    have hparts := hx.parts _ hmem
    obtain ⟨⟨h1, h2⟩, h3⟩ := hsm _ hmem
    have hcl : (ys.map eP).length = k := by rw [List.length_map]; exact hyl
    have hal := oneLen eP 2 (fun _ => rfl) ys
    repeat' (first | refine c_seq ?_ | refine c_region ?_ | refine c_nil ?_ | refine k_then ?_ | refine c_skip ?_ | refine c_block ?_ | refine c_condT h rfl ?_ | ((refine st_op rfl rfl h ?_); clear h a; (first | (show Does _ (.move _) _ _ _ _; refine does_move rfl ?_) | (show Does _ (.load _ _) _ _ _ _; (refine does_loadBA hm rfl (by assumption) rfl ?_)) | (show Does _ (.binOp _ _ _ _ _) _ _ _ _; (refine zlss rfl rfl ?_)) | (show Does _ (.call _) _ _ _ _; refine does_lenS (SliceT.out) rfl ?_) | (show Does _ (.indexAddr _ _ _) _ _ _ _; (refine ziSn rfl rfl ?_))); intro a h; (try simp only [Value.cells, splice, nz, Nat.reduceAdd, Nat.reduceMul, Int.reduceAdd, Int.reduceToNat, Int.reduceTMod] at h)))
    refine st_op rfl rfl h ?_; clear h a; refine does_funG hm en40 rfl (toProgramG_ok _ _ xs[k].xs xs[k].ys _ _ h1 h2 h3) (hparts.up hm) ?_; clear hm; rintro v L1 w ⟨p5, c5, q5, d5, xs5, rfl, ha5, rfl⟩ hm a h
    replace hm := hm.perm List.perm_append_comm
    simp only [List.cons_append] at hm
    repeat' (first | refine c_region ?_ | refine c_nil ?_ | refine k_then ?_ | refine k_inN ?_ | ((first | refine st_op rfl rfl h ?_ | refine st_opn rfl h ?_); clear h a; (first | (show Does _ (.store _ _ _) _ _ _ _; ((refine does_storeF 0 hm rfl rfl rfl (by assumption) (by assumption) rfl rfl rfl rfl (by omega) (by omega) ?_); clear hm; intro w hm; (try simp only [Value.cells, splice, nz, ns, Nat.reduceAdd, Nat.reduceMul, Int.reduceAdd, Int.reduceToNat] at hm))) | (show Does _ (.move _) _ _ _ _; refine does_move rfl ?_) | (show Does _ (.assign _) _ _ _ _; refine does_assign rfl ?_) | (show Does _ (.binOp _ _ _ _ _) _ _ _ _; (refine zadd rfl rfl ?_)) | (show Does _ (.indexAddr _ _ _) _ _ _ _; (refine ziSLn rfl rfl ?_))); intro a h; (try simp only [Value.cells, splice, nz, Nat.reduceAdd, Nat.reduceMul, Int.reduceAdd, Int.reduceToNat, Int.reduceTMod] at h)))
    have e : ys.map eP ++ [[.slice p5 xs5.length c5, .slice q5 xs[k].ys.length d5]] = (ys ++ [(⟨xs5, xs[k].ys, p5, c5, q5, d5⟩ : TProg)]).map eP := by simp
    have e2 : (ys.map progLT).flatten ++ progL p5 c5 q5 d5 xs5 xs[k].ys = ((ys ++ [(⟨xs5, xs[k].ys, p5, c5, q5, d5⟩ : TProg)]).map progLT).flatten := by simp
    rw [e, e2] at hm
    refine k_thenN ⟨(k + 1, ys ++ [(⟨xs5, xs[k].ys, p5, c5, q5, d5⟩ : TProg)]), ⟨⟨by omega, by simp [hyl]⟩, ?_, hm, h.keep ⟨rfl, rfl, rfl, trivial⟩⟩, by show xs.length - (k + 1) < xs.length - k; omega⟩
    rw [List.map_append, hya, List.take_succ_eq_append_getElem hlt, List.map_append]
    simp [aP, ha5]
  · obtain rfl : k = xs.length := by omega
    rw [fillTo_full (by simp; omega)] at hm
    have hfl := flat_len (enc := eP) (sz := 2) (fun _ => rfl) ys
    replace hm := hm.toRow 0 (n := ys.length) (cap := 0) 2 rfl hfl (by simp only [maxLen]; omega)
    simp only [List.set_cons_zero] at hm
    repeat' (first | refine c_seq ?_ | refine c_region ?_ | refine c_nil ?_ | refine k_then ?_ | refine k_thenE ?_ | refine k_inE ?_ | refine c_ret ?_ | refine c_exit ?_ | refine c_condF h rfl ?_ | ((refine st_op rfl rfl h ?_); clear h a; (first | (show Does _ (.move _) _ _ _ _; refine does_move rfl ?_) | (show Does _ (.assign _) _ _ _ _; refine does_assign rfl ?_) | (show Does _ (.binOp _ _ _ _ _) _ _ _ _; (refine zlss rfl rfl ?_)) | (show Does _ (.call _) _ _ _ _; refine does_lenS (SliceT.out) rfl ?_)); intro a h; (try simp only [Value.cells, splice, nz, Nat.reduceAdd, Nat.reduceMul, Int.reduceAdd, Int.reduceToNat, Int.reduceTMod] at h)))
    refine k_ret1 rfl h rfl ⟨_, ⟨some ⟨b, 0, none⟩, ys.length, ys, by rw [hyl], by rw [hya, List.take_length], rfl⟩, hm⟩
set_option maxHeartbeats 8000000 in
theorem toSceneG_ok (x : TScene) (hs : smSc x) : FunG Try.prog 6 [.agg (eSc x).toArray] (fun H => SceneH H x) (fun v L' => ∃ x', v = .agg (eSc x').toArray ∧ aSc x' = aSc x ∧ L' = scnL x') := by
  obtain ⟨hs1, hs2, hs3, hs4⟩ := hs
  refine enterFunG Try.func6 rfl Try.ntmps6 rfl (fun W0 w a hp hm h => ?_)
  obtain ⟨hx, hy, hz⟩ := hp
  repeat' (first | refine c_seq ?_ | refine c_region ?_ | refine c_nil ?_ | refine k_then ?_ | ((first | (refine st_op (d := 1) rfl rfl h ?_; refine does_box hm rfl rfl ?_; clear h a hm; intro b_1 w hm a h) | (refine st_op (d := 2) rfl rfl h ?_; refine does_alloc hm ?_; clear h a hm; intro b_2 w hm a h) | (refine st_op (d := 3) rfl rfl h ?_; refine does_alloc hm ?_; clear h a hm; intro b_3 w hm a h)); (try simp only [Value.cells, splice, nz, Nat.reduceAdd, Nat.reduceMul, Int.reduceAdd, Int.reduceToNat, Int.reduceTMod] at h)) | ((first | refine st_op rfl rfl h ?_ | refine st_opn rfl h ?_); clear h a; (first | (show Does _ (.call _) _ _ _ _; ((refine does_funM hm en19 rfl (toCamera_ok _ _ _ _ _ _ _) ?_; clear hm; intro w hm))) | (show Does _ (.store _ _ _) _ _ _ _; ((refine zs hm rfl rfl rfl rfl rfl rfl ?_); clear hm; intro w hm; (try simp only [Value.cells, splice, nz, ns, Nat.reduceAdd, Nat.reduceMul, Int.reduceAdd, Int.reduceToNat] at hm))) | (show Does _ (.fieldAddr _ _ _) _ _ _ _; (refine does_fieldAddrL rfl ?_)) | (show Does _ (.load _ _) _ _ _ _; (refine za hm rfl rfl ?_))); intro a h; (try simp only [Value.cells, splice, nz, Nat.reduceAdd, Nat.reduceMul, Int.reduceAdd, Int.reduceToNat, Int.reduceTMod] at h)))
  refine st_op rfl rfl h ?_; clear h a; refine does_funG hm en20 rfl (toTexture_ok _ _ x.tx _ hs1) (hx.up hm) ?_; clear hm; rintro v L1 w ⟨u, rfl, rfl⟩ hm a h; simp only [List.cons_append, List.nil_append] at hm
  obtain ⟨p1, c1, rfl, hc1, hcm1⟩ := row_slice (i := 0) hm rfl (fun _ => rfl) (by omega)
  repeat' (first | refine c_seq ?_ | refine c_region ?_ | refine c_nil ?_ | refine k_then ?_ | ((first | refine st_op rfl rfl h ?_ | refine st_opn rfl h ?_); clear h a; (first | (show Does _ (.store _ _ _) _ _ _ _; ((refine zs hm rfl rfl rfl rfl rfl rfl ?_); clear hm; intro w hm; (try simp only [Value.cells, splice, nz, ns, Nat.reduceAdd, Nat.reduceMul, Int.reduceAdd, Int.reduceToNat] at hm))) | (show Does _ (.fieldAddr _ _ _) _ _ _ _; (refine does_fieldAddrL rfl ?_)) | (show Does _ (.load _ _) _ _ _ _; (refine zl hm rfl rfl ?_))); intro a h; (try simp only [Value.cells, splice, nz, Nat.reduceAdd, Nat.reduceMul, Int.reduceAdd, Int.reduceToNat, Int.reduceTMod] at h)))
  refine st_op rfl rfl h ?_; clear h a; refine does_funG hm en21 rfl (toProgramSG_ok _ x.sh _ hs2 hs3) (hy.up hm) ?_; clear hm; rintro v L1 w ⟨p2, c2, xs2, rfl, ha2, rfl⟩ hm a h
  replace hm := hm.perm List.perm_append_comm
  simp only [List.cons_append, List.nil_append] at hm
  repeat' (first | refine c_seq ?_ | refine c_region ?_ | refine c_nil ?_ | refine k_then ?_ | ((first | refine st_op rfl rfl h ?_ | refine st_opn rfl h ?_); clear h a; (first | (show Does _ (.store _ _ _) _ _ _ _; ((refine zs hm rfl rfl rfl rfl rfl rfl ?_); clear hm; intro w hm; (try simp only [Value.cells, splice, nz, ns, Nat.reduceAdd, Nat.reduceMul, Int.reduceAdd, Int.reduceToNat] at hm))) | (show Does _ (.fieldAddr _ _ _) _ _ _ _; (refine does_fieldAddrL rfl ?_)) | (show Does _ (.load _ _) _ _ _ _; (refine zl hm rfl rfl ?_))); intro a h; (try simp only [Value.cells, splice, nz, Nat.reduceAdd, Nat.reduceMul, Int.reduceAdd, Int.reduceToNat, Int.reduceTMod] at h)))
  refine st_op rfl rfl h ?_; clear h a; refine does_funN hm en22 rfl (toSurfaceS_ok _ _ _ (by omega)) (by repeat' (exact Sl.up (by assumption) hm)) ?_; clear hm; intro v w hm a h
  obtain ⟨p5, c5, rfl, hcc5, hcm5⟩ := row_slice (i := 0) hm rfl (fun _ => rfl) (by omega)
  repeat' (first | refine c_seq ?_ | refine c_region ?_ | refine c_nil ?_ | refine k_then ?_ | refine c_ret ?_ | ((first | refine st_op rfl rfl h ?_ | refine st_opn rfl h ?_); clear h a; (first | (show Does _ (.store _ _ _) _ _ _ _; ((refine zs hm rfl rfl rfl rfl rfl rfl ?_); clear hm; intro w hm; (try simp only [Value.cells, splice, nz, ns, Nat.reduceAdd, Nat.reduceMul, Int.reduceAdd, Int.reduceToNat] at hm))) | (show Does _ (.fieldAddr _ _ _) _ _ _ _; (refine does_fieldAddrL rfl ?_)) | (show Does _ (.load _ _) _ _ _ _; (first | refine zl hm rfl rfl ?_ | refine za hm rfl rfl ?_))); intro a h; (try simp only [Value.cells, splice, nz, Nat.reduceAdd, Nat.reduceMul, Int.reduceAdd, Int.reduceToNat, Int.reduceTMod] at h)))
  have hm2 := (hm.sub (((((List.Sublist.refl _).cons _).cons _).cons _).cons_cons _ |>.cons_cons _)).perm ((List.perm_append_singleton _ _).symm.cons _)
  have hfin : aSc ⟨x.cw, x.ch, x.cz, x.cn, x.cd, x.cl, x.cf, x.lg, x.tx, p1, c1, xs2, p2, c2, x.su, p5, c5, x.sd⟩ = aSc x := by simp only [aSc, ha2]
  first | exact k_ret (vs := [_]) rfl h ⟨rv_cellA (i := 3) hm rfl rfl rfl, trivial⟩ ⟨_, ⟨⟨x.cw, x.ch, x.cz, x.cn, x.cd, x.cl, x.cf, x.lg, x.tx, p1, c1, xs2, p2, c2, x.su, p5, c5, x.sd⟩, rfl, hfin, rfl⟩, hm2⟩ | exact k_ret (vs := [_]) rfl h ⟨rv_cellA (i := 2) hm rfl rfl rfl, trivial⟩ ⟨_, ⟨⟨x.cw, x.ch, x.cz, x.cn, x.cd, x.cl, x.cf, x.lg, x.tx, p1, c1, xs2, p2, c2, x.su, p5, c5, x.sd⟩, rfl, hfin, rfl⟩, hm2⟩
set_option maxHeartbeats 8000000 in
theorem markTexture_D (g : Int) (p : Option Addr) (xs : List Int) (c : Nat) (m : Int) (hm0 : 0 ≤ m ∧ m ≤ 4000000000000000000) (hxs : xs.length ≤ 1048576) : FunL Try.prog 34 [.agg #[I g, .slice p xs.length c], I m] [.row (.slice p xs.length c) 3 1 (xs.map eI).flatten] (fun _ => True)
    (fun v L' => L' = [] ∧ ∃ m', v = I m' ∧ m ≤ m' ∧ m' ≤ m + xs.length) := by
  refine enterFunL Try.func34 rfl Try.ntmps34 rfl (fun W0 X B L w a hp hm h => ?_)
  simp only [List.cons_append, List.nil_append] at hm
  repeat' (first | refine c_seq ?_ | refine c_region ?_ | refine c_nil ?_ | refine k_then ?_ | ((refine st_op rfl rfl h ?_); clear h a; (first | (show Does _ (.box _ _) _ _ _ _; (refine does_box hm rfl rfl ?_; clear hm; intro b w hm)) | (show Does _ (.move _) _ _ _ _; refine does_move rfl ?_) | (show Does _ (.assign _) _ _ _ _; refine does_assign rfl ?_) | (show Does _ (.fieldAddr _ _ _) _ _ _ _; (refine does_fieldAddrL rfl ?_)) | (show Does _ (.load _ _) _ _ _ _; (refine zl hm rfl rfl ?_))); intro a h; (try simp only [Value.cells, splice, nz, Nat.reduceAdd, Nat.reduceMul, Int.reduceAdd, Int.reduceToNat, Int.reduceTMod] at h)))
  refine st_op rfl rfl h ?_; clear h a; refine does_funW 1 hm en12 rfl (markIntS_ok _ _ _ (by omega) (by omega)) rfl ?_; clear hm; intro w hm a h; simp only [List.set_cons_zero, List.set_cons_succ] at hm
  repeat' (first | refine c_seq ?_ | refine c_region ?_ | refine c_nil ?_ | refine k_then ?_ | refine c_ret ?_ | ((refine st_op rfl rfl h ?_); clear h a; (first | (show Does _ (.move _) _ _ _ _; refine does_move rfl ?_) | (show Does _ (.assign _) _ _ _ _; refine does_assign rfl ?_)); intro a h; (try simp only [Value.cells, splice, nz, Nat.reduceAdd, Nat.reduceMul, Int.reduceAdd, Int.reduceToNat, Int.reduceTMod] at h)))
  exact k_ret1 rfl h rfl ⟨[], ⟨rfl, m + 1 * xs.length, rfl, by omega, by omega⟩, hm.sub (((List.Sublist.refl _).cons _).cons _)⟩
set_option maxHeartbeats 16000000 in
theorem markSurfaceS_D (p : Option Addr) (xs : List TSurface) (c : Nat) (m : Int) (hm0 : 0 ≤ m ∧ m ≤ 4000000000000000000) (hxs : xs.length ≤ 1048576) : FunL Try.prog 36 [.slice p xs.length c, I m] [.row (.slice p xs.length c) 66 26 (xs.map eSurface).flatten] (fun _ => True)
    (fun v L' => L' = [] ∧ ∃ m', v = I m' ∧ m ≤ m' ∧ m' ≤ m + 2 * xs.length) := by
  refine enterFunL Try.func36 rfl Try.ntmps36 rfl (fun W0 X B L w a hp hm h => ?_)
  by_cases h0 : xs.length = 0
  · replace hm := hm.sub (sub_tail _ _)
    repeat' (first | refine c_seq ?_ | refine c_region ?_ | refine c_nil ?_ | refine k_then ?_ | refine k_thenE ?_ | refine k_inE ?_ | refine c_ret ?_ | refine c_exit ?_ | refine c_block ?_ | refine r_succ ?_ | refine c_condF h rfl ?_ | (refine c_rounds 1 ?_) | ((refine st_op rfl rfl h ?_); clear h a; (first | (show Does _ (.move _) _ _ _ _; refine does_move rfl ?_) | (show Does _ (.assign _) _ _ _ _; refine does_assign rfl ?_) | (show Does _ (.binOp _ _ _ _ _) _ _ _ _; (refine zlss rfl rfl ?_)) | (show Does _ (.call _) _ _ _ _; refine does_lenS (SliceT.out) rfl ?_)); intro a h; (try simp only [Value.cells, splice, nz, Nat.reduceAdd, Nat.reduceMul, Int.reduceAdd, Int.reduceToNat, Int.reduceTMod] at h)))
    exact k_ret1 rfl h rfl ⟨[], ⟨rfl, m, rfl, by omega, by omega⟩, hm⟩
  · simp only [List.cons_append, List.nil_append] at hm
    obtain ⟨b, cap, spare, hv, hcc, hcm, hlen, hm'⟩ := hm.toBlk 0 (n := xs.length) rfl (flat_len (enc := eSurface) (sz := 26) (fun _ => rfl) xs) (by omega) (by omega)
    obtain ⟨rfl, rfl⟩ : p = some ⟨b, 0, none⟩ ∧ cap = c := by cases hv; exact ⟨rfl, rfl⟩
    clear hm
    have hm := hm'
    clear hm'
    simp only [List.set_cons_zero] at hm
    repeat' (first | refine c_seq ?_ | refine c_region ?_ | refine c_nil ?_ | refine k_then ?_ | refine c_block ?_ | ((refine st_op rfl rfl h ?_); clear h a; ((show Does _ (.assign _) _ _ _ _; refine does_assign rfl ?_)); intro a h; (try simp only [Value.cells, splice, nz, Nat.reduceAdd, Nat.reduceMul, Int.reduceAdd, Int.reduceToNat, Int.reduceTMod] at h)))
    refine c_loop (σ := Nat × Int × List Value) (fun s a w => (s.1 ≤ xs.length ∧ m ≤ s.2.1 ∧ s.2.1 ≤ m + 2 * s.1 ∧ s.2.2.length = s.1 * 26) ∧ Mem W0 X B (.blk b (.cells (s.2.2 ++ (((xs.drop s.1).map eSurface).flatten ++ spare)).toArray 66 (0, 0)) :: L) w ∧ Holds [(0, .slice (some ⟨b, 0, none⟩) xs.length cap), (1, I s.2.1), (5, .int .i64 s.1)] _ a) (fun s => xs.length - s.1) (0, m, [])
      ⟨⟨Nat.zero_le _, Int.le_refl _, by show m ≤ m + 2 * ((0 : Nat) : Int); omega, rfl⟩, by simpa using hm, h.keep ⟨rfl, rfl, rfl, trivial⟩⟩ ?_
    clear h hm
    rintro ⟨k, m1, A⟩ a w ⟨⟨hk, hm1, hm2, hA⟩, hm, h⟩
    simp only at hk hm1 hm2 hA hm h
    by_cases hlt : k < xs.length
    · rw [List.drop_eq_getElem_cons hlt, List.map_cons, List.flatten_cons, List.append_assoc] at hm
      generalize hD : ((xs.drop (k + 1)).map eSurface).flatten ++ spare = D at hm
      repeat' (first | refine c_seq ?_ | refine c_region ?_ | refine c_nil ?_ | refine k_then ?_ | refine k_inN ?_ | refine c_skip ?_ | refine c_block ?_ | refine c_condT h rfl ?_ | ((first | refine st_op rfl rfl h ?_ | refine st_opn rfl h ?_); clear h a; (first | (show Does _ (.store _ _ _) _ _ _ _; ((refine does_storeM 0 hm rfl rfl rfl (by assumption) (by omega) rfl rfl rfl rfl ?_); clear hm; intro w hm; (try simp only [Value.cells, splice, nz, ns, Nat.reduceAdd, Nat.reduceMul, Int.reduceAdd, Int.reduceToNat] at hm))) | (show Does _ (.move _) _ _ _ _; refine does_move rfl ?_) | (show Does _ (.assign _) _ _ _ _; refine does_assign rfl ?_) | (show Does _ (.fieldAddr _ _ _) _ _ _ _; (refine does_fieldAddrL rfl ?_)) | (show Does _ (.binOp _ _ _ _ _) _ _ _ _; (first | refine zlss rfl rfl ?_ | refine zadd rfl rfl ?_)) | (show Does _ (.call _) _ _ _ _; refine does_lenS (SliceT.out) rfl ?_) | (show Does _ (.indexAddr _ _ _) _ _ _ _; (refine ziSLn rfl rfl ?_))); intro a h; (try simp only [Value.cells, splice, nz, Nat.reduceAdd, Nat.reduceMul, Int.reduceAdd, Int.reduceToNat, Int.reduceTMod] at h)))
      rw [← hD, ← List.append_assoc] at hm
      refine k_thenN ⟨(k + 1, _, _), ⟨⟨hlt, ?_, ?_, ?_⟩, hm, h.keep ⟨rfl, rfl, rfl, trivial⟩⟩, by show xs.length - (k + 1) < xs.length - k; omega⟩
      · show m ≤ m1 + 1 + 1
        omega
      · show m1 + 1 + 1 ≤ m + 2 * ((k + 1 : Nat) : Int)
        omega
      · simp [hA]
        omega
    · obtain rfl : k = xs.length := by omega
      repeat' (first | refine c_seq ?_ | refine c_region ?_ | refine c_nil ?_ | refine k_then ?_ | refine k_thenE ?_ | refine k_inE ?_ | refine c_ret ?_ | refine c_exit ?_ | refine c_condF h rfl ?_ | ((refine st_op rfl rfl h ?_); clear h a; (first | (show Does _ (.move _) _ _ _ _; refine does_move rfl ?_) | (show Does _ (.assign _) _ _ _ _; refine does_assign rfl ?_) | (show Does _ (.binOp _ _ _ _ _) _ _ _ _; (refine zlss rfl rfl ?_)) | (show Does _ (.call _) _ _ _ _; refine does_lenS (SliceT.out) rfl ?_)); intro a h; (try simp only [Value.cells, splice, nz, Nat.reduceAdd, Nat.reduceMul, Int.reduceAdd, Int.reduceToNat, Int.reduceTMod] at h)))
      refine k_ret1 rfl h rfl ⟨[], ⟨rfl, m1, rfl, by omega, by omega⟩, hm.sub ((List.Sublist.refl _).cons _)⟩
set_option maxHeartbeats 16000000 in
theorem markProgramS_D (p : Option Addr) (xs : List TProg) (c : Nat) (m : Int) (hm0 : 0 ≤ m ∧ m ≤ 1000000000000) (hxs : xs.length ≤ 1048576) (hsm : ∀ x ∈ xs, smP x) : FunL Try.prog 35 [.slice p xs.length c, I m] (progsL p c xs) (fun _ => True)
    (fun v L' => L' = [] ∧ ∃ m', v = I m' ∧ m ≤ m' ∧ m' ≤ m + 2000000000000 * xs.length) := by
  refine enterFunL Try.func35 rfl Try.ntmps35 rfl (fun W0 X B L w a hp hm h => ?_)
  by_cases h0 : xs.length = 0
  · replace hm := hm.sub (sub_tail _ _)
    repeat' (first | refine c_seq ?_ | refine c_region ?_ | refine c_nil ?_ | refine k_then ?_ | refine k_thenE ?_ | refine k_inE ?_ | refine c_ret ?_ | refine c_exit ?_ | refine c_block ?_ | refine r_succ ?_ | refine c_condF h rfl ?_ | (refine c_rounds 1 ?_) | ((refine st_op rfl rfl h ?_); clear h a; (first | (show Does _ (.move _) _ _ _ _; refine does_move rfl ?_) | (show Does _ (.assign _) _ _ _ _; refine does_assign rfl ?_) | (show Does _ (.binOp _ _ _ _ _) _ _ _ _; (refine zlss rfl rfl ?_)) | (show Does _ (.call _) _ _ _ _; refine does_lenS (SliceT.out) rfl ?_)); intro a h; (try simp only [Value.cells, splice, nz, Nat.reduceAdd, Nat.reduceMul, Int.reduceAdd, Int.reduceToNat, Int.reduceTMod] at h)))
    exact k_ret1 rfl h rfl ⟨[], ⟨rfl, m, rfl, by omega, by omega⟩, hm⟩
  · simp only [progsL, List.cons_append] at hm
    obtain ⟨b, cap, spare, hv, hcc, hcm, hlen, hm'⟩ := hm.toBlk 0 (n := xs.length) rfl (flat_len (enc := eP) (sz := 2) (fun _ => rfl) xs) (by omega) (by omega)
    obtain ⟨rfl, rfl⟩ : p = some ⟨b, 0, none⟩ ∧ cap = c := by cases hv; exact ⟨rfl, rfl⟩
    clear hm
    have hm := hm'
    clear hm'
    simp only [List.set_cons_zero] at hm
    repeat' (first | refine c_seq ?_ | refine c_region ?_ | refine c_nil ?_ | refine k_then ?_ | refine c_block ?_ | ((refine st_op rfl rfl h ?_); clear h a; ((show Does _ (.assign _) _ _ _ _; refine does_assign rfl ?_)); intro a h; (try simp only [Value.cells, splice, nz, Nat.reduceAdd, Nat.reduceMul, Int.reduceAdd, Int.reduceToNat, Int.reduceTMod] at h)))
    refine c_loop (σ := Nat × Int × List Value) (fun s a w => (s.1 ≤ xs.length ∧ m ≤ s.2.1 ∧ s.2.1 ≤ m + 2000000000000 * s.1 ∧ s.2.2.length = s.1 * 2) ∧ Mem W0 X B (.blk b (.cells (s.2.2 ++ (((xs.drop s.1).map eP).flatten ++ spare)).toArray 82 (0, 0)) :: (((xs.drop s.1).map progLT).flatten ++ L)) w ∧ Holds [(0, .slice (some ⟨b, 0, none⟩) xs.length cap), (1, I s.2.1), (5, .int .i64 s.1)] _ a) (fun s => xs.length - s.1) (0, m, [])
      ⟨⟨Nat.zero_le _, Int.le_refl _, by show m ≤ m + 2000000000000 * ((0 : Nat) : Int); omega, rfl⟩, by simpa using hm, h.keep ⟨rfl, rfl, rfl, trivial⟩⟩ ?_
    clear h hm
    rintro ⟨k, m1, A⟩ a w ⟨⟨hk, hm1, hm2, hA⟩, hm, h⟩
    simp only at hk hm1 hm2 hA hm h
    by_cases hlt : k < xs.length
    · obtain ⟨⟨g1, g2⟩, g3⟩ := hsm _ (List.getElem_mem hlt)
      rw [List.drop_eq_getElem_cons hlt, List.map_cons, List.map_cons, List.flatten_cons, List.flatten_cons, List.append_assoc, List.append_assoc] at hm
      generalize hD : ((xs.drop (k + 1)).map eP).flatten ++ spare = D at hm
      generalize hE : ((xs.drop (k + 1)).map progLT).flatten ++ L = E1 at hm
      replace hm : Mem W0 X B (.blk b (.cells (A ++ (eP xs[k] ++ D)).toArray 82 (0, 0)) :: .row (.slice xs[k].q xs[k].ys.length xs[k].d) 116 2 (xs[k].ys.map eAssignment).flatten :: (nodesL xs[k].p xs[k].c xs[k].xs ++ E1)) w := hm
      repeat' (first | refine c_seq ?_ | refine c_region ?_ | refine c_nil ?_ | refine k_then ?_ | refine c_skip ?_ | refine c_block ?_ | refine c_condT h rfl ?_ | ((refine st_op rfl rfl h ?_); clear h a; (first | (show Does _ (.load _ _) _ _ _ _; (((refine does_loadM 0 hm rfl rfl (by assumption) (by omega) rfl ?_)))) | (show Does _ (.move _) _ _ _ _; refine does_move rfl ?_) | (show Does _ (.fieldAddr _ _ _) _ _ _ _; (refine does_fieldAddrL rfl ?_)) | (show Does _ (.binOp _ _ _ _ _) _ _ _ _; (refine zlss rfl rfl ?_)) | (show Does _ (.call _) _ _ _ _; refine does_lenS (SliceT.out) rfl ?_) | (show Does _ (.indexAddr _ _ _) _ _ _ _; (refine ziSLn rfl rfl ?_))); intro a h; (try simp only [Value.cells, splice, nz, Nat.reduceAdd, Nat.reduceMul, Int.reduceAdd, Int.reduceToNat, Int.reduceTMod] at h)))
      replace hm := Mem.forth (A := [_, _]) (N := nodesL xs[k].p xs[k].c xs[k].xs) (L := E1) hm
      refine st_op rfl rfl h ?_; clear h a; refine does_funL (L0 := nodesL xs[k].p xs[k].c xs[k].xs) hm en48 rfl (markNodeS_D _ xs[k].xs _ m1 (by omega) g1 g2) trivial ?_; clear hm; rintro _ _ w ⟨rfl, m2, rfl, hm3, hm4⟩ hm a h; simp only [List.cons_append, List.nil_append] at hm
      replace hm : Mem W0 X B (.blk b (.cells (A ++ (eP xs[k] ++ D)).toArray 82 (0, 0)) :: .row (.slice xs[k].q xs[k].ys.length xs[k].d) 116 2 (xs[k].ys.map eAssignment).flatten :: E1) w := hm
      repeat' (first | refine c_region ?_ | refine c_nil ?_ | refine k_then ?_ | ((refine st_op rfl rfl h ?_); clear h a; (first | (show Does _ (.load _ _) _ _ _ _; (((refine does_loadM 0 hm rfl rfl (by assumption) (by omega) rfl ?_)))) | (show Does _ (.move _) _ _ _ _; refine does_move rfl ?_) | (show Does _ (.assign _) _ _ _ _; refine does_assign rfl ?_) | (show Does _ (.fieldAddr _ _ _) _ _ _ _; (refine does_fieldAddrL rfl ?_)) | (show Does _ (.indexAddr _ _ _) _ _ _ _; (refine ziSLn rfl rfl ?_))); intro a h; (try simp only [Value.cells, splice, nz, Nat.reduceAdd, Nat.reduceMul, Int.reduceAdd, Int.reduceToNat, Int.reduceTMod] at h)))
      replace hm := hm.perm (List.Perm.swap _ _ _)
      refine st_op rfl rfl h ?_; clear h a; refine does_funL (L0 := [_]) hm en49 rfl (markAssignmentS_D _ xs[k].ys _ m2 (by omega) g3) trivial ?_; clear hm; rintro _ _ w ⟨rfl, m3, rfl, hm5, hm6⟩ hm a h; simp only [List.cons_append, List.nil_append] at hm
      replace hm : Mem W0 X B (.blk b (.cells (A ++ (eP xs[k] ++ D)).toArray 82 (0, 0)) :: E1) w := hm
      repeat' (first | refine c_region ?_ | refine c_nil ?_ | refine k_then ?_ | refine k_inN ?_ | ((refine st_op rfl rfl h ?_); clear h a; (first | (show Does _ (.move _) _ _ _ _; refine does_move rfl ?_) | (show Does _ (.assign _) _ _ _ _; refine does_assign rfl ?_) | (show Does _ (.binOp _ _ _ _ _) _ _ _ _; (refine zadd rfl rfl ?_))); intro a h; (try simp only [Value.cells, splice, nz, Nat.reduceAdd, Nat.reduceMul, Int.reduceAdd, Int.reduceToNat, Int.reduceTMod] at h)))
      rw [← hD, ← hE, ← List.append_assoc A] at hm
      refine k_thenN ⟨(k + 1, m3, A ++ eP xs[k]), ⟨⟨hlt, ?_, ?_, ?_⟩, hm, h.keep ⟨rfl, rfl, rfl, trivial⟩⟩, by show xs.length - (k + 1) < xs.length - k; omega⟩
      · show m ≤ m3
        omega
      · show m3 ≤ m + 2000000000000 * ((k + 1 : Nat) : Int)
        omega
      · simp [hA]
        omega
    · obtain rfl : k = xs.length := by omega
      repeat' (first | refine c_seq ?_ | refine c_region ?_ | refine c_nil ?_ | refine k_then ?_ | refine k_thenE ?_ | refine k_inE ?_ | refine c_ret ?_ | refine c_exit ?_ | refine c_condF h rfl ?_ | ((refine st_op rfl rfl h ?_); clear h a; (first | (show Does _ (.move _) _ _ _ _; refine does_move rfl ?_) | (show Does _ (.assign _) _ _ _ _; refine does_assign rfl ?_) | (show Does _ (.binOp _ _ _ _ _) _ _ _ _; (refine zlss rfl rfl ?_)) | (show Does _ (.call _) _ _ _ _; refine does_lenS (SliceT.out) rfl ?_)); intro a h; (try simp only [Value.cells, splice, nz, Nat.reduceAdd, Nat.reduceMul, Int.reduceAdd, Int.reduceToNat, Int.reduceTMod] at h)))
      refine k_ret1 rfl h rfl ⟨[], ⟨rfl, m1, rfl, by omega, by omega⟩, hm.sub ((sub_tail _ _).cons _)⟩
set_option maxHeartbeats 16000000 in
theorem markScene_D (x : TScene) (m : Int) (hm0 : 0 ≤ m ∧ m ≤ 1000) (hs : smSc x) : FunL Try.prog 11 [.agg (eSc x).toArray, I m] (scnL x) (fun _ => True)
    (fun v L' => L' = [] ∧ ∃ m', v = I m' ∧ m ≤ m' ∧ m' ≤ 3000000000000000000) := by
  obtain ⟨hs1, hs2, hs3, hs4⟩ := hs
  refine enterFunL Try.func11 rfl Try.ntmps11 rfl (fun W0 X B L w a hp hm0' h => ?_)
  have hm : Mem W0 X B (surL x :: (progsL x.sp x.sc x.sh ++ ([texL x] ++ L))) w := by rw [← List.append_assoc]; exact hm0'
  clear hm0'
  repeat' (first | refine c_seq ?_ | refine c_region ?_ | refine c_nil ?_ | refine k_then ?_ | (((refine st_op (d := 2) rfl rfl h ?_; refine does_box hm rfl rfl ?_; clear h a hm; intro b_2 w hm a h)); (try simp only [Value.cells, splice, nz, Nat.reduceAdd, Nat.reduceMul, Int.reduceAdd, Int.reduceToNat, Int.reduceTMod] at h)) | ((refine st_op rfl rfl h ?_); clear h a; (first | (show Does _ (.move _) _ _ _ _; refine does_move rfl ?_) | (show Does _ (.assign _) _ _ _ _; refine does_assign rfl ?_) | (show Does _ (.fieldAddr _ _ _) _ _ _ _; (refine does_fieldAddrL rfl ?_)) | (show Does _ (.load _ _) _ _ _ _; (refine za hm rfl rfl ?_))); intro a h; (try simp only [Value.cells, splice, nz, Nat.reduceAdd, Nat.reduceMul, Int.reduceAdd, Int.reduceToNat, Int.reduceTMod] at h)))
  replace hm := Mem.forth (A := _ :: surL x :: progsL x.sp x.sc x.sh) (N := [texL x]) (L := L) hm
  refine st_op rfl rfl h ?_; clear h a; refine does_funL (L0 := [texL x]) hm en34 rfl (markTexture_D _ _ x.tx _ m (by omega) hs1) trivial ?_; clear hm; rintro _ _ w ⟨rfl, m1, rfl, hm1, hm2⟩ hm a h; simp only [List.cons_append, List.nil_append] at hm
  repeat' (first | refine c_seq ?_ | refine c_region ?_ | refine c_nil ?_ | refine k_then ?_ | ((refine st_op rfl rfl h ?_); clear h a; (first | (show Does _ (.move _) _ _ _ _; refine does_move rfl ?_) | (show Does _ (.assign _) _ _ _ _; refine does_assign rfl ?_) | (show Does _ (.fieldAddr _ _ _) _ _ _ _; (refine does_fieldAddrL rfl ?_)) | (show Does _ (.load _ _) _ _ _ _; (refine zl hm rfl rfl ?_))); intro a h; (try simp only [Value.cells, splice, nz, Nat.reduceAdd, Nat.reduceMul, Int.reduceAdd, Int.reduceToNat, Int.reduceTMod] at h)))
  replace hm := Mem.forth (A := [_, _]) (N := progsL x.sp x.sc x.sh) (L := L) hm
  refine st_op rfl rfl h ?_; clear h a; refine does_funL (L0 := progsL x.sp x.sc x.sh) hm en35 rfl (markProgramS_D _ x.sh _ m1 (by omega) hs2 hs3) trivial ?_; clear hm; rintro _ _ w ⟨rfl, m2, rfl, hm3, hm4⟩ hm a h; simp only [List.cons_append, List.nil_append] at hm
  repeat' (first | refine c_seq ?_ | refine c_region ?_ | refine c_nil ?_ | refine k_then ?_ | ((refine st_op rfl rfl h ?_); clear h a; (first | (show Does _ (.move _) _ _ _ _; refine does_move rfl ?_) | (show Does _ (.assign _) _ _ _ _; refine does_assign rfl ?_) | (show Does _ (.fieldAddr _ _ _) _ _ _ _; (refine does_fieldAddrL rfl ?_)) | (show Does _ (.load _ _) _ _ _ _; (refine zl hm rfl rfl ?_))); intro a h; (try simp only [Value.cells, splice, nz, Nat.reduceAdd, Nat.reduceMul, Int.reduceAdd, Int.reduceToNat, Int.reduceTMod] at h)))
  replace hm := hm.perm (List.Perm.swap _ _ _)
  refine st_op rfl rfl h ?_; clear h a; refine does_funL (L0 := [surL x]) hm en36 rfl (markSurfaceS_D _ x.su _ m2 (by omega) hs4) trivial ?_; clear hm; rintro _ _ w ⟨rfl, m3, rfl, hm5, hm6⟩ hm a h; simp only [List.cons_append, List.nil_append] at hm
  repeat' (first | refine c_seq ?_ | refine c_region ?_ | refine c_nil ?_ | refine k_then ?_ | refine c_ret ?_ | ((refine st_op rfl rfl h ?_); clear h a; (first | (show Does _ (.move _) _ _ _ _; refine does_move rfl ?_) | (show Does _ (.assign _) _ _ _ _; refine does_assign rfl ?_)); intro a h; (try simp only [Value.cells, splice, nz, Nat.reduceAdd, Nat.reduceMul, Int.reduceAdd, Int.reduceToNat, Int.reduceTMod] at h)))
  exact k_ret1 rfl h rfl ⟨[], ⟨rfl, m3, rfl, by omega, by omega⟩, hm.drop⟩
end Go.Proofs.Ytaiiiendfcglmaa.St
