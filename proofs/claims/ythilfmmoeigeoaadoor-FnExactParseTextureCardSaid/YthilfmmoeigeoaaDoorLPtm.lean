/-
  Textures read: both sides; marks; from the row's list to the library's variables.
-/
import Derived.Test.YthilfmmoeigeoaaDoorLPti
import Derived.Test.YthilfmmoeigeoaaDoorLPts
import Derived.Test.YthilfmmoeigeoaaDoorLTxa
import Derived.Test.YthilfmmoeigeoaaDoorStIns
import Derived.Test.YthilfmmoeigeoaaDoorStCat
import Derived.LaidLaws
set_option linter.unusedSimpArgs false
set_option linter.unusedVariables false
namespace Go.Proofs.YthilfmmoeigeoaaDoor.St
open Go.RowKit
def TexO (g : Int) (xs : List Int) (b : Bool) (v : Value) (L' : List Own) : Prop := ∃ p c, v = .tuple #[.agg #[I g, .slice p xs.length c], .bool b] ∧ L' = [.row (.slice p xs.length c) 3 1 (xs.map eI).flatten]
theorem FunG.gainT {P : Program} {f : FuncId} {vs : List Value} {pre pre' : Heap → Prop} {R R' : Value → List Own → Prop} (h : FunG P f vs pre R) (hp : ∀ H, pre' H → pre H) (hR : ∀ v L' W0 w, R v L' → Mem W0 [] (fun b => W0.heap[b]?) L' w → ∃ L2, R' v L2 ∧ Mem W0 [] (fun b => W0.heap[b]?) L2 w) : FunG P f vs pre' R' :=
  ⟨fun w hw => (h.out w (hp _ hw)).mono fun _ w' ⟨v, L', he, hr, hm⟩ => by
    obtain ⟨L2, h1, h2⟩ := hR v L' w w' hr hm
    exact ⟨v, L2, he, h1, h2⟩⟩
theorem ptP_yes {s : ByteArray} {g : Int} {xs : List Int} (hp : PT (tL s) g xs) {v : Value} {L' : List Own} (W0 w : World) (h : ptP s v L') (hm : Mem W0 [] (fun b => W0.heap[b]?) L' w) : ∃ L2, TexO g xs true v L2 ∧ Mem W0 [] (fun b => W0.heap[b]?) L2 w := by
  rcases h with ⟨_, _, hno⟩ | ⟨g', xs', p, c, rfl, rfl, h'⟩
  · exact absurd hp (hno g xs)
  · obtain ⟨rfl, rfl⟩ := pt_inj hp h'
    exact ⟨_, ⟨p, c, rfl, rfl⟩, hm⟩
theorem ptP_no {s : ByteArray} (hp : ∀ g xs, ¬ PT (tL s) g xs) {v : Value} {L' : List Own} (W0 w : World) (h : ptP s v L') (hm : Mem W0 [] (fun b => W0.heap[b]?) L' w) : ∃ L2, TexO 0 [] false v L2 ∧ Mem W0 [] (fun b => W0.heap[b]?) L2 w := by
  rcases h with ⟨rfl, rfl, _⟩ | ⟨g', xs', p, c, _, _, h'⟩
  · exact ⟨_, ⟨none, 0, rfl, rfl⟩, hm.addNil _ _⟩
  · exact absurd h' (hp g' xs')
theorem pt_both (s : ByteArray) (hs : s.size ≤ 1048576) : ∃ g xs b, xs.length ≤ 1048576 ∧ FunG Tryd.prog 16 [.string s] TabH (TexO g xs b) ∧ FunG Tryd.prog 17 [.string s] (fun H => TabH H ∧ ErrH H) (TexO g xs b) := by
  by_cases h : ∃ g xs, PT (tL s) g xs
  · obtain ⟨g, xs, hp⟩ := h
    have h1 := hp.1.1
    refine ⟨g, xs, true, by omega, (sParseTexture_ok s hs).gainT (fun _ h => h) (fun v L' W0 w h hm => ptP_yes hp W0 w h hm), (iParseTexture_ok s hs).gainT (fun _ h => h) (fun v L' W0 w h hm => ptP_yes hp W0 w h hm)⟩
  · have hp : ∀ g xs, ¬ PT (tL s) g xs := fun g xs hp => h ⟨g, xs, hp⟩
    exact ⟨0, [], false, by simp, (sParseTexture_ok s hs).gainT (fun _ h => h) (fun v L' W0 w h hm => ptP_no hp W0 w h hm), (iParseTexture_ok s hs).gainT (fun _ h => h) (fun v L' W0 w h hm => ptP_no hp W0 w h hm)⟩
set_option maxHeartbeats 2000000 in
theorem markTex_ok (g : Int) (p : Option Addr) (xs : List Int) (c : Nat) (m : Int) (hm0 : 0 ≤ m ∧ m ≤ 4000000000000000000) (hxs : xs.length ≤ 1048576) : FunL Tryd.prog 18 [.agg #[I g, .slice p xs.length c], I m] [.row (.slice p xs.length c) 3 1 (xs.map eI).flatten] (fun _ => True)
    (fun v L' => v = I (m + 1 * xs.length) ∧ L' = [.row (.slice p xs.length c) 3 1 ((rampI m xs.length).map eI).flatten]) := by
  refine enterFunL Tryd.func18 rfl Tryd.ntmps18 rfl (fun W0 X B L w a hp hm h => ?_)
  simp only [List.cons_append, List.nil_append] at hm
  repeat' (first | refine c_seq ?_ | refine c_region ?_ | refine c_nil ?_ | refine k_then ?_ | refine k_thenL ?_ | refine k_thenR ?_ | refine k_thenE ?_ | refine k_inN ?_ | refine k_inR ?_ | refine k_inE ?_ | refine k_inO rfl ?_ | refine c_skip ?_ | refine c_ret ?_ | refine c_exit ?_ | refine c_block ?_ | refine r_succ ?_ | refine c_condT h rfl ?_ | refine c_condF h rfl ?_ | ((first | refine st_op rfl rfl h ?_ | refine st_opn rfl h ?_); clear h a; (first | (show Does _ (.box _ _) _ _ _ _; (refine does_box hm rfl rfl ?_; clear hm; intro b w hm)) | (show Does _ (.move _) _ _ _ _; refine does_move rfl ?_) | (show Does _ (.assign _) _ _ _ _; refine does_assign rfl ?_) | (show Does _ (.fieldAddr _ _ _) _ _ _ _; (first | refine does_fieldAddrL rfl ?_ | refine does_fieldAddr rfl ?_)) | (show Does _ (.load _ _) _ _ _ _; (first | refine does_loadO 0 hm rfl rfl rfl ?_ | refine does_loadO 1 hm rfl rfl rfl ?_ | refine does_loadO 2 hm rfl rfl rfl ?_ | refine does_loadO 3 hm rfl rfl rfl ?_ | refine does_loadO 4 hm rfl rfl rfl ?_ | refine does_loadO 5 hm rfl rfl rfl ?_ | refine does_loadOA 0 hm rfl rfl rfl ?_ | refine does_loadOA 1 hm rfl rfl rfl ?_ | refine does_loadOA 2 hm rfl rfl rfl ?_ | refine does_loadOA 3 hm rfl rfl rfl ?_ | refine does_loadOA 4 hm rfl rfl rfl ?_ | refine does_loadOA 5 hm rfl rfl rfl ?_ | refine does_loadB hm rfl (by assumption) rfl ?_ | refine does_loadBA hm rfl (by assumption) rfl ?_ | refine does_loadB hm rfl (At.add (by assumption) _) rfl ?_))); intro a h; (try simp only [Value.cells, List.toList_toArray, splice, List.set_cons_zero, List.set_cons_succ, List.drop_zero, List.drop_succ_cons, List.take_succ_cons, List.take_zero, Nat.zero_add, Nat.reduceAdd, Nat.reduceMul, Int.reduceAdd, Int.reduceToNat, Int.reduceTMod, Nat.zero_mul, Nat.one_mul, Int.toNat_natCast] at h)) | ((first | refine st_skip rfl rfl h ?_ | refine st_skipn rfl h ?_); clear h a; intro a h) | ((first | refine c_condD h rfl ?_ ?_ | refine c_cond h rfl ?_ ?_) <;> intro hc <;> (try (first | exact absurd trivial hc | exact absurd rfl hc))) | (refine st_guardD rfl rfl h ?_ ?_ <;> clear h <;> intro hc h))
  refine st_op rfl rfl h ?_; clear h a; refine does_funW 1 hm en45 rfl (markIntS_ok _ _ _ (by omega) (by omega)) rfl ?_; clear hm; intro w hm a h; simp only [List.set_cons_zero, List.set_cons_succ] at hm
  repeat' (first | refine c_seq ?_ | refine c_region ?_ | refine c_nil ?_ | refine k_then ?_ | refine k_thenL ?_ | refine k_thenR ?_ | refine k_thenE ?_ | refine k_inN ?_ | refine k_inR ?_ | refine k_inE ?_ | refine k_inO rfl ?_ | refine c_skip ?_ | refine c_ret ?_ | refine c_exit ?_ | refine c_block ?_ | refine r_succ ?_ | refine c_condT h rfl ?_ | refine c_condF h rfl ?_ | ((first | refine st_op rfl rfl h ?_ | refine st_opn rfl h ?_); clear h a; (first | (show Does _ (.box _ _) _ _ _ _; (refine does_box hm rfl rfl ?_; clear hm; intro b w hm)) | (show Does _ (.move _) _ _ _ _; refine does_move rfl ?_) | (show Does _ (.assign _) _ _ _ _; refine does_assign rfl ?_) | (show Does _ (.fieldAddr _ _ _) _ _ _ _; (first | refine does_fieldAddrL rfl ?_ | refine does_fieldAddr rfl ?_)) | (show Does _ (.load _ _) _ _ _ _; (first | refine does_loadO 0 hm rfl rfl rfl ?_ | refine does_loadO 1 hm rfl rfl rfl ?_ | refine does_loadO 2 hm rfl rfl rfl ?_ | refine does_loadO 3 hm rfl rfl rfl ?_ | refine does_loadO 4 hm rfl rfl rfl ?_ | refine does_loadO 5 hm rfl rfl rfl ?_ | refine does_loadOA 0 hm rfl rfl rfl ?_ | refine does_loadOA 1 hm rfl rfl rfl ?_ | refine does_loadOA 2 hm rfl rfl rfl ?_ | refine does_loadOA 3 hm rfl rfl rfl ?_ | refine does_loadOA 4 hm rfl rfl rfl ?_ | refine does_loadOA 5 hm rfl rfl rfl ?_ | refine does_loadB hm rfl (by assumption) rfl ?_ | refine does_loadBA hm rfl (by assumption) rfl ?_ | refine does_loadB hm rfl (At.add (by assumption) _) rfl ?_))); intro a h; (try simp only [Value.cells, List.toList_toArray, splice, List.set_cons_zero, List.set_cons_succ, List.drop_zero, List.drop_succ_cons, List.take_succ_cons, List.take_zero, Nat.zero_add, Nat.reduceAdd, Nat.reduceMul, Int.reduceAdd, Int.reduceToNat, Int.reduceTMod, Nat.zero_mul, Nat.one_mul, Int.toNat_natCast] at h)) | ((first | refine st_skip rfl rfl h ?_ | refine st_skipn rfl h ?_); clear h a; intro a h) | ((first | refine c_condD h rfl ?_ ?_ | refine c_cond h rfl ?_ ?_) <;> intro hc <;> (try (first | exact absurd trivial hc | exact absurd rfl hc))) | (refine st_guardD rfl rfl h ?_ ?_ <;> clear h <;> intro hc h))
  exact k_ret1 rfl h rfl ⟨_, ⟨rfl, rfl⟩, hm.drop⟩
set_option maxHeartbeats 2000000 in
theorem heldTex_ok (g : Int) (p : Option Addr) (n c : Nat) (m : Int) (hm0 : 0 ≤ m ∧ m ≤ 4000000000000000000) (hxs : n ≤ 1048576) : FunP Tryd.prog 19 [.agg #[I g, .slice p n c], I m] (fun H => Sl H p eI 1 (rampI m n)) (I (m + 1 * n)) := by
  refine enterFunP Tryd.func19 rfl Tryd.ntmps19 rfl (fun W0 w a hp hm h => ?_)
  repeat' (first | refine c_seq ?_ | refine c_region ?_ | refine c_nil ?_ | refine k_then ?_ | refine k_thenL ?_ | refine k_thenR ?_ | refine k_thenE ?_ | refine k_inN ?_ | refine k_inR ?_ | refine k_inE ?_ | refine k_inO rfl ?_ | refine c_skip ?_ | refine c_ret ?_ | refine c_exit ?_ | refine c_block ?_ | refine r_succ ?_ | refine c_condT h rfl ?_ | refine c_condF h rfl ?_ | ((first | refine st_op rfl rfl h ?_ | refine st_opn rfl h ?_); clear h a; (first | (show Does _ (.call _) _ _ _ _; ((refine does_funP hm en46 rfl (heldIntS_ok _ n _ m (by omega) (by omega)) (hp.up hm) ?_; clear hm; intro w hm))) | (show Does _ (.box _ _) _ _ _ _; (refine does_box hm rfl rfl ?_; clear hm; intro b w hm)) | (show Does _ (.move _) _ _ _ _; refine does_move rfl ?_) | (show Does _ (.assign _) _ _ _ _; refine does_assign rfl ?_) | (show Does _ (.fieldAddr _ _ _) _ _ _ _; (first | refine does_fieldAddrL rfl ?_ | refine does_fieldAddr rfl ?_)) | (show Does _ (.load _ _) _ _ _ _; (first | refine does_loadO 0 hm rfl rfl rfl ?_ | refine does_loadO 1 hm rfl rfl rfl ?_ | refine does_loadO 2 hm rfl rfl rfl ?_ | refine does_loadO 3 hm rfl rfl rfl ?_ | refine does_loadO 4 hm rfl rfl rfl ?_ | refine does_loadO 5 hm rfl rfl rfl ?_ | refine does_loadOA 0 hm rfl rfl rfl ?_ | refine does_loadOA 1 hm rfl rfl rfl ?_ | refine does_loadOA 2 hm rfl rfl rfl ?_ | refine does_loadOA 3 hm rfl rfl rfl ?_ | refine does_loadOA 4 hm rfl rfl rfl ?_ | refine does_loadOA 5 hm rfl rfl rfl ?_ | refine does_loadB hm rfl (by assumption) rfl ?_ | refine does_loadBA hm rfl (by assumption) rfl ?_ | refine does_loadB hm rfl (At.add (by assumption) _) rfl ?_)) | (show Does _ (.binOp _ _ _ _ _) _ _ _ _; (first | refine does_lssT rfl rfl (by omega) ?_ | refine does_lssF rfl rfl (by omega) ?_ | refine does_lss rfl rfl ?_))); intro a h; (try simp only [Value.cells, List.toList_toArray, splice, List.set_cons_zero, List.set_cons_succ, List.drop_zero, List.drop_succ_cons, List.take_succ_cons, List.take_zero, Nat.zero_add, Nat.reduceAdd, Nat.reduceMul, Int.reduceAdd, Int.reduceToNat, Int.reduceTMod, Nat.zero_mul, Nat.one_mul, Int.toNat_natCast] at h)) | ((first | refine st_skip rfl rfl h ?_ | refine st_skipn rfl h ?_); clear h a; intro a h) | ((first | refine c_condD h rfl ?_ ?_ | refine c_cond h rfl ?_ ?_) <;> intro hc <;> (try (first | exact absurd trivial hc | exact absurd rfl hc))) | (refine st_guardD rfl rfl h ?_ ?_ <;> clear h <;> intro hc h))
  all_goals (first | refine k_ret1 rfl h rfl ⟨?_, hm.below⟩ | refine k_ret2 rfl h rfl rfl ⟨?_, hm.below⟩ | refine k_ret (vs := [_]) rfl h ⟨rv_cellA (i := 0) hm rfl rfl rfl, trivial⟩ ⟨?_, hm.below⟩ | refine k_ret (vs := [_]) rfl h ⟨rv_cellA (i := 1) hm rfl rfl rfl, trivial⟩ ⟨?_, hm.below⟩ | refine k_ret (vs := [_]) rfl h ⟨rv_cellA (i := 2) hm rfl rfl rfl, trivial⟩ ⟨?_, hm.below⟩ | refine k_ret (vs := [_]) rfl h ⟨rv_cellA (i := 3) hm rfl rfl rfl, trivial⟩ ⟨?_, hm.below⟩ | refine k_ret (vs := [_]) rfl h ⟨rv_cellA (i := 4) hm rfl rfl rfl, trivial⟩ ⟨?_, hm.below⟩ | refine k_ret (vs := [_]) rfl h ⟨rv_cellA (i := 5) hm rfl rfl rfl, trivial⟩ ⟨?_, hm.below⟩ | refine k_ret (vs := [_]) rfl h ⟨rv_cellA (i := 6) hm rfl rfl rfl, trivial⟩ ⟨?_, hm.below⟩ | refine k_ret (vs := [_]) rfl h ⟨rv_cellA (i := 7) hm rfl rfl rfl, trivial⟩ ⟨?_, hm.below⟩ | refine k_ret (vs := [_]) rfl h ⟨rv_cellA (i := 8) hm rfl rfl rfl, trivial⟩ ⟨?_, hm.below⟩ | refine k_ret (vs := [_]) rfl h ⟨rv_cellA (i := 9) hm rfl rfl rfl, trivial⟩ ⟨?_, hm.below⟩ | refine k_ret (vs := [_]) rfl h ⟨rv_cell1 (i := 0) hm rfl rfl rfl, trivial⟩ ⟨?_, hm.below⟩ | refine k_ret (vs := [_]) rfl h ⟨rv_cell1 (i := 1) hm rfl rfl rfl, trivial⟩ ⟨?_, hm.below⟩ | refine k_ret (vs := [_]) rfl h ⟨rv_cell1 (i := 2) hm rfl rfl rfl, trivial⟩ ⟨?_, hm.below⟩ | refine k_ret (vs := [_]) rfl h ⟨rv_cell1 (i := 3) hm rfl rfl rfl, trivial⟩ ⟨?_, hm.below⟩ | refine k_ret (vs := [_]) rfl h ⟨rv_cell1 (i := 4) hm rfl rfl rfl, trivial⟩ ⟨?_, hm.below⟩ | refine k_ret (vs := [_]) rfl h ⟨rv_cell1 (i := 5) hm rfl rfl rfl, trivial⟩ ⟨?_, hm.below⟩ | refine k_ret (vs := [_]) rfl h ⟨rv_cell1 (i := 6) hm rfl rfl rfl, trivial⟩ ⟨?_, hm.below⟩ | refine k_ret (vs := [_]) rfl h ⟨rv_cell1 (i := 7) hm rfl rfl rfl, trivial⟩ ⟨?_, hm.below⟩ | refine k_ret (vs := [_]) rfl h ⟨rv_cell1 (i := 8) hm rfl rfl rfl, trivial⟩ ⟨?_, hm.below⟩ | refine k_ret (vs := [_]) rfl h ⟨rv_cell1 (i := 9) hm rfl rfl rfl, trivial⟩ ⟨?_, hm.below⟩ | refine k_ret (vs := [_, _]) rfl h ⟨rv_cellA (i := 0) hm rfl rfl rfl, rfl, trivial⟩ ⟨?_, hm.below⟩ | refine k_ret (vs := [_, _]) rfl h ⟨rv_cellA (i := 1) hm rfl rfl rfl, rfl, trivial⟩ ⟨?_, hm.below⟩ | refine k_ret (vs := [_, _]) rfl h ⟨rv_cellA (i := 2) hm rfl rfl rfl, rfl, trivial⟩ ⟨?_, hm.below⟩ | refine k_ret (vs := [_, _]) rfl h ⟨rv_cellA (i := 3) hm rfl rfl rfl, rfl, trivial⟩ ⟨?_, hm.below⟩ | refine k_ret (vs := [_, _]) rfl h ⟨rv_cellA (i := 4) hm rfl rfl rfl, rfl, trivial⟩ ⟨?_, hm.below⟩ | refine k_ret (vs := [_, _]) rfl h ⟨rv_cellA (i := 5) hm rfl rfl rfl, rfl, trivial⟩ ⟨?_, hm.below⟩ | refine k_ret (vs := [_, _]) rfl h ⟨rv_cellA (i := 6) hm rfl rfl rfl, rfl, trivial⟩ ⟨?_, hm.below⟩ | refine k_ret (vs := [_, _]) rfl h ⟨rv_cellA (i := 7) hm rfl rfl rfl, rfl, trivial⟩ ⟨?_, hm.below⟩ | refine k_ret (vs := [_, _]) rfl h ⟨rv_cellA (i := 8) hm rfl rfl rfl, rfl, trivial⟩ ⟨?_, hm.below⟩ | refine k_ret (vs := [_, _]) rfl h ⟨rv_cellA (i := 9) hm rfl rfl rfl, rfl, trivial⟩ ⟨?_, hm.below⟩)
  all_goals rfl
theorem tab_ofP {W : World} (h : laidMetH Tryd.prog Rows.fnExactParseTextureRow.laid W) : TabH (fun b => W.heap[b]?) := by
  have h2 := laidMet.tail (laidMet.tail (show laidMet Tryd.prog Rows.fnExactParseTextureRow.laid W from h))
  have h3 := Lib.tabIs_of_head (k := .u64) (zs := Lib.pow10Tab) layI.m17 (t := 126) (by kernel_rfl) Tryd.underlying126 Tryd.underlying110 (by kernel_rfl) (by kernel_rfl) h2
  unfold Lib.TabIs World.var? at h3
  rw [layI.m17] at h3
  simp only [Option.bind_some] at h3
  split at h3
  · rename_i cs T fz hc
    cases h3
    exact ⟨T, fz, hc⟩
  · cases h3
theorem star_e : "*" ++ "errors.errorString" = "*errors.errorString" := by decide
theorem row_err (u : TypeId) (h : Tryd.prog.typeName? 3 u = some "*errors.errorString") : u = 131 :=
  typeName_ptr_named (nm := "errors.errorString") (by rw [star_e]; kernel_rfl) (by kernel_rfl) (by decide) u (by rw [star_e]; exact h)
theorem var_cells {P : Program} {W : World} {n : String} {g : Nat} {v : Value} (hg : P.globalNamed n = some g) (h : W.var? P n = some #[v]) : ∃ T fz, W.heap[g]? = some (.cells #[v] T fz) := by
  unfold World.var? at h
  rw [hg] at h
  simp only [Option.bind_some] at h
  split at h
  · rename_i cs T fz hc
    cases h
    exact ⟨T, fz, hc⟩
  · cases h
theorem err_ofP {W : World} (h : laidMetH Tryd.prog Rows.fnExactParseTextureRow.laid W) : ErrH (fun b => W.heap[b]?) := by
  have h3 := laidMet.tail (laidMet.tail (laidMet.tail (show laidMet Tryd.prog Rows.fnExactParseTextureRow.laid W from h)))
  have h4 := laidMet.tail h3
  obtain ⟨a1, s1, hv1, _⟩ := laid_sentinel h3 layA.m16 (ti := 66) (by kernel_rfl) Tryd.underlying66 row_err Tryd.underlying131 Tryd.underlying133 rfl rfl Tryd.underlying9 (by kernel_rfl) (by kernel_rfl)
  obtain ⟨a2, s2, hv2, _⟩ := laid_sentinel h4 layA.m15 (ti := 66) (by kernel_rfl) Tryd.underlying66 row_err Tryd.underlying131 Tryd.underlying133 rfl rfl Tryd.underlying9 (by kernel_rfl) (by kernel_rfl)
  obtain ⟨T1, z1, c1⟩ := var_cells layA.m16 hv1
  obtain ⟨T2, z2, c2⟩ := var_cells layA.m15 hv2
  exact ⟨⟨_, _, T2, z2, c2⟩, _, _, T1, z1, c1⟩
end Go.Proofs.YthilfmmoeigeoaaDoor.St
