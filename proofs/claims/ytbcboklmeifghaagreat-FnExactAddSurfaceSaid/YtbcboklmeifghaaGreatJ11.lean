/-
  The reference's AddSurface.
-/
import Derived.Test.YtbcboklmeifghaaGreatLAds
import Derived.Test.YtbcboklmeifghaaGreatLCpz

section
set_option linter.unusedSimpArgs false
set_option linter.unusedVariables false
namespace Go.Proofs.YtbcboklmeifghaaGreat.St
open Go.RowKit
set_option maxHeartbeats 16000000 in
theorem sAdd_ok (x : TScene) (S : TSurface) (hs : smSc x) (hb : ∀ z ∈ x.sh, bdP z) : FunG Tryz.prog 6 [.agg (eSc x).toArray, .agg (eSurface S).toArray] (fun H => SceneH H x) (fun v L' => ∃ g x', v = .tuple #[.agg (eSc x').toArray, .bool g] ∧ AddO (aSc x) S g x' ∧ L' = scnL x') := by
  obtain ⟨hs1, hs2, hs3, hs4⟩ := hs
  refine enterFunG Tryz.func6 rfl Tryz.ntmps6 rfl (fun W0 w a hp hm h => ?_)
  repeat' (first | refine c_seq ?_ | refine c_region ?_ | refine c_nil ?_ | refine k_then ?_ | (refine st_op (d := 2) rfl rfl h ?_; refine does_box hm rfl rfl ?_; clear h a hm; intro b_2 w hm a h; (try simp only [Value.cells, List.toList_toArray, splice, List.set_cons_zero, List.set_cons_succ, List.drop_zero, List.drop_succ_cons, List.take_succ_cons, List.take_zero, Nat.zero_add, Nat.reduceAdd, Nat.reduceMul, Int.reduceAdd, Int.reduceToNat, Int.reduceTMod, Nat.zero_mul, Nat.one_mul, Int.toNat_natCast] at h)) | (refine st_op (d := 3) rfl rfl h ?_; refine does_box hm rfl rfl ?_; clear h a hm; intro b_3 w hm a h; (try simp only [Value.cells, List.toList_toArray, splice, List.set_cons_zero, List.set_cons_succ, List.drop_zero, List.drop_succ_cons, List.take_succ_cons, List.take_zero, Nat.zero_add, Nat.reduceAdd, Nat.reduceMul, Int.reduceAdd, Int.reduceToNat, Int.reduceTMod, Nat.zero_mul, Nat.one_mul, Int.toNat_natCast] at h)) | (refine st_op (d := 4) rfl rfl h ?_; refine does_alloc hm ?_; clear h a hm; intro b_4 w hm a h; (try simp only [Value.cells, List.toList_toArray, splice, List.set_cons_zero, List.set_cons_succ, List.drop_zero, List.drop_succ_cons, List.take_succ_cons, List.take_zero, Nat.zero_add, Nat.reduceAdd, Nat.reduceMul, Int.reduceAdd, Int.reduceToNat, Int.reduceTMod, Nat.zero_mul, Nat.one_mul, Int.toNat_natCast] at h)) | ((refine st_op rfl rfl h ?_); clear h a; (first | (show Does _ (.assign _) _ _ _ _; refine does_assign rfl ?_) | (show Does _ (.load _ _) _ _ _ _; (refine does_loadOA 2 hm rfl rfl rfl ?_))); intro a h; (try simp only [Value.cells, List.toList_toArray, splice, List.set_cons_zero, List.set_cons_succ, List.drop_zero, List.drop_succ_cons, List.take_succ_cons, List.take_zero, Nat.zero_add, Nat.reduceAdd, Nat.reduceMul, Int.reduceAdd, Int.reduceToNat, Int.reduceTMod, Nat.zero_mul, Nat.one_mul, Int.toNat_natCast] at h)))
  refine st_op rfl rfl h ?_; clear h a; refine does_funG hm en22 rfl (l20Copy_ok x hs1 hs2 hs3 hs4) (hp.up hm) ?_; clear hm; rintro v L1 w ⟨y, rfl, hay, rfl⟩ hm a h
  replace hm := hm.perm List.perm_append_comm
  simp only [List.cons_append, List.nil_append] at hm
  have hsu : y.su = x.su := congrArg PScene.su hay
  have hfl := flat_len (enc := eSurface) (sz := 26) (fun _ => rfl) y.su
  have hyl : y.su.length ≤ 1048576 := by rw [hsu]; exact hs4
  have hap : (y.su.map eSurface).flatten ++ eSurface S = ((y.su ++ [S]).map eSurface).flatten := by simp
  generalize hG : (y.su.map eSurface).flatten ++ eSurface S = G at hap
  repeat' (first | refine c_seq ?_ | refine c_region ?_ | refine c_nil ?_ | refine k_then ?_ | (refine st_op (d := 6) rfl rfl h ?_; refine does_alloc hm ?_; clear h a hm; intro b_6 w hm a h; (try simp only [Value.cells, List.toList_toArray, splice, List.set_cons_zero, List.set_cons_succ, List.drop_zero, List.drop_succ_cons, List.take_succ_cons, List.take_zero, Nat.zero_add, Nat.reduceAdd, Nat.reduceMul, Int.reduceAdd, Int.reduceToNat, Int.reduceTMod, Nat.zero_mul, Nat.one_mul, Int.toNat_natCast] at h)) | ((first | refine st_op rfl rfl h ?_ | refine st_opn rfl h ?_); clear h a; (first | (show Does _ (.call _) _ _ _ _; ((refine does_appX 5 (n := y.su.length) (news := eSurface S) hm rfl rfl rfl (by omega) hfl rfl (.inr ⟨_, rfl, at_own (i := 0) (ds := eSurface S) hm rfl (fun j v hv => (congrArg (fun k => (eSurface S)[k]?) (Nat.zero_add j)).trans hv)⟩) (oneCells_mem rfl) (by omega) (by simp only [maxLen]; omega) ?_; clear hm; intro p8 c8 w hc8 hc9 hm; rw [hG] at hm; simp only [List.set_cons_zero, List.set_cons_succ] at hm))) | (show Does _ (.buildSlice _ _ _) _ _ _ _; (refine does_buildSlice hm rfl rfl rfl ?_; clear hm; intro b w hm; (try simp only [rep, List.replicate_succ, List.replicate_zero, List.flatten_cons, List.flatten_nil, List.cons_append, List.nil_append, Nat.zero_mul, Nat.one_mul, Nat.reduceMul, Value.cells, List.toList_toArray, List.set_cons_zero, List.set_cons_succ, splice, Nat.zero_add, Nat.reduceAdd, Nat.reduceMul, Int.reduceAdd, Int.reduceToNat, Nat.zero_mul, Nat.one_mul, Int.toNat_natCast] at hm))) | (show Does _ (.store _ _ _) _ _ _ _; (first | (refine does_storeO 0 hm rfl rfl rfl rfl rfl rfl rfl ?_; clear hm; intro w hm; (try simp only [Value.cells, List.toList_toArray, List.set_cons_zero, List.set_cons_succ, splice, Nat.zero_add, Nat.reduceAdd, Nat.reduceMul, Int.reduceAdd, Int.reduceToNat, Nat.zero_mul, Nat.one_mul, Int.toNat_natCast] at hm)) | (refine does_storeO 1 hm rfl rfl rfl rfl rfl rfl rfl ?_; clear hm; intro w hm; (try simp only [Value.cells, List.toList_toArray, List.set_cons_zero, List.set_cons_succ, splice, Nat.zero_add, Nat.reduceAdd, Nat.reduceMul, Int.reduceAdd, Int.reduceToNat, Nat.zero_mul, Nat.one_mul, Int.toNat_natCast] at hm)))) | (show Does _ (.fieldAddr _ _ _) _ _ _ _; (refine does_fieldAddrL rfl ?_)) | (show Does _ (.load _ _) _ _ _ _; (first | refine does_loadO 0 hm rfl rfl rfl ?_ | refine does_loadOA 1 hm rfl rfl rfl ?_ | refine does_loadOA 2 hm rfl rfl rfl ?_))); intro a h; (try simp only [Value.cells, List.toList_toArray, splice, List.set_cons_zero, List.set_cons_succ, List.drop_zero, List.drop_succ_cons, List.take_succ_cons, List.take_zero, Nat.zero_add, Nat.reduceAdd, Nat.reduceMul, Int.reduceAdd, Int.reduceToNat, Int.reduceTMod, Nat.zero_mul, Nat.one_mul, Int.toNat_natCast] at h)))
  have hay2 : aSc { y with su := y.su ++ [S], up := p8, uc := c8 } = adS (aSc x) S := by rw [← hay]
  obtain ⟨y2, hy2⟩ : ∃ y2 : TScene, y2 = { y with su := y.su ++ [S], up := p8, uc := c8 } := ⟨_, rfl⟩
  rw [← hy2] at hay2
  have e : (y.su ++ [S]).length = y.su.length + 1 := by simp
  have hm' := hm
  rw [hap, ← e] at hm'
  replace hm : Mem W0 [] (fun b => W0.heap[b]?) (.blk b (.cells (eSurface S).toArray 53) :: .blk b_6 (.cells (eSc y2).toArray 44) :: .blk b_4 (.cells (eSc zeroSc).toArray 44) :: .blk b_3 (.cells (eSurface S).toArray 53) :: .blk b_2 (.cells (eSc x).toArray 44) :: scnL y2) w := by rw [hy2]; exact hm'
  clear hm'
  obtain ⟨k1, k2, k3, k4⟩ := smSc_of hay ⟨hs1, hs2, hs3, hs4⟩
  have k5 : ∀ z ∈ y.sh, bdP z := bdS_of hay hb
  have hIV := sIsValidSceneD_ok y2 (by rw [hy2]; exact k1) (by rw [hy2]; exact k2) (by rw [hy2]; exact k3) (by rw [hy2]; show (y.su ++ [S]).length ≤ 1048577; omega) (by rw [hy2]; exact k5)
  rw [hay2] at hIV
  replace h : Holds [(15, .agg (eSc y2).toArray), (6, .pointer (some ⟨b_6, 0, none⟩)), (4, .pointer (some ⟨b_4, 0, none⟩)), (3, .pointer (some ⟨b_3, 0, none⟩)), (2, .pointer (some ⟨b_2, 0, none⟩))] 20 a := by
    have h' := h
    rw [← e] at h'
    rw [hy2]
    exact h'.keep ⟨rfl, rfl, rfl, rfl, rfl, trivial⟩
  generalize hT2 : scnL y2 = T2 at hm
  by_cases hV : vScene (adS (aSc x) S)
  · repeat' (first | refine c_seq ?_ | refine c_region ?_ | refine c_nil ?_ | refine k_then ?_ | refine c_skip ?_ | refine c_ret ?_ | refine c_condF h rfl ?_ | ((first | refine st_op rfl rfl h ?_ | refine st_opn rfl h ?_); clear h a; (first | (show Does _ (.call _) _ _ _ _; ((refine does_funP hm en23 rfl (hIV.yes hV) (own_sceneS hm (by rw [hT2]; exact (((((List.Sublist.refl _).cons _).cons _).cons _).cons _).cons _)) ?_; clear hm; intro w hm))) | (show Does _ (.store _ _ _) _ _ _ _; ((refine does_storeO 2 hm rfl rfl rfl rfl rfl rfl rfl ?_; clear hm; intro w hm; (try simp only [Value.cells, List.toList_toArray, List.set_cons_zero, List.set_cons_succ, splice, Nat.zero_add, Nat.reduceAdd, Nat.reduceMul, Int.reduceAdd, Int.reduceToNat, Nat.zero_mul, Nat.one_mul, Int.toNat_natCast] at hm)))) | (show Does _ (.assign _) _ _ _ _; refine does_assign rfl ?_) | (show Does _ (.load _ _) _ _ _ _; (refine does_loadOA 1 hm rfl rfl rfl ?_)) | (show Does _ (.unOp _ _ _) _ _ _ _; (refine does_not rfl ?_))); intro a h; (try simp only [Value.cells, List.toList_toArray, splice, List.set_cons_zero, List.set_cons_succ, List.drop_zero, List.drop_succ_cons, List.take_succ_cons, List.take_zero, Nat.zero_add, Nat.reduceAdd, Nat.reduceMul, Int.reduceAdd, Int.reduceToNat, Int.reduceTMod, Nat.zero_mul, Nat.one_mul, Int.toNat_natCast] at h)))
    exact k_ret (vs := [_, _]) rfl h ⟨rv_cellA (i := 2) hm rfl rfl rfl, rfl, trivial⟩ ⟨scnL y2, ⟨true, y2, rfl, ⟨.inl ⟨rfl, hV, hay2⟩⟩, rfl⟩, by rw [hT2]; exact hm.sub (((((((List.Sublist.refl _).cons _).cons _).cons _).cons _)).cons _)⟩
  · repeat' (first | refine c_seq ?_ | refine c_region ?_ | refine c_nil ?_ | refine k_then ?_ | refine k_thenR ?_ | refine c_ret ?_ | refine c_condT h rfl ?_ | ((first | refine st_op rfl rfl h ?_ | refine st_opn rfl h ?_); clear h a; (first | (show Does _ (.call _) _ _ _ _; ((refine does_funP hm en23 rfl (hIV.no hV) (own_sceneS hm (by rw [hT2]; exact (((((List.Sublist.refl _).cons _).cons _).cons _).cons _).cons _)) ?_; clear hm; intro w hm))) | (show Does _ (.store _ _ _) _ _ _ _; ((refine does_storeO 2 hm rfl rfl rfl rfl rfl rfl rfl ?_; clear hm; intro w hm; (try simp only [Value.cells, List.toList_toArray, List.set_cons_zero, List.set_cons_succ, splice, Nat.zero_add, Nat.reduceAdd, Nat.reduceMul, Int.reduceAdd, Int.reduceToNat, Nat.zero_mul, Nat.one_mul, Int.toNat_natCast] at hm)))) | (show Does _ (.assign _) _ _ _ _; refine does_assign rfl ?_) | (show Does _ (.unOp _ _ _) _ _ _ _; (refine does_not rfl ?_)) | (show Does _ (.build _ _) _ _ _ _; refine does_build rfl rfl ?_)); intro a h; (try simp only [Value.cells, List.toList_toArray, splice, List.set_cons_zero, List.set_cons_succ, List.drop_zero, List.drop_succ_cons, List.take_succ_cons, List.take_zero, Nat.zero_add, Nat.reduceAdd, Nat.reduceMul, Int.reduceAdd, Int.reduceToNat, Int.reduceTMod, Nat.zero_mul, Nat.one_mul, Int.toNat_natCast] at h)))
    exact k_ret (vs := [_, _]) rfl h ⟨rv_cellA (i := 2) hm rfl rfl rfl, rfl, trivial⟩ ⟨_, ⟨false, zeroSc, rfl, ⟨.inr ⟨rfl, hV, rfl⟩⟩, rfl⟩, (((hm.sub (List.nil_sublist _)).addNil 3 1).addNil 102 2).addNil 53 26⟩
end Go.Proofs.YtbcboklmeifghaaGreat.St
end

section
/-
  Scenes that are only read from now on; what both sides' AddSurface share.
-/
set_option linter.unusedSimpArgs false
set_option linter.unusedVariables false
namespace Go.Proofs.YtbcboklmeifghaaGreat.St
open Go.RowKit
section
variable {w W0 : World} {X : List Nat} {L : List Own}
def RowIn (B : Heap) (v : Value) (sz : Nat) (cs : List Value) : Prop := ∃ p n cap, v = .slice p n cap ∧ cs.length = n * sz ∧ n ≤ cap ∧ cap ≤ maxLen ∧ (0 < n → ∃ b, p = some ⟨b, 0, none⟩ ∧ At B ⟨b, 0, none⟩ cs)
theorem RowIn.mono {B B' : Heap} {v : Value} {sz : Nat} {cs : List Value} (h : RowIn B v sz cs) (hB : Heap.le B B') : RowIn B' v sz cs := by
  obtain ⟨p, n, cap, h1, h2, h3, h4, h5⟩ := h
  refine ⟨p, n, cap, h1, h2, h3, h4, fun hn => ?_⟩
  obtain ⟨b, hb, hat⟩ := h5 hn
  exact ⟨b, hb, hat.mono hB⟩
theorem RowIn.sl {α : Type} {B : Heap} {enc : α → List Value} {sz n cap : Nat} {xs : List α} {p : Option Addr} (h : RowIn B (.slice p n cap) sz (xs.map enc).flatten) (hf : ∀ x, (enc x).length = sz) (hsz : 0 < sz) : Sl B p enc sz xs := by
  obtain ⟨p', n', cap', h3, h4, h5, h6, h7⟩ := h
  cases h3
  rw [flat_len hf] at h4
  have hn : n = xs.length := (Nat.eq_of_mul_eq_mul_right hsz h4).symm
  subst hn
  exact sl_of_flat hf rfl fun h0 => h7 h0
theorem Mem.freezeRows : ∀ {R : List Own} {B : Heap}, (∀ o ∈ R, ∃ v T sz cs, o = .row v T sz cs) → Mem W0 X B (R ++ L) w → ∃ B', Heap.le B B' ∧ Mem W0 X B' L w ∧ ∀ v T sz cs, Own.row v T sz cs ∈ R → RowIn B' v sz cs
  | [], B, _, hm => ⟨B, fun _ _ h => h, hm, fun v T sz cs h => by cases h⟩
  | o :: R, B, hR, hm => by
    obtain ⟨v, T, sz, cs, rfl⟩ := hR _ (List.mem_cons_self ..)
    obtain ⟨B1, p, n, cap, hle, hm1, h1⟩ := Mem.freeze (L := R ++ L) hm
    obtain ⟨B2, hle2, hm2, h2⟩ := Mem.freezeRows (fun o ho => hR o (List.mem_cons_of_mem _ ho)) hm1
    refine ⟨B2, fun b o h => hle2 b o (hle b o h), hm2, fun v' T' sz' cs' h => ?_⟩
    rcases List.mem_cons.1 h with h | h
    · cases h
      exact RowIn.mono ⟨p, n, cap, h1⟩ hle2
    · exact h2 _ _ _ _ h
theorem progL_rows {p q : Option Addr} {c d : Nat} {xs : List TNode} {ys : List TAssignment} : ∀ o ∈ progL p c q d xs ys, ∃ v T sz cs, o = .row v T sz cs := by
  intro o ho
  simp only [progL, nodesL, List.mem_cons, List.mem_map] at ho
  rcases ho with rfl | rfl | ⟨x, _, rfl⟩
  · exact ⟨_, _, _, _, rfl⟩
  · exact ⟨_, _, _, _, rfl⟩
  · exact ⟨_, _, _, _, rfl⟩
theorem scnL_rows {x : TScene} : ∀ o ∈ scnL x, ∃ v T sz cs, o = .row v T sz cs := by
  intro o ho
  simp only [scnL, progsL, List.mem_cons, List.mem_append, List.mem_flatten, List.mem_map, List.not_mem_nil, or_false] at ho
  rcases ho with rfl | (rfl | ⟨l, ⟨y, _, rfl⟩, hl⟩) | rfl
  · exact ⟨_, _, _, _, rfl⟩
  · exact ⟨_, _, _, _, rfl⟩
  · exact progL_rows o hl
  · exact ⟨_, _, _, _, rfl⟩
theorem Mem.freezeScene {B : Heap} {x : TScene} (hm : Mem W0 X B (L ++ scnL x) w) : ∃ B', Heap.le B B' ∧ Mem W0 X B' L w ∧ SceneH B' x := by
  obtain ⟨B', hle, hm', hr⟩ := Mem.freezeRows scnL_rows (hm.perm List.perm_append_comm)
  have hprog : ∀ y ∈ x.sh, ∀ o ∈ progLT y, o ∈ scnL x := fun y hy o ho => List.mem_cons_of_mem _ (List.mem_append_left _ (List.mem_cons_of_mem _ (List.mem_flatten.2 ⟨_, List.mem_map_of_mem hy, ho⟩)))
  refine ⟨B', hle, hm', (hr _ _ _ _ (List.mem_cons_of_mem _ (List.mem_append_right _ (List.mem_singleton.2 rfl)))).sl (fun _ => rfl) (by omega), ⟨(hr _ _ _ _ (List.mem_cons_of_mem _ (List.mem_append_left _ (List.mem_cons_self ..)))).sl (fun _ => rfl) (by omega), fun y hy => ?_⟩, (hr _ _ _ _ (List.mem_cons_self ..)).sl (fun _ => rfl) (by omega)⟩
  have hy' := hprog y hy
  exact ⟨⟨(hr _ _ _ _ (hy' _ (List.mem_cons_of_mem _ (List.mem_cons_self ..)))).sl (fun _ => rfl) (by omega), fun z hz => (hr _ _ _ _ (hy' _ (List.mem_cons_of_mem _ (List.mem_cons_of_mem _ (List.mem_map_of_mem hz))))).sl (fun _ => rfl) (by omega)⟩, (hr _ _ _ _ (hy' _ (List.mem_cons_self ..))).sl (fun _ => rfl) (by omega)⟩
end
/-- a scene's own rows, as one thing -/
def sceneL (x : TScene) : List Own := scnL x
theorem own_sceneR {w W0 : World} {X : List Nat} {B : Heap} {L : List Own} {x : TScene} (hm : Mem W0 X B L w) (h : List.Sublist (sceneL x) L) : SceneH (fun b => w.heap[b]?) x := own_sceneS hm h
theorem toSceneR_ok (x : TScene) (hs : smSc x) : FunG Tryz.prog 7 [.agg (eSc x).toArray] (fun H => SceneH H x) (fun v L' => ∃ x', v = .agg (eSc x').toArray ∧ aSc x' = aSc x ∧ L' = sceneL x') := toSceneG_ok x hs
theorem iAddR_ok (x : TScene) (S : TSurface) (hs : smSc x) : FunG Tryz.prog 9 [.agg (eSc x).toArray, .agg (eSurface S).toArray] (fun H => SceneH H x) (fun v L' => ∃ g x', v = .tuple #[.agg (eSc x').toArray, .bool g] ∧ AddO (aSc x) S g x' ∧ L' = sceneL x') := iAdd_ok x S hs
theorem sAddR_ok (x : TScene) (S : TSurface) (hs : smSc x) (hb : ∀ z ∈ x.sh, bdP z) : FunG Tryz.prog 6 [.agg (eSc x).toArray, .agg (eSurface S).toArray] (fun H => SceneH H x) (fun v L' => ∃ g x', v = .tuple #[.agg (eSc x').toArray, .bool g] ∧ AddO (aSc x) S g x' ∧ L' = sceneL x') := sAdd_ok x S hs hb
theorem markSceneR_ok (x : TScene) (hs : smSc x) : FunL Tryz.prog 11 [.agg (eSc x).toArray, I 1] (sceneL x) (fun _ => True) (fun v L' => v = I (enSc 1 x) ∧ L' = sceneL (mkSc 1 x)) := markScene_E x 1 (by omega) hs.tex hs.progs hs.each (Nat.le_succ_of_le hs.surf)
theorem addO_eq {s : PScene} {S : TSurface} {g g' : Bool} {x x' : TScene} (h : AddO s S g x) (h' : AddO s S g' x') : g = g' ∧ aSc x = aSc x' := by
  rcases h.out with ⟨rfl, hv, ha⟩ | ⟨rfl, hv, rfl⟩ <;> rcases h'.out with ⟨rfl, hv', ha'⟩ | ⟨rfl, hv', rfl⟩
  · exact ⟨rfl, ha.trans ha'.symm⟩
  · exact absurd hv hv'
  · exact absurd hv' hv
  · exact ⟨rfl, rfl⟩
theorem addO_sm {y x : TScene} {S : TSurface} {g : Bool} (hs : smSc y) (h : AddO (aSc y) S g x) : smSc x := by
  obtain ⟨k1, k2, k3, k4⟩ := hs
  rcases h.out with ⟨_, hv, ha⟩ | ⟨_, _, rfl⟩
  · have hn := hv.nsu
    exact smSc_of (y := { y with su := y.su ++ [S] }) ha ⟨k1, k2, k3, by show (y.su ++ [S]).length ≤ 1048576; have : ((y.su ++ [S]).length : Int) ≤ 5 := hn; omega⟩
  · exact ⟨by simp, by simp, by simp, by simp⟩
end Go.Proofs.YtbcboklmeifghaaGreat.St
end
