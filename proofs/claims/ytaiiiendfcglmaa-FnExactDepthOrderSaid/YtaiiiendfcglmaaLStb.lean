/-
  A row of ints sorted by the library's stable sort.
-/
import Derived.Test.YtaiiiendfcglmaaLSyr
set_option linter.unusedSimpArgs false
set_option linter.unusedVariables false
namespace Go.Proofs.Ytaiiiendfcglmaa.St
open Go.RowKit
/-- sorted blocks of one length -/
def Blks (nr : Int → Int) (bs : Nat) (l : List (List Int)) : Prop := ∀ d ∈ l, d.length = bs ∧ So nr d
theorem blks_snoc {nr : Int → Int} {bs : Nat} {l : List (List Int)} {d : List Int} (h : Blks nr bs l) (hd : d.length = bs ∧ So nr d) : Blks nr bs (l ++ [d]) := fun x hx => by
  rcases List.mem_append.1 hx with hx | hx
  · exact h x hx
  · rw [List.mem_singleton.1 hx]
    exact hd
theorem flat_snoc {l : List (List Int)} {d : List Int} : (l ++ [d]).flatten = l.flatten ++ d := by simp
set_option maxHeartbeats 8000000 in
theorem stable_ok (q : Addr) (D : Int → Prop) (nr : Int → Int) (pre : Heap → Prop) (hC : CmpK q D nr pre) (b : Nat) (sp : List Value) (len cap : Nat) (xs : List Int) (n0 : Int) (hn : n0 = (len : Nat)) (hl : xs.length = len) (hN : len ≤ 1048576) (hD : ∀ x ∈ xs, D x) :
    FunL Try.prog 43 [.slice (some ⟨b, 0, none⟩) len cap, .int .i64 n0, cmpV q] [dBlk b xs sp] pre (fun _ L' => ∃ C, (C.Perm xs ∧ So nr C) ∧ L' = [dBlk b C sp]) := by
  refine enterFunL Try.func43 rfl Try.ntmps43 rfl (fun W0 X0 B L w a hp hm h => ?_)
  simp only [List.cons_append, List.nil_append] at hm
  repeat' (first | refine c_seq ?_ | refine c_region ?_ | refine c_nil ?_ | refine k_then ?_ | refine c_block ?_ | ((refine st_op rfl rfl h ?_); clear h a; (first | (show Does _ (.move _) _ _ _ _; refine does_move rfl ?_) | (show Does _ (.assign _) _ _ _ _; refine does_assign rfl ?_)); intro a h; (try simp only [Value.cells, List.toList_toArray, splice, List.set_cons_zero, List.set_cons_succ, List.drop_zero, List.drop_succ_cons, List.take_succ_cons, List.take_zero, Nat.zero_add, Nat.reduceAdd, Nat.reduceMul, Int.reduceAdd, Int.reduceToNat, Int.reduceTMod, Nat.zero_mul, Nat.one_mul, Int.toNat_natCast] at h)))
  refine c_loop (σ := List (List Int) × List Int) (fun s a w => (Blks nr 20 s.1 ∧ (s.1.flatten ++ s.2).Perm xs) ∧ Mem W0 X0 B (dBlk b (s.1.flatten ++ s.2) sp :: L) w ∧
    Holds [(0, .slice (some ⟨b, 0, none⟩) len cap), (1, .int .i64 n0), (2, cmpV q), (6, .int .i64 20), (7, .int .i64 (s.1.flatten.length : Nat)), (8, .int .i64 ((s.1.flatten.length + 20 : Nat) : Int))] _ a) (fun s => s.2.length) ([], xs)
    ⟨⟨fun d hd => absurd hd (by simp), by simp⟩, by simpa using hm, h.keep ⟨rfl, rfl, rfl, rfl, rfl, rfl, trivial⟩⟩ ?_
  clear h hm
  rintro ⟨E, R⟩ a w ⟨⟨hE, hpm⟩, hm, h⟩
  simp only at hE hpm hm h
  have hpl := hpm.length_eq
  rw [List.length_append] at hpl
  have hDR : ∀ x ∈ R, D x := fun x hx => hD x (hpm.mem_iff.1 (List.mem_append_right _ hx))
  by_cases h20 : E.flatten.length + 20 ≤ len
  · have l1 : (R.take 20).length = 20 := by rw [List.length_take]; omega
    have l2 : (R.drop 20).length = R.length - 20 := List.length_drop ..
    have eR := List.take_append_drop 20 R
    have dR : ∀ x ∈ R.take 20, D x := fun x hx => hDR x (List.mem_of_mem_take hx)
    generalize R.take 20 = R1 at l1 eR dR
    generalize R.drop 20 = R2 at l2 eR
    subst eR
    rw [← List.append_assoc] at hm
    repeat' (first | refine c_seq ?_ | refine c_region ?_ | refine c_nil ?_ | refine k_then ?_ | refine k_inN ?_ | refine c_skip ?_ | refine c_block ?_ | refine c_condT h rfl ?_ | ((refine st_op rfl rfl h ?_); clear h a; (first | (show Does _ (.call _) _ _ _ _; ((refine does_funL (L0 := [_]) hm en56 rfl (insertionSort_ok q D nr pre hC b E.flatten R1 R2 sp len cap _ _ (by omega) (by omega) (by omega) hN dR) hp ?_; clear hm; rintro _ _ w ⟨C, ⟨hC1, hC2⟩, rfl⟩ hm; simp only [List.cons_append, List.nil_append] at hm))) | (show Does _ (.move _) _ _ _ _; refine does_move rfl ?_) | (show Does _ (.assign _) _ _ _ _; refine does_assign rfl ?_) | (show Does _ (.binOp _ _ _ _ _) _ _ _ _; (first | refine does_leqT rfl rfl (by omega) ?_ | refine does_add rfl rfl (by omega) ?_))); intro a h; (try simp only [Value.cells, List.toList_toArray, splice, List.set_cons_zero, List.set_cons_succ, List.drop_zero, List.drop_succ_cons, List.take_succ_cons, List.take_zero, Nat.zero_add, Nat.reduceAdd, Nat.reduceMul, Int.reduceAdd, Int.reduceToNat, Int.reduceTMod, Nat.zero_mul, Nat.one_mul, Int.toNat_natCast] at h)))
    have lC := hC1.length_eq
    have e1 : ((E.flatten.length + 20 : Nat) : Int) = (((E ++ [C]).flatten.length : Nat) : Int) := by rw [flat_snoc, List.length_append]; omega
    have e2 : ((E.flatten.length + 20 : Nat) : Int) + 20 = (((E ++ [C]).flatten.length + 20 : Nat) : Int) := by rw [flat_snoc, List.length_append]; omega
    rw [e2, e1] at h
    refine k_thenN ⟨(E ++ [C], R2), ⟨⟨blks_snoc hE ⟨by omega, hC2⟩, ?_⟩, by rw [flat_snoc]; exact hm, h.keep ⟨rfl, rfl, rfl, rfl, rfl, rfl, trivial⟩⟩, by show R2.length < (R1 ++ R2).length; rw [List.length_append]; omega⟩
    rw [flat_snoc]
    refine List.Perm.trans ?_ hpm
    rw [List.append_assoc]
    exact List.Perm.append_left _ (List.Perm.append_right _ hC1)
  · rw [show E.flatten ++ R = E.flatten ++ R ++ [] by simp] at hm
    repeat' (first | refine c_seq ?_ | refine c_region ?_ | refine c_nil ?_ | refine k_then ?_ | refine k_thenE ?_ | refine k_inE ?_ | refine c_exit ?_ | refine c_block ?_ | refine c_condF h rfl ?_ | ((refine st_op rfl rfl h ?_); clear h a; (first | (show Does _ (.call _) _ _ _ _; ((refine does_funL (L0 := [_]) hm en56 rfl (insertionSort_ok q D nr pre hC b E.flatten R [] sp len cap _ _ (by omega) (by omega) (by simp only [List.length_nil]; omega) hN hDR) hp ?_; clear hm; rintro _ _ w ⟨C, ⟨hC1, hC2⟩, rfl⟩ hm; simp only [List.cons_append, List.nil_append] at hm))) | (show Does _ (.move _) _ _ _ _; refine does_move rfl ?_) | (show Does _ (.binOp _ _ _ _ _) _ _ _ _; (refine does_leqF rfl rfl (by omega) ?_))); intro a h; (try simp only [Value.cells, List.toList_toArray, splice, List.set_cons_zero, List.set_cons_succ, List.drop_zero, List.drop_succ_cons, List.take_succ_cons, List.take_zero, Nat.zero_add, Nat.reduceAdd, Nat.reduceMul, Int.reduceAdd, Int.reduceToNat, Int.reduceTMod, Nat.zero_mul, Nat.one_mul, Int.toNat_natCast] at h)))
    have lC := hC1.length_eq
    rw [List.append_nil] at hm
    have hpm2 : (E.flatten ++ C).Perm xs := (List.Perm.append_left _ hC1).trans hpm
    refine c_loop (σ := Nat × List (List Int) × List Int) (fun s a w => ((20 ≤ s.1 ∧ s.1 ≤ 4194304) ∧ (Blks nr s.1 s.2.1 ∧ s.2.2.length < s.1 ∧ So nr s.2.2) ∧ (s.2.1.flatten ++ s.2.2).Perm xs) ∧ Mem W0 X0 B (dBlk b (s.2.1.flatten ++ s.2.2) sp :: L) w ∧
      Holds [(0, .slice (some ⟨b, 0, none⟩) len cap), (1, .int .i64 n0), (2, cmpV q), (6, .int .i64 (s.1 : Nat))] _ a) (fun s => len - s.1) (20, E, C)
      ⟨⟨⟨Nat.le_refl _, by show 20 ≤ 4194304; decide⟩, ⟨hE, by show C.length < 20; omega, hC2⟩, hpm2⟩, hm, h.keep ⟨rfl, rfl, rfl, rfl, trivial⟩⟩ ?_
    clear h hm hpm2 hpm hDR hpl lC hC1 hC2 hE h20
    rintro ⟨bs, E, T⟩ a w ⟨⟨⟨hb1, hb2⟩, ⟨hE, hT1, hT2⟩, hpm⟩, hm, h⟩
    simp only at hb1 hb2 hE hT1 hT2 hpm hm h
    have hpl := hpm.length_eq
    rw [List.length_append] at hpl
    by_cases hbs : bs < len
    · repeat' (first | refine c_seq ?_ | refine c_region ?_ | refine c_nil ?_ | refine k_then ?_ | refine c_skip ?_ | refine c_block ?_ | refine c_condT h rfl ?_ | ((refine st_op rfl rfl h ?_); clear h a; (first | (show Does _ (.move _) _ _ _ _; refine does_move rfl ?_) | (show Does _ (.assign _) _ _ _ _; refine does_assign rfl ?_) | (show Does _ (.binOp _ _ _ _ _) _ _ _ _; (first | refine does_lssT rfl rfl (by omega) ?_ | refine does_mul rfl rfl (mul_in (by omega) (by omega)) ?_))); intro a h; (try simp only [Value.cells, List.toList_toArray, splice, List.set_cons_zero, List.set_cons_succ, List.drop_zero, List.drop_succ_cons, List.take_succ_cons, List.take_zero, Nat.zero_add, Nat.reduceAdd, Nat.reduceMul, Int.reduceAdd, Int.reduceToNat, Int.reduceTMod, Nat.zero_mul, Nat.one_mul, Int.toNat_natCast] at h)))
      refine c_loop (σ := List (List Int) × List (List Int)) (fun s a w => ((Blks nr (2 * bs) s.1 ∧ Blks nr bs s.2) ∧ (s.1.flatten ++ s.2.flatten ++ T).Perm xs) ∧ Mem W0 X0 B (dBlk b (s.1.flatten ++ s.2.flatten ++ T) sp :: L) w ∧
        Holds [(0, .slice (some ⟨b, 0, none⟩) len cap), (1, .int .i64 n0), (2, cmpV q), (6, .int .i64 (bs : Nat)), (7, .int .i64 (s.1.flatten.length : Nat)), (8, .int .i64 ((s.1.flatten.length + 2 * bs : Nat) : Int))] _ a) (fun s => s.2.length) ([], E)
        ⟨⟨⟨fun d hd => absurd hd (by simp), hE⟩, by simpa using hpm⟩, by simpa using hm, by
          have e1 : (2 : Int) * (bs : Int) = ((([] : List (List Int)).flatten.length + 2 * bs : Nat) : Int) := by simp
          rw [e1] at h
          exact h.keep ⟨rfl, rfl, rfl, rfl, rfl, rfl, trivial⟩⟩ ?_
      clear h hm hpm hpl hE
      rintro ⟨E, G⟩ a w ⟨⟨⟨hE, hG⟩, hpm⟩, hm, h⟩
      simp only at hE hG hpm hm h
      have hpl := hpm.length_eq
      simp only [List.length_append] at hpl
      have hDx : ∀ d ∈ G, ∀ x ∈ d, D x := fun d hd x hx => hD x (hpm.mem_iff.1 (List.mem_append_left _ (List.mem_append_right _ (List.mem_flatten.2 ⟨d, hd, hx⟩))))
      have hDT : ∀ x ∈ T, D x := fun x hx => hD x (hpm.mem_iff.1 (List.mem_append_right _ hx))
      cases G with
      | nil =>
        simp only [List.flatten_nil, List.length_nil, List.append_nil] at hpl hm hpm
        repeat' (first | refine c_seq ?_ | refine c_region ?_ | refine c_nil ?_ | refine k_then ?_ | refine k_thenE ?_ | refine k_inN ?_ | refine k_inE ?_ | refine c_skip ?_ | refine c_exit ?_ | refine c_condF h rfl ?_ | ((refine st_op rfl rfl h ?_); clear h a; (first | (show Does _ (.move _) _ _ _ _; refine does_move rfl ?_) | (show Does _ (.assign _) _ _ _ _; refine does_assign rfl ?_) | (show Does _ (.binOp _ _ _ _ _) _ _ _ _; (first | refine does_lssF rfl rfl (by omega) ?_ | refine does_leqF rfl rfl (by omega) ?_ | refine does_mul rfl rfl (mul_in (by omega) (by omega)) ?_ | refine does_add rfl rfl (by omega) ?_))); intro a h; (try simp only [Value.cells, List.toList_toArray, splice, List.set_cons_zero, List.set_cons_succ, List.drop_zero, List.drop_succ_cons, List.take_succ_cons, List.take_zero, Nat.zero_add, Nat.reduceAdd, Nat.reduceMul, Int.reduceAdd, Int.reduceToNat, Int.reduceTMod, Nat.zero_mul, Nat.one_mul, Int.toNat_natCast] at h)))
        have e1 : (bs : Int) * 2 = ((2 * bs : Nat) : Int) := by omega
        rw [e1] at h
        exact k_thenN ⟨(2 * bs, E, T), ⟨⟨⟨by show 20 ≤ 2 * bs; omega, by show 2 * bs ≤ 4194304; omega⟩, ⟨hE, by show T.length < 2 * bs; omega, hT2⟩, hpm⟩, hm, h.keep ⟨rfl, rfl, rfl, rfl, trivial⟩⟩, by show len - 2 * bs < len - bs; omega⟩
      | cons d G =>
        have hd := hG d (List.mem_cons_self ..)
        have hDd := hDx d (List.mem_cons_self ..)
        cases G with
        | nil =>
          simp only [List.flatten_cons, List.flatten_nil, List.append_nil] at hpl hm hpm
          by_cases hT0 : T.length = 0
          · obtain rfl := List.eq_nil_of_length_eq_zero hT0
            rw [List.append_nil] at hm hpm
            repeat' (first | refine c_seq ?_ | refine c_region ?_ | refine c_nil ?_ | refine k_then ?_ | refine k_thenE ?_ | refine k_inN ?_ | refine k_inE ?_ | refine c_skip ?_ | refine c_exit ?_ | refine c_condF h rfl ?_ | ((refine st_op rfl rfl h ?_); clear h a; (first | (show Does _ (.move _) _ _ _ _; refine does_move rfl ?_) | (show Does _ (.assign _) _ _ _ _; refine does_assign rfl ?_) | (show Does _ (.binOp _ _ _ _ _) _ _ _ _; (first | refine does_lssF rfl rfl (by omega) ?_ | refine does_leqF rfl rfl (by omega) ?_ | refine does_mul rfl rfl (mul_in (by omega) (by omega)) ?_ | refine does_add rfl rfl (by omega) ?_))); intro a h; (try simp only [Value.cells, List.toList_toArray, splice, List.set_cons_zero, List.set_cons_succ, List.drop_zero, List.drop_succ_cons, List.take_succ_cons, List.take_zero, Nat.zero_add, Nat.reduceAdd, Nat.reduceMul, Int.reduceAdd, Int.reduceToNat, Int.reduceTMod, Nat.zero_mul, Nat.one_mul, Int.toNat_natCast] at h)))
            have e1 : (bs : Int) * 2 = ((2 * bs : Nat) : Int) := by omega
            rw [e1] at h
            exact k_thenN ⟨(2 * bs, E, d), ⟨⟨⟨by show 20 ≤ 2 * bs; omega, by show 2 * bs ≤ 4194304; omega⟩, ⟨hE, by show d.length < 2 * bs; omega, hd.2⟩, hpm⟩, hm, h.keep ⟨rfl, rfl, rfl, rfl, trivial⟩⟩, by show len - 2 * bs < len - bs; omega⟩
          · rw [show E.flatten ++ d ++ T = E.flatten ++ d ++ T ++ [] by simp] at hm
            repeat' (first | refine c_seq ?_ | refine c_region ?_ | refine c_nil ?_ | refine k_then ?_ | refine k_thenE ?_ | refine k_inN ?_ | refine k_inE ?_ | refine c_exit ?_ | refine c_condT h rfl ?_ | refine c_condF h rfl ?_ | ((refine st_op rfl rfl h ?_); clear h a; (first | (show Does _ (.call _) _ _ _ _; ((refine does_funL (L0 := [_]) hm en57 rfl (symMerge_ok q D nr pre hC b sp len cap hN _ E.flatten d T [] _ _ _ (Nat.le_refl _) (by omega) (by omega) (by omega) (by simp only [List.length_nil]; omega) (by omega) (by omega) hd.2 hT2 hDd hDT) hp ?_; clear hm; rintro _ _ w ⟨C, ⟨hC1, hC2⟩, rfl⟩ hm; simp only [List.cons_append, List.nil_append] at hm))) | (show Does _ (.move _) _ _ _ _; refine does_move rfl ?_) | (show Does _ (.assign _) _ _ _ _; refine does_assign rfl ?_) | (show Does _ (.binOp _ _ _ _ _) _ _ _ _; (first | refine does_lssT rfl rfl (by omega) ?_ | refine does_leqF rfl rfl (by omega) ?_ | refine does_mul rfl rfl (mul_in (by omega) (by omega)) ?_ | refine does_add rfl rfl (by omega) ?_))); intro a h; (try simp only [Value.cells, List.toList_toArray, splice, List.set_cons_zero, List.set_cons_succ, List.drop_zero, List.drop_succ_cons, List.take_succ_cons, List.take_zero, Nat.zero_add, Nat.reduceAdd, Nat.reduceMul, Int.reduceAdd, Int.reduceToNat, Int.reduceTMod, Nat.zero_mul, Nat.one_mul, Int.toNat_natCast] at h)))
            have lC := hC1.length_eq
            rw [List.length_append] at lC
            rw [List.append_nil] at hm
            have e1 : (bs : Int) * 2 = ((2 * bs : Nat) : Int) := by omega
            rw [e1] at h
            exact k_thenN ⟨(2 * bs, E, C), ⟨⟨⟨by show 20 ≤ 2 * bs; omega, by show 2 * bs ≤ 4194304; omega⟩, ⟨hE, by show C.length < 2 * bs; omega, hC2⟩, (List.Perm.append_left _ hC1).trans (by rw [← List.append_assoc]; exact hpm)⟩, hm, h.keep ⟨rfl, rfl, rfl, rfl, trivial⟩⟩, by show len - 2 * bs < len - bs; omega⟩
        | cons d2 G =>
          have hd2 := hG d2 (List.mem_cons_of_mem _ (List.mem_cons_self ..))
          have hDd2 := hDx d2 (List.mem_cons_of_mem _ (List.mem_cons_self ..))
          simp only [List.flatten_cons, List.length_append] at hpl
          have lR : (G.flatten ++ T).length = G.flatten.length + T.length := List.length_append
          rw [show E.flatten ++ (d :: d2 :: G).flatten ++ T = E.flatten ++ d ++ d2 ++ (G.flatten ++ T) by simp] at hm hpm
          repeat' (first | refine c_seq ?_ | refine c_region ?_ | refine c_nil ?_ | refine k_then ?_ | refine k_inN ?_ | refine c_skip ?_ | refine c_block ?_ | refine c_condT h rfl ?_ | ((refine st_op rfl rfl h ?_); clear h a; (first | (show Does _ (.call _) _ _ _ _; ((refine does_funL (L0 := [_]) hm en57 rfl (symMerge_ok q D nr pre hC b sp len cap hN _ E.flatten d d2 (G.flatten ++ T) _ _ _ (Nat.le_refl _) (by omega) (by omega) (by omega) (by omega) (by omega) (by omega) hd.2 hd2.2 hDd hDd2) hp ?_; clear hm; rintro _ _ w ⟨C, ⟨hC1, hC2⟩, rfl⟩ hm; simp only [List.cons_append, List.nil_append] at hm))) | (show Does _ (.move _) _ _ _ _; refine does_move rfl ?_) | (show Does _ (.assign _) _ _ _ _; refine does_assign rfl ?_) | (show Does _ (.binOp _ _ _ _ _) _ _ _ _; (first | refine does_leqT rfl rfl (by omega) ?_ | refine does_mul rfl rfl (mul_in (by omega) (by omega)) ?_ | refine does_add rfl rfl (by omega) ?_))); intro a h; (try simp only [Value.cells, List.toList_toArray, splice, List.set_cons_zero, List.set_cons_succ, List.drop_zero, List.drop_succ_cons, List.take_succ_cons, List.take_zero, Nat.zero_add, Nat.reduceAdd, Nat.reduceMul, Int.reduceAdd, Int.reduceToNat, Int.reduceTMod, Nat.zero_mul, Nat.one_mul, Int.toNat_natCast] at h)))
          have lC := hC1.length_eq
          rw [List.length_append] at lC
          have e1 : ((E.flatten.length + 2 * bs : Nat) : Int) = (((E ++ [C]).flatten.length : Nat) : Int) := by rw [flat_snoc, List.length_append]; omega
          have e2 : ((E.flatten.length + 2 * bs : Nat) : Int) + 2 * (bs : Int) = (((E ++ [C]).flatten.length + 2 * bs : Nat) : Int) := by rw [flat_snoc, List.length_append]; omega
          rw [e2, e1] at h
          refine k_thenN ⟨(E ++ [C], G), ⟨⟨⟨blks_snoc hE ⟨by omega, hC2⟩, fun x hx => hG x (List.mem_cons_of_mem _ (List.mem_cons_of_mem _ hx))⟩, ?_⟩, ?_, h.keep ⟨rfl, rfl, rfl, rfl, rfl, rfl, trivial⟩⟩, by show G.length < (d :: d2 :: G).length; simp only [List.length_cons]; omega⟩
          · rw [flat_snoc, List.append_assoc (E.flatten ++ C)]
            refine List.Perm.trans ?_ hpm
            refine List.Perm.append_right _ ?_
            rw [List.append_assoc]
            exact List.Perm.append_left _ hC1
          · rw [flat_snoc, List.append_assoc (E.flatten ++ C)]
            exact hm
    · repeat' (first | refine c_seq ?_ | refine c_region ?_ | refine c_nil ?_ | refine k_then ?_ | refine k_thenE ?_ | refine k_inE ?_ | refine c_exit ?_ | refine c_condF h rfl ?_ | ((refine st_op rfl rfl h ?_); clear h a; (first | (show Does _ (.move _) _ _ _ _; refine does_move rfl ?_) | (show Does _ (.binOp _ _ _ _ _) _ _ _ _; (refine does_lssF rfl rfl (by omega) ?_))); intro a h; (try simp only [Value.cells, List.toList_toArray, splice, List.set_cons_zero, List.set_cons_succ, List.drop_zero, List.drop_succ_cons, List.take_succ_cons, List.take_zero, Nat.zero_add, Nat.reduceAdd, Nat.reduceMul, Int.reduceAdd, Int.reduceToNat, Int.reduceTMod, Nat.zero_mul, Nat.one_mul, Int.toNat_natCast] at h)))
      refine k_normal (k_ret (vs := []) rfl h trivial ⟨_, ⟨E.flatten ++ T, ⟨hpm, ?_⟩, rfl⟩, hm⟩)
      cases E with
      | nil => exact hT2
      | cons d E =>
        have hd := hE d (List.mem_cons_self ..)
        simp only [List.flatten_cons, List.length_append] at hpl
        have h1 : E.flatten = [] := List.eq_nil_of_length_eq_zero (by omega)
        have h2 : T = [] := List.eq_nil_of_length_eq_zero (by omega)
        rw [List.flatten_cons, h1, h2, List.append_nil, List.append_nil]
        exact hd.2
set_option maxHeartbeats 8000000 in
theorem sortStable_ok (q : Addr) (D : Int → Prop) (nr : Int → Int) (pre : Heap → Prop) (hC : CmpK q D nr pre) (b : Nat) (sp : List Value) (cap : Nat) (xs : List Int) (hN : xs.length ≤ 1048576) (hD : ∀ x ∈ xs, D x) :
    FunL Try.prog 25 [.slice (some ⟨b, 0, none⟩) xs.length cap, cmpV q] [dBlk b xs sp] pre (fun _ L' => ∃ C, (C.Perm xs ∧ So nr C) ∧ L' = [dBlk b C sp]) := by
  refine enterFunL Try.func25 rfl Try.ntmps25 rfl (fun W0 X0 B L w a hp hm h => ?_)
  simp only [List.cons_append, List.nil_append] at hm
  repeat' (first | refine c_region ?_ | refine c_nil ?_ | ((refine st_op rfl rfl h ?_); clear h a; (first | (show Does _ (.call _) _ _ _ _; (first | ((refine does_funL (L0 := [_]) hm en43 rfl (stable_ok q D nr pre hC b sp xs.length cap xs _ rfl rfl hN hD) hp ?_; clear hm; rintro _ _ w ⟨C, hC1, rfl⟩ hm; simp only [List.cons_append, List.nil_append] at hm)) | refine does_lenS (SliceT.out) rfl ?_)) | (show Does _ (.move _) _ _ _ _; refine does_move rfl ?_)); intro a h; (try simp only [Value.cells, List.toList_toArray, splice, List.set_cons_zero, List.set_cons_succ, List.drop_zero, List.drop_succ_cons, List.take_succ_cons, List.take_zero, Nat.zero_add, Nat.reduceAdd, Nat.reduceMul, Int.reduceAdd, Int.reduceToNat, Int.reduceTMod, Nat.zero_mul, Nat.one_mul, Int.toNat_natCast] at h)))
  exact k_normal (k_ret (vs := []) rfl h trivial ⟨_, ⟨C, hC1, rfl⟩, hm⟩)
set_option maxHeartbeats 2000000 in
theorem insNone_ok (p : Option Addr) (c : Nat) (v : Value) : FunV Try.prog 56 [.slice p 0 c, I 0, I 0, v] (fun _ => True) (fun _ => True) := by
  refine enterFunV Try.func56 rfl Try.ntmps56 rfl (fun W0 w a hp hm h => ?_)
  repeat' (first | refine c_seq ?_ | refine c_region ?_ | refine c_nil ?_ | refine k_then ?_ | refine k_thenE ?_ | refine k_inE ?_ | refine c_exit ?_ | refine c_block ?_ | refine r_succ ?_ | refine c_condF h rfl ?_ | (refine c_rounds 1 ?_) | ((refine st_op rfl rfl h ?_); clear h a; (first | (show Does _ (.move _) _ _ _ _; refine does_move rfl ?_) | (show Does _ (.assign _) _ _ _ _; refine does_assign rfl ?_) | (show Does _ (.binOp _ _ _ _ _) _ _ _ _; (first | refine does_lssF rfl rfl (by omega) ?_ | refine does_add rfl rfl (by omega) ?_))); intro a h; (try simp only [Value.cells, List.toList_toArray, splice, List.set_cons_zero, List.set_cons_succ, List.drop_zero, List.drop_succ_cons, List.take_succ_cons, List.take_zero, Nat.zero_add, Nat.reduceAdd, Nat.reduceMul, Int.reduceAdd, Int.reduceToNat, Int.reduceTMod, Nat.zero_mul, Nat.one_mul, Int.toNat_natCast] at h)))
  exact k_normal (k_ret (vs := []) rfl h trivial ⟨trivial, hm.below⟩)
set_option maxHeartbeats 2000000 in
theorem stableNone_ok (p : Option Addr) (c : Nat) (v : Value) : FunV Try.prog 43 [.slice p 0 c, I 0, v] (fun _ => True) (fun _ => True) := by
  refine enterFunV Try.func43 rfl Try.ntmps43 rfl (fun W0 w a hp hm h => ?_)
  repeat' (first | refine c_seq ?_ | refine c_region ?_ | refine c_nil ?_ | refine k_then ?_ | refine k_thenE ?_ | refine k_inE ?_ | refine c_exit ?_ | refine c_block ?_ | refine r_succ ?_ | refine c_condF h rfl ?_ | (refine c_rounds 1 ?_) | ((refine st_op rfl rfl h ?_); clear h a; (first | (show Does _ (.call _) _ _ _ _; ((refine does_funVal hm en56 rfl (insNone_ok p c v) trivial ?_; clear hm; rintro _ w _ hm))) | (show Does _ (.move _) _ _ _ _; refine does_move rfl ?_) | (show Does _ (.assign _) _ _ _ _; refine does_assign rfl ?_) | (show Does _ (.binOp _ _ _ _ _) _ _ _ _; (first | refine does_lssF rfl rfl (by omega) ?_ | refine does_leqF rfl rfl (by omega) ?_))); intro a h; (try simp only [Value.cells, List.toList_toArray, splice, List.set_cons_zero, List.set_cons_succ, List.drop_zero, List.drop_succ_cons, List.take_succ_cons, List.take_zero, Nat.zero_add, Nat.reduceAdd, Nat.reduceMul, Int.reduceAdd, Int.reduceToNat, Int.reduceTMod, Nat.zero_mul, Nat.one_mul, Int.toNat_natCast] at h)))
  exact k_normal (k_ret (vs := []) rfl h trivial ⟨trivial, hm.below⟩)
set_option maxHeartbeats 2000000 in
theorem sortNone_ok (p : Option Addr) (c : Nat) (v : Value) : FunV Try.prog 25 [.slice p 0 c, v] (fun _ => True) (fun _ => True) := by
  refine enterFunV Try.func25 rfl Try.ntmps25 rfl (fun W0 w a hp hm h => ?_)
  repeat' (first | refine c_region ?_ | refine c_nil ?_ | ((refine st_op rfl rfl h ?_); clear h a; (first | (show Does _ (.call _) _ _ _ _; (first | ((refine does_funVal hm en43 rfl (stableNone_ok p c v) trivial ?_; clear hm; rintro _ w _ hm)) | refine does_lenS (SliceT.out) rfl ?_)) | (show Does _ (.move _) _ _ _ _; refine does_move rfl ?_)); intro a h; (try simp only [Value.cells, List.toList_toArray, splice, List.set_cons_zero, List.set_cons_succ, List.drop_zero, List.drop_succ_cons, List.take_succ_cons, List.take_zero, Nat.zero_add, Nat.reduceAdd, Nat.reduceMul, Int.reduceAdd, Int.reduceToNat, Int.reduceTMod, Nat.zero_mul, Nat.one_mul, Int.toNat_natCast] at h)))
  exact k_normal (k_ret (vs := []) rfl h trivial ⟨trivial, hm.below⟩)
end Go.Proofs.Ytaiiiendfcglmaa.St
