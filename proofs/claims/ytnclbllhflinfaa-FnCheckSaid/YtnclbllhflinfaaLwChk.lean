/-
  A checked program assigns a color, and its nodes belong to its assignments: for all arguments. No condition.
-/
import Derived.Test.YtnclbllhflinfaaLGod
import Derived.Test.YtnclbllhflinfaaLwUco
import Derived.Test.YtnclbllhflinfaaJ2
import Derived.Test.YtnclbllhflinfaaStEqq
import Derived.Test.YtnclbllhflinfaaJ1
set_option linter.unusedSimpArgs false
set_option linter.unusedVariables false
namespace Go.Proofs.Ytnclbllhflinfaa.St
open Go.RowKit
set_option maxHeartbeats 8000000 in
theorem ownerOf_ok (p q : Option Addr) (xs : List TNode) (ys : List TAssignment) (c d : Nat) (m : Nat) (hxs : xs.length ≤ 60) (hsm : ∀ x ∈ xs, smN x) (hys : ys.length ≤ 1048576) (hv : vProg (xs.map aN) ys) (hm0 : m < xs.length) :
    FunV Try.prog 6 [.agg #[.slice p xs.length c, .slice q ys.length d], .int .i64 m] (fun H => ProgH H p q xs ys) (fun v => ∃ k : Nat, v = I k ∧ Own1 (xs.map aN) ys m k) := by
  have hlen : (xs.map aN).length = xs.length := List.length_map _
  refine enterFunV Try.func6 rfl Try.ntmps6 rfl (fun W0 w a hp hm h => ?_)
  repeat' (first | refine c_seq ?_ | refine c_region ?_ | refine c_nil ?_ | refine k_then ?_ | refine c_skip ?_ | refine c_condF h rfl ?_ | (((refine st_op (d := 2) rfl rfl h ?_; refine does_box hm rfl rfl ?_; clear h a hm; intro b_2 w hm a h)); (try simp only [Value.cells, splice, nz, Nat.reduceAdd, Nat.reduceMul, Int.reduceAdd, Int.reduceToNat, Int.reduceTMod] at h)) | ((refine st_op rfl rfl h ?_); clear h a; (first | (show Does _ (.call _) _ _ _ _; (first | ((refine does_funP hm en12 rfl ((isValidProgram_ok _ _ _ _ _ _ (by omega) hsm hys).yes hv) (hp.up hm) ?_; clear hm; intro w hm)) | ((refine does_funM hm en19 rfl ((within_ok _ _ _).yes (by omega)) ?_; clear hm; intro w hm)) | refine does_lenS (SliceT.out) rfl ?_)) | (show Does _ (.move _) _ _ _ _; refine does_move rfl ?_) | (show Does _ (.assign _) _ _ _ _; refine does_assign rfl ?_) | (show Does _ (.pick _ _ _) _ _ _ _; (refine does_pickF rfl rfl ?_)) | (show Does _ (.fieldAddr _ _ _) _ _ _ _; (refine does_fieldAddrL rfl ?_)) | (show Does _ (.load _ _) _ _ _ _; (first | refine zl hm rfl rfl ?_ | refine za hm rfl rfl ?_)) | (show Does _ (.unOp _ _ _) _ _ _ _; (refine does_not rfl ?_)) | (show Does _ (.binOp _ _ _ _ _) _ _ _ _; refine zsub rfl rfl ?_)); intro a h; (try simp only [Value.cells, splice, nz, Nat.reduceAdd, Nat.reduceMul, Int.reduceAdd, Int.reduceToNat, Int.reduceTMod] at h)))
  refine st_op rfl rfl h ?_; clear h a; refine does_funV2 hm en14 rfl (owners_ok _ _ _ _ _ _ hys hv) (hp.up hm) ?_; clear hm; rintro v cs w ⟨us, rfl, hU⟩ hm a h
  obtain ⟨B5, p5, c5, hB5, hmx, rfl, hcc5, hcm5, hs5⟩ := hm.frozen (fun _ => rfl) (by omega); clear hm; have hm := hmx; clear hmx
  have hul : us.length = xs.length := by rw [hU.len, hlen]
  obtain ⟨k, hk, hown⟩ := hU.own m (by omega)
  obtain ⟨q5, rfl, hat5⟩ := hs5.at (k := m) (by omega)
  have hg : us[m]'(by omega) = (k : Int) := by rw [List.getElem?_eq_getElem (by omega)] at hk; exact Option.some.inj hk
  rw [hg, Nat.mul_one] at hat5
  rw [hul] at h
  repeat' (first | refine c_nil ?_ | refine k_then ?_ | refine c_ret ?_ | ((refine st_op rfl rfl h ?_); clear h a; (first | (show Does _ (.move _) _ _ _ _; refine does_move rfl ?_) | (show Does _ (.assign _) _ _ _ _; refine does_assign rfl ?_) | (show Does _ (.load _ _) _ _ _ _; (refine does_loadB hm rfl (by assumption) rfl ?_)) | (show Does _ (.indexAddr _ _ _) _ _ _ _; (refine ziS1 rfl rfl ?_))); intro a h; (try simp only [Value.cells, splice, nz, Nat.reduceAdd, Nat.reduceMul, Int.reduceAdd, Int.reduceToNat, Int.reduceTMod] at h)))
  exact k_ret1 rfl h rfl ⟨⟨k, rfl, hown⟩, hm.below⟩
set_option maxHeartbeats 4000000 in
theorem checkText0 : Fun Try.prog 9 [I 0] (.string ⟨#[111, 107]⟩) := by
  refine enterFun Try.func9 rfl Try.ntmps9 rfl (fun W0 w a hm h => ?_)
  repeat' (first | refine c_seq ?_ | refine c_region ?_ | refine c_nil ?_ | refine k_then ?_ | refine c_skip ?_ | refine c_ret ?_ | refine c_condF h rfl ?_ | ((refine st_op rfl rfl h ?_); clear h a; (first | (show Does _ (.call _) _ _ _ _; (first | ((refine does_funM hm en19 rfl ((within_ok _ _ _).yes (by omega)) ?_; clear hm; intro w hm)) | refine does_lenS (SliceT.out) rfl ?_)) | (show Does _ (.buildSlice _ _ _) _ _ _ _; (refine does_buildSlice hm rfl rfl rfl ?_; clear hm; intro b w hm; (try simp only [rep, List.replicate_succ, List.replicate_zero, List.flatten_cons, List.flatten_nil, List.cons_append, List.nil_append, Nat.zero_mul, Nat.one_mul, Nat.reduceMul, Value.cells, List.toList_toArray, List.set_cons_zero, List.set_cons_succ, splice, Nat.zero_add, Nat.reduceAdd, Nat.reduceMul, Int.reduceAdd, Int.reduceToNat, Nat.zero_mul, Nat.one_mul, Int.toNat_natCast] at hm))) | (show Does _ (.move _) _ _ _ _; refine does_move rfl ?_) | (show Does _ (.assign _) _ _ _ _; refine does_assign rfl ?_) | (show Does _ (.load _ _) _ _ _ _; (refine zl hm rfl rfl ?_)) | (show Does _ (.unOp _ _ _) _ _ _ _; (refine does_not rfl ?_)) | (show Does _ (.binOp _ _ _ _ _) _ _ _ _; refine zsub rfl rfl ?_) | (show Does _ (.indexAddr _ _ _) _ _ _ _; (refine ziSL rfl rfl ?_))); intro a h; (try simp only [Value.cells, splice, nz, Nat.reduceAdd, Nat.reduceMul, Int.reduceAdd, Int.reduceToNat, Int.reduceTMod] at h)))
  (refine k_ret1 rfl h rfl ⟨?_, hm.below⟩)
  rfl
set_option maxHeartbeats 16000000 in
theorem lwCheck (p : Option Addr) (bs : List Int) (c : Nat) (hbs : bytesOk bs) (hl : bs.length ≤ 9223372036854775807) : FunP Try.prog 3 [.slice p bs.length c] (fun H => Sl H p eB 1 bs) (.bool true) := by
  refine enterFunP Try.func3 rfl Try.ntmps3 rfl (fun W0 w a hp hm h => ?_)
  by_cases hb : bs.length ≤ 1048576
  · repeat' (first | refine c_seq ?_ | refine c_region ?_ | refine c_nil ?_ | refine k_then ?_ | refine c_skip ?_ | refine c_block ?_ | refine c_condF h rfl ?_ | (((refine st_op (d := 3) rfl rfl h ?_; refine does_alloc hm ?_; clear h a hm; intro b_3 w hm a h)); (try simp only [Value.cells, splice, nz, Nat.reduceAdd, Nat.reduceMul, Int.reduceAdd, Int.reduceToNat, Int.reduceTMod] at h)) | ((first | refine st_op rfl rfl h ?_ | refine st_opn rfl h ?_); clear h a; (first | (show Does _ (.call _) _ _ _ _; (first | ((refine does_funF (L0 := []) _ hm en4 rfl (makeProgram_ok p bs c hbs hb) hp ?_; clear hm; rintro v L1 B1 w hB1 ⟨rfl, p1, q1, xs, ys, c1, d1, rfl, hpg, hok⟩ hm; rw [List.nil_append] at hm; have hf1 := hpg.few; have hf2 := hpg.fewA)) | ((refine does_funVal hm en5 rfl (check_ok _ _ _ _ _ _ (by omega) hpg.smN (by omega)) (hpg.prog.up hm) ?_; clear hm; rintro v w ⟨r1, r2, rfl, hr1, hr2⟩ hm; obtain rfl := hr1.2 hok; obtain rfl := hr2 rfl)) | refine does_lenS (SliceT.out) rfl ?_)) | (show Does _ (.store _ _ _) _ _ _ _; ((refine zs hm rfl rfl rfl rfl rfl rfl ?_); clear hm; intro w hm; (try simp only [Value.cells, splice, nz, ns, Nat.reduceAdd, Nat.reduceMul, Int.reduceAdd, Int.reduceToNat] at hm))) | (show Does _ (.move _) _ _ _ _; refine does_move rfl ?_) | (show Does _ (.assign _) _ _ _ _; refine does_assign rfl ?_) | (show Does _ (.fieldAddr _ _ _) _ _ _ _; (refine does_fieldAddrL rfl ?_)) | (show Does _ (.load _ _) _ _ _ _; (first | refine zl hm rfl rfl ?_ | refine za hm rfl rfl ?_)) | (show Does _ (.binOp _ _ _ _ _) _ _ _ _; (refine zgtr rfl rfl ?_)) | (show Does _ (.extract _ _) _ _ _ _; refine does_extract rfl rfl ?_)); intro a h; (try simp only [Value.cells, splice, nz, Nat.reduceAdd, Nat.reduceMul, Int.reduceAdd, Int.reduceToNat, Int.reduceTMod] at h)))
    have hlen : (xs.map aN).length = xs.length := List.length_map _
    refine c_loop (σ := Nat) (fun i a w => i ≤ xs.length ∧ Mem W0 [] B1 [.blk b_3 (.cells [.slice p1 xs.length c1, .slice q1 ys.length d1].toArray 26)] w ∧
      Holds [(3, pq0 b_3), (4, I 0), (5, I 0), (6, I (cU (xs.map aN) ys i)), (23, .int .i64 xs.length), (24, .int .i64 i)] 77 a) (fun i => xs.length - i) 0
      ⟨Nat.zero_le _, hm, h.keep ⟨rfl, rfl, rfl, rfl, rfl, rfl, trivial⟩⟩ ?_
    clear h hm
    rintro i a w ⟨hi, hm, h⟩
    have hcu := cU_bd (xs.map aN) ys i
    by_cases hlt : i < xs.length
    · repeat' (first | refine c_seq ?_ | refine c_region ?_ | refine c_nil ?_ | refine k_then ?_ | refine k_inN ?_ | refine c_skip ?_ | refine c_block ?_ | refine c_condT h rfl ?_ | refine c_condF h rfl ?_ | ((refine st_op rfl rfl h ?_); clear h a; (first | (show Does _ (.call _) _ _ _ _; (first | ((refine does_funVal hm en6 rfl (ownerOf_ok _ _ _ _ _ _ i (by omega) hpg.smN (by omega) hok.val hlt) (hpg.prog.up hm) ?_; clear hm; rintro v w ⟨k, rfl, hk⟩ hm; have hkl := own_lt hk)) | ((refine does_funP hm en7 rfl (isUniform_ok _ _ _ _ _ _ i (by omega) hpg.smN (by omega)) (hpg.prog.up hm) ?_; clear hm; intro w hm)) | refine does_lenS (SliceT.out) rfl ?_)) | (show Does _ (.move _) _ _ _ _; refine does_move rfl ?_) | (show Does _ (.assign _) _ _ _ _; refine does_assign rfl ?_) | (show Does _ (.pick _ _ _) _ _ _ _; (refine does_pickF rfl rfl ?_)) | (show Does _ (.fieldAddr _ _ _) _ _ _ _; (refine does_fieldAddrL rfl ?_)) | (show Does _ (.load _ _) _ _ _ _; (first | refine zl hm rfl rfl ?_ | refine za hm rfl rfl ?_)) | (show Does _ (.binOp _ _ _ _ _) _ _ _ _; (first | refine zlss rfl rfl ?_ | refine zgeq rfl rfl ?_ | refine zadd rfl rfl ?_))); intro a h; (try simp only [Value.cells, splice, nz, Nat.reduceAdd, Nat.reduceMul, Int.reduceAdd, Int.reduceToNat, Int.reduceTMod] at h)) | ((refine c_condD h rfl ?_ ?_) <;> intro hc <;> (try (fail))))
      · exact k_thenN ⟨i + 1, ⟨by omega, hm, h.keep ⟨rfl, rfl, rfl, by rw [cU_y hc]; rfl, rfl, rfl, trivial⟩⟩, by omega⟩
      · exact k_thenN ⟨i + 1, ⟨by omega, hm, h.keep ⟨rfl, rfl, rfl, by rw [cU_n hc]; rfl, rfl, rfl, trivial⟩⟩, by omega⟩
    · obtain rfl : i = xs.length := by omega
      repeat' (first | refine c_seq ?_ | refine c_region ?_ | refine c_nil ?_ | refine k_then ?_ | refine k_thenE ?_ | refine k_inE ?_ | refine c_exit ?_ | refine c_block ?_ | refine c_condF h rfl ?_ | ((refine st_op rfl rfl h ?_); clear h a; (first | (show Does _ (.move _) _ _ _ _; refine does_move rfl ?_) | (show Does _ (.fieldAddr _ _ _) _ _ _ _; (refine does_fieldAddrL rfl ?_)) | (show Does _ (.load _ _) _ _ _ _; (refine zl hm rfl rfl ?_)) | (show Does _ (.binOp _ _ _ _ _) _ _ _ _; (refine zlss rfl rfl ?_)) | (show Does _ (.call _) _ _ _ _; refine does_lenS (SliceT.out) rfl ?_)); intro a h; (try simp only [Value.cells, splice, nz, Nat.reduceAdd, Nat.reduceMul, Int.reduceAdd, Int.reduceToNat, Int.reduceTMod] at h)))
      refine c_loop (σ := Nat) (fun j a w => j ≤ ys.length ∧ Mem W0 [] B1 [.blk b_3 (.cells [.slice p1 xs.length c1, .slice q1 ys.length d1].toArray 26)] w ∧
        Holds [(3, pq0 b_3), (4, I 0), (5, I 0), (6, I (cU (xs.map aN) ys xs.length)), (46, .slice q1 ys.length d1), (47, .int .i64 ys.length), (48, .int .i64 j)] 77 a) (fun j => ys.length - j) 0
        ⟨Nat.zero_le _, hm, h.keep ⟨rfl, rfl, rfl, rfl, rfl, rfl, rfl, trivial⟩⟩ ?_
      clear h hm hlt hi
      rintro j a w ⟨hj, hm, h⟩
      by_cases hlt : j < ys.length
      · obtain ⟨q2, rfl, hat2⟩ := hpg.prog.asg.at hlt
        have g1 : ys[j]? = some ys[j] := List.getElem?_eq_getElem hlt
        have has := hok.val.asg _ (List.getElem_mem hlt)
        obtain ⟨r, hr0⟩ : ∃ r : Nat, ys[j].2 = (r : Int) := ⟨ys[j].2.toNat, by omega⟩
        have hrn : r < xs.length := by omega
        change At _ _ [.string ys[j].1, I ys[j].2] at hat2
        rw [hr0] at hat2
        repeat' (first | refine c_seq ?_ | refine c_region ?_ | refine c_nil ?_ | refine k_then ?_ | refine k_inN ?_ | refine c_skip ?_ | refine c_block ?_ | refine c_condT h rfl ?_ | refine c_condF h rfl ?_ | (((refine st_op (d := 10) rfl rfl h ?_; refine does_alloc hm ?_; clear h a hm; intro b_10 w hm a h)); (try simp only [Value.cells, splice, nz, Nat.reduceAdd, Nat.reduceMul, Int.reduceAdd, Int.reduceToNat, Int.reduceTMod] at h)) | ((first | refine st_op rfl rfl h ?_ | refine st_opn rfl h ?_); clear h a; (first | (show Does _ (.call _) _ _ _ _; (((refine does_funVal hm en6 rfl (ownerOf_ok _ _ _ _ _ _ r (by omega) hpg.smN (by omega) hok.val hrn) (hpg.prog.up hm) ?_; clear hm; rintro v w ⟨k, rfl, hk⟩ hm; obtain rfl : k = j := own_unique hok.val _ r (Nat.le_refl _) (by omega) hk (Own1.root g1 hr0))))) | (show Does _ (.store _ _ _) _ _ _ _; ((refine zs hm rfl rfl rfl rfl rfl rfl ?_); clear hm; intro w hm; (try simp only [Value.cells, splice, nz, ns, Nat.reduceAdd, Nat.reduceMul, Int.reduceAdd, Int.reduceToNat] at hm))) | (show Does _ (.move _) _ _ _ _; refine does_move rfl ?_) | (show Does _ (.assign _) _ _ _ _; refine does_assign rfl ?_) | (show Does _ (.fieldAddr _ _ _) _ _ _ _; (refine does_fieldAddrL rfl ?_)) | (show Does _ (.load _ _) _ _ _ _; (first | refine zl hm rfl rfl ?_ | refine za hm rfl rfl ?_ | refine does_loadBA hm rfl (by assumption) rfl ?_)) | (show Does _ (.binOp _ _ _ _ _) _ _ _ _; (first | refine zlss rfl rfl ?_ | refine zneq rfl rfl ?_ | refine zadd rfl rfl ?_)) | (show Does _ (.indexAddr _ _ _) _ _ _ _; (refine ziSn rfl rfl ?_))); intro a h; (try simp only [Value.cells, splice, nz, Nat.reduceAdd, Nat.reduceMul, Int.reduceAdd, Int.reduceToNat, Int.reduceTMod] at h)))
        exact k_thenN ⟨k + 1, ⟨by omega, hm.drop, h.keep ⟨rfl, rfl, rfl, rfl, rfl, rfl, rfl, trivial⟩⟩, by omega⟩
      · repeat' (first | refine c_seq ?_ | refine c_region ?_ | refine c_nil ?_ | refine k_then ?_ | refine k_thenE ?_ | refine k_inE ?_ | refine c_ret ?_ | refine c_exit ?_ | refine c_condF h rfl ?_ | ((refine st_op rfl rfl h ?_); clear h a; (first | (show Does _ (.call _) _ _ _ _; (first | ((refine does_funP hm en8 rfl (uniformCount_ok _ _ _ _ _ _ (by omega) hpg.smN (by omega)) (hpg.prog.up hm) ?_; clear hm; intro w hm)) | ((refine does_funM hm en9 rfl checkText0 ?_; clear hm; intro w hm)))) | (show Does _ (.move _) _ _ _ _; refine does_move rfl ?_) | (show Does _ (.assign _) _ _ _ _; refine does_assign rfl ?_) | (show Does _ (.pick _ _ _) _ _ _ _; (refine does_pickT rfl rfl ?_)) | (show Does _ (.load _ _) _ _ _ _; (refine za hm rfl rfl ?_)) | (show Does _ (.binOp _ _ _ _ _) _ _ _ _; (first | refine zlss rfl rfl ?_ | refine zeql rfl rfl ?_ | refine does_eqlStrS rfl rfl ?_))); intro a h; (try simp only [Value.cells, splice, nz, Nat.reduceAdd, Nat.reduceMul, Int.reduceAdd, Int.reduceToNat, Int.reduceTMod] at h)))
        (refine k_ret1 rfl h rfl ⟨?_, hm.below⟩)
        rfl
  · repeat' (first | refine c_seq ?_ | refine c_region ?_ | refine c_nil ?_ | refine k_then ?_ | refine k_thenR ?_ | refine c_ret ?_ | refine c_condT h rfl ?_ | ((refine st_op rfl rfl h ?_); clear h a; (first | (show Does _ (.move _) _ _ _ _; refine does_move rfl ?_) | (show Does _ (.assign _) _ _ _ _; refine does_assign rfl ?_) | (show Does _ (.binOp _ _ _ _ _) _ _ _ _; (refine zgtr rfl rfl ?_)) | (show Does _ (.call _) _ _ _ _; refine does_lenS (SliceT.out) rfl ?_)); intro a h; (try simp only [Value.cells, splice, nz, Nat.reduceAdd, Nat.reduceMul, Int.reduceAdd, Int.reduceToNat, Int.reduceTMod] at h)))
    all_goals (refine k_ret1 rfl h rfl ⟨?_, hm.below⟩)
    all_goals rfl
end Go.Proofs.Ytnclbllhflinfaa.St
namespace Go.Proofs.Ytnclbllhflinfaa.fnCheck
open Go.ChangeShapes Go.WideShapes Go.ChangeAt Go.RowKit Go.Proofs.Ytnclbllhflinfaa.St
set_option linter.unusedVariables false
theorem own : ownKnob Try.prog.godebug = none := by kernel_rfl
theorem laid : laidOutB Try.prog = true := by kernel_rfl
set_option maxRecDepth 100000 in
theorem lifted (os : Os) (started : os.Started) (H : Type) (enc : TypeId × Value → H) :
    ReturnsInHanded {} Try.checked os 3 .any (Rows.fnCheckSpec.pre6 enc Try.prog Try.f3 Rows.fnCheckRow.domain false) (Rows.fnCheckSpec.post enc Try.prog Try.f3 false true false false) := by
  refine returnsInHanded_of_change (C := Try.checked) own started (by kernel_rfl) Try.func3
    (ChangeSpec.witness6 (enc := enc) (C := Try.checked) false ⟨#[], #[.slice none 0 0], []⟩ 8 (by kernel_rfl) (by kernel_rfl) (by kernel_rfl) (by kernel_rfl)) ?_
  intro W base args ds gs before hval0 hW hcnd _
  have hval : ∀ (j : Nat) t v, Try.f3.params[j]? = some t → args[j]? = some v → Value.okWide Try.prog W .any base t v := hval0
  have hW1 := hW
  obtain ⟨p, q, hA0, hV, hbe, hfz, hnd⟩ := hW1
  have hA : DataW.TrodAll enc Try.prog W 0 (fun _ => true) true Try.f3.params.toList args.toList ds p := hA0
  rw [Try.params3] at hA hval
  obtain ⟨v0, vs0, d0, ds0, p0, q0, hg0, hd0, hp0, h0, r0⟩ := trodAll_cons hA
  obtain ⟨hgz, hdz, hpz⟩ := trodAll_nil r0
  rw [hgz] at hg0
  rw [hdz] at hd0
  obtain rfl : args = #[v0] := by cases args; simp_all
  subst hd0
  have f0 := open_scal (n := 9) (ks := [.cell 22]) (by kernel_rfl) (by kernel_rfl) (hval 0 22 v0 rfl rfl) h0
  obtain ⟨a0_0, c0_0, e0, ⟨u0_0, x0_0, g0_0⟩, f0⟩ := fits_cell f0
  obtain ⟨rfl, rfl⟩ : v0 = a0_0 ∧ c0_0 = [] := by simpa [eq_comm] using e0
  obtain ⟨p0, xs0, n0, rfl, hle0, hn0, hi0, hbd0⟩ := openByteS Try.underlying22 (by kernel_rfl) (by kernel_rfl) g0_0
  refine ((lwCheck p0 xs0 n0 hbd0 (by simp only [maxLen] at hn0; omega)).out W hi0).mono fun e W2 ⟨he, hx⟩ => ?_
  subst he
  exact ⟨_, rfl, law_post (t := 4) laid (by kernel_rfl) (by kernel_rfl) Try.underlying4 rfl hW rfl hx⟩
theorem closed : joinedFacts Try.prog 3 Try.f3 Rows.fnCheckSpec Rows.fnCheckRow = true := by
  rw [joinedFacts, Facts.mayEnter_t, Facts.lifts_t, Facts.make_t]
  kernel_rfl
theorem over : Rows.fnCheckRow.holds Try.pinned (OpenSpec.ofChange Rows.fnCheckSpec) :=
  OpenClaim.holds_of_wide 3 Try.f3 rfl rfl rfl rfl rfl rfl rfl ⟨rfl, rfl, rfl, rfl, rfl⟩ rfl rfl rfl rfl rfl (by kernel_rfl) Try.func3 closed
    (of_decide_eq_true (by kernel_rfl)) (by unfold Func.isWrapper; first | (rw [if_pos (by decide +kernel)]; kernel_rfl) | (rw [if_neg (by decide +kernel)]; exact ⟨rfl, rfl⟩))
    (fun os started H enc _ => lifted os started H enc)
theorem proved : Rows.FnCheckSaid := over
#print axioms proved
end Go.Proofs.Ytnclbllhflinfaa.fnCheck
