/-
  The reference's maker of programs: some program that passes all checks.
-/
import Derived.Test.YtcbnegmmjflmcaaGreatLPsc
import Derived.Test.YtcbnegmmjflmcaaGreatJ16
import Derived.Test.YtcbnegmmjflmcaaGreatLChs
import Derived.Test.YtcbnegmmjflmcaaGreatJ3
set_option linter.unusedSimpArgs false
set_option linter.unusedVariables false
namespace Go.Proofs.YtcbnegmmjflmcaaGreat.St
open Go.RowKit
theorem cC_id : ident cC := ⟨⟨by decide, by decide⟩, fun i hi => by
  have h5 : i < 5 := hi
  obtain rfl | rfl | rfl | rfl | rfl : i = 0 ∨ i = 1 ∨ i = 2 ∨ i = 3 ∨ i = 4 := by omega
  all_goals exact .inl ⟨by decide, by decide⟩⟩
theorem txU_id : ident txU := ⟨⟨by decide, by decide⟩, fun i hi => by
  have h5 : i < 1 := hi
  obtain rfl : i = 0 := by omega
  exact .inl ⟨by decide, by decide⟩⟩
theorem one_get {α : Type} {x y : α} {i : Nat} (h : [x][i]? = some y) : i = 0 ∧ y = x := by
  cases i with
  | zero => simp at h; exact ⟨rfl, h.symm⟩
  | succ i => simp at h
theorem okU : okP ([nU].map aN) [(cC, 0)] := by
  have hnames : ∀ (i : Nat) (x : PNode), ([nU].map aN)[i]? = some x → i = 0 ∧ x = nU.a := fun i x h => one_get h
  refine ⟨⟨by decide, fun i x h => ?_, fun y hy => ?_, fun m hm => ?_⟩, fun i x h => ?_, fun i x h => ?_, fun k y h => ?_, ?_⟩
  · obtain ⟨rfl, rfl⟩ := hnames i x h
    exact ⟨fun j hj => absurd hj (Nat.not_lt_zero _), .inl ⟨.inl rfl, txU_id⟩, .inr ⟨by decide, rfl⟩, .inl ⟨.inr rfl, rfl⟩⟩
  · simp only [List.mem_singleton] at hy
    subst hy
    exact ⟨cC_id, by decide, by decide⟩
  · have h1 : m < 1 := hm
    obtain rfl : m = 0 := by omega
    rfl
  · obtain ⟨rfl, rfl⟩ := hnames i x h
    exact ⟨fun _ => .inl (.inl rfl), fun e => by cases e⟩
  · obtain ⟨rfl, rfl⟩ := hnames i x h
    intro e
    cases e
  · obtain ⟨rfl, rfl⟩ := one_get h
    refine ⟨?_, ?_⟩
    · unfold isVar
      decide
    · rintro ⟨j, hj, _⟩
      omega
  · exact ⟨0, by decide, rfl⟩
theorem PgOk.smN {B : Heap} {p q : Option Addr} {xs : List TNode} {ys : List TAssignment} (h : PgOk B p q xs ys) : ∀ x ∈ xs, smN x := fun x hx => by
  have := (h.sm x hx).1
  show x.a.args.length ≤ 1048576
  omega
theorem PgOk.bdN {B : Heap} {p q : Option Addr} {xs : List TNode} {ys : List TAssignment} (h : PgOk B p q xs ys) : ∀ x ∈ xs, bdN x := fun x hx => by
  have := h.sm x hx
  exact ⟨by simp only [maxLen]; omega, by simp only [maxLen]; omega⟩
theorem PgOk.bdA {B : Heap} {p q : Option Addr} {xs : List TNode} {ys : List TAssignment} (h : PgOk B p q xs ys) : bdA ys := fun y hy => by
  have := h.smA y hy
  simp only [maxLen]
  omega
/-- a program that passes all checks -/
def gdV (B : Heap) (v : Value) : Prop := ∃ p q xs ys c d, v = .agg #[.slice p xs.length c, .slice q ys.length d] ∧ PgOk B p q xs ys ∧ okP (xs.map aN) ys
abbrev curO (b : Nat) (p : Option Addr) (n c i : Nat) (h : Int) : Own := .blk b (.cells (curC p n c i h).toArray curT)
def gdR (b : Nat) (p : Option Addr) (n c : Nat) (v : Value) (L' : List Own) (B : Heap) : Prop := (∃ i h, L' = [curO b p n c i h] ∧ i ≤ n) ∧ gdV B v
set_option maxHeartbeats 16000000 in
theorem l14Good_ok (b : Nat) (p : Option Addr) (bs : List Int) (c i : Nat) (hz : Int) (hbs : bytesOk bs) (hl : bs.length ≤ 1048576) (hi : i ≤ bs.length) :
    FunF Tryz.prog 47 [.pointer (some ⟨b, 0, none⟩)] [curO b p bs.length c i hz] (fun H => Sl H p eB 1 bs) (gdR b p bs.length c) := by
  refine enterFunF Tryz.func47 rfl Tryz.ntmps47 rfl (fun W0 X B L w a hp hm h => ?_)
  simp only [List.cons_append, List.nil_append] at hm
  repeat' (first | refine c_seq ?_ | refine c_region ?_ | refine c_nil ?_ | refine k_then ?_ | refine c_block ?_ | (((refine st_op (d := 2) rfl rfl h ?_; refine does_alloc hm ?_; clear h a hm; intro b_2 w hm a h))) | ((refine st_op rfl rfl h ?_); clear h a; ((show Does _ (.assign _) _ _ _ _; refine does_assign rfl ?_)); intro a h))
  refine c_loop (σ := Nat × Nat × Int × Heap) (fun s a w => (s.1 ≤ 20 ∧ s.2.1 ≤ bs.length ∧ Heap.le B s.2.2.2) ∧ Mem W0 X s.2.2.2 (.blk b_2 (.cells [.slice none 0 0, .slice none 0 0].toArray 108) :: curO b p bs.length c s.2.1 s.2.2.1 :: L) w ∧ Holds [(0, pq0 b), (2, pq0 b_2), (3, .int .i64 s.1)] 33 a) (fun s => 20 - s.1) (0, i, hz, B)
    ⟨⟨Nat.zero_le _, hi, Heap.le_refl _⟩, hm, h.keep ⟨rfl, rfl, rfl, trivial⟩⟩ ?_
  clear h hm hi
  rintro ⟨k, i, h0, Bq⟩ a w ⟨⟨hk, hi, hBq⟩, hm, h⟩
  simp only at hk hi hBq hm h
  replace hp := hp.mono hBq
  by_cases hlt : k < 20
  · repeat' (first | refine c_seq ?_ | refine c_region ?_ | refine c_nil ?_ | refine k_then ?_ | refine k_thenR ?_ | refine k_inN ?_ | refine k_inR ?_ | refine c_skip ?_ | refine c_ret ?_ | refine c_block ?_ | refine c_condT h rfl ?_ | (((refine st_op (d := 4) rfl rfl h ?_; refine does_alloc hm ?_; clear h a hm; intro b_4 w hm a h))) | ((first | refine st_op rfl rfl h ?_ | refine st_opn rfl h ?_); clear h a; (first | (show Does _ (.call _) _ _ _ _; (first | ((refine does_funU 1 hm en67 rfl rfl (l14Source_ok _ _ _ _ _ _ hbs hl hi) (hp.mono (le_hole (i := 1) hm rfl)) ?_; clear hm; rintro v cs1 L1 w ⟨⟨s1, rfl, hs1, hs2⟩, ⟨i1, h1, rfl, hi1⟩, rfl⟩ hm; simp only [List.cons_append, List.nil_append, List.set_cons_zero, List.set_cons_succ] at hm)) | ((refine does_funF (L0 := []) _ hm en66 rfl (parse_ok s1 (by omega)) trivial ?_; clear hm; rintro v L1 B1 w hB1 ⟨rfl, p1, q1, xs, ys, c1, d1, k1, rfl, hpg⟩ hm; rw [List.nil_append] at hm; have hf1 := hpg.few; have hf2 := hpg.fewA)) | ((refine does_funVal hm en68 rfl (sCheck_ok _ _ _ _ _ _ (by omega) hpg.smN (by omega) hpg.bdN hpg.bdA) (hpg.prog.up hm) ?_; clear hm; rintro v w ⟨r1, r2, rfl, hr1, hr2⟩ hm)))) | (show Does _ (.store _ _ _) _ _ _ _; ((refine zs hm rfl rfl rfl rfl rfl rfl ?_); clear hm; intro w hm; (simp only [Value.cells, splice, nz, ns, Nat.reduceAdd, Nat.reduceMul, Int.reduceAdd, Int.reduceToNat] at hm))) | (show Does _ (.move _) _ _ _ _; refine does_move rfl ?_) | (show Does _ (.assign _) _ _ _ _; refine does_assign rfl ?_) | (show Does _ (.load _ _) _ _ _ _; (refine za hm rfl rfl ?_)) | (show Does _ (.binOp _ _ _ _ _) _ _ _ _; (first | refine zlss rfl rfl ?_ | refine zeql rfl rfl ?_ | refine zadd rfl rfl ?_)) | (show Does _ (.extract _ _) _ _ _ _; refine does_extract rfl rfl ?_)); intro a h; (first | simp only [Value.cells, splice, nz, Nat.reduceAdd, Nat.reduceMul, Int.reduceAdd, Int.reduceToNat, Int.reduceTMod] at h | skip)) | ((refine c_condD h rfl ?_ ?_) <;> intro hc <;> (skip)))
    · exact k_ret (vs := [_]) rfl h ⟨rv_cellA (i := 1) hm rfl rfl rfl, trivial⟩ ⟨_, B1, Heap.le_trans hBq hB1, ⟨⟨i1, h1, rfl, hi1⟩, _, _, _, _, _, _, rfl, hpg, hr1.1 hc⟩, hm.drop.drop⟩
    · refine k_thenN ⟨(k + 1, i1, h1, B1), ⟨⟨by omega, hi1, Heap.le_trans hBq hB1⟩, hm.drop, ?_⟩, by show 20 - (k + 1) < 20 - k; omega⟩
      exact h.keep ⟨rfl, rfl, rfl, trivial⟩
  · obtain rfl : k = 20 := by omega
    repeat' (first | refine c_seq ?_ | refine c_region ?_ | refine c_nil ?_ | refine k_then ?_ | refine k_thenE ?_ | refine k_inE ?_ | refine c_ret ?_ | refine c_exit ?_ | refine c_condF h rfl ?_ | (((refine st_op (d := 8) rfl rfl h ?_; refine does_alloc hm ?_; clear h a hm; intro b_8 w hm a h))) | ((first | refine st_op rfl rfl h ?_ | refine st_opn rfl h ?_); clear h a; (first | (show Does _ (.call _) _ _ _ _; (((refine does_funF (L0 := []) _ hm en66 rfl parse_c trivial ?_; clear hm; rintro v L1 B1 w hB1 ⟨rfl, p1, q1, c1, d1, rfl, hpg⟩ hm; rw [List.nil_append] at hm)))) | (show Does _ (.store _ _ _) _ _ _ _; ((refine zs hm rfl rfl rfl rfl rfl rfl ?_); clear hm; intro w hm; (simp only [Value.cells, splice, nz, ns, Nat.reduceAdd, Nat.reduceMul, Int.reduceAdd, Int.reduceToNat] at hm))) | (show Does _ (.move _) _ _ _ _; refine does_move rfl ?_) | (show Does _ (.assign _) _ _ _ _; refine does_assign rfl ?_) | (show Does _ (.load _ _) _ _ _ _; (refine za hm rfl rfl ?_)) | (show Does _ (.binOp _ _ _ _ _) _ _ _ _; (refine zlss rfl rfl ?_)) | (show Does _ (.extract _ _) _ _ _ _; refine does_extract rfl rfl ?_)); intro a h; (first | simp only [Value.cells, splice, nz, Nat.reduceAdd, Nat.reduceMul, Int.reduceAdd, Int.reduceToNat, Int.reduceTMod] at h | skip)))
    exact k_ret (vs := [_]) rfl h ⟨rv_cellA (i := 1) hm rfl rfl rfl, trivial⟩ ⟨_, B1, Heap.le_trans hBq hB1, ⟨⟨i, h0, rfl, hi⟩, p1, q1, [nU], [(cC, 0)], c1, d1, rfl, hpg, okU⟩, hm.drop.drop⟩
end Go.Proofs.YtcbnegmmjflmcaaGreat.St
