/-
  The ages of tiles: the map's keys, ordered by their values.
-/
import Derived.Test.YtcdjneiaoikpnaaStMpT
import Derived.Test.YtcdjneiaoikpnaaStSrt
import Derived.Test.YtcdjneiaoikpnaaStFin
import Derived.Test.YtcdjneiaoikpnaaLIvc
import Derived.Test.YtcdjneiaoikpnaaEqs
set_option linter.unusedSimpArgs false
set_option linter.unusedVariables false
namespace Go.Proofs.Ytcdjneiaoikpnaa.St
open Go.RowKit
/-- it returns v, and the world stands -/
structure Fun0 (P : Program) (f : FuncId) (vs : List Value) (v : Value) : Prop where
  out : ∀ w, Calls P f vs.toArray w fun e w' => e = .returned v ∧ w' = w
theorem enterFun0 {P : Program} {f : FuncId} {fn : Func} {c : Code} {vs : List Value} {n : Nat} {v : Value} (hf : P.funcs[f]? = some fn) (hb : fn.body = some c) (hn : fn.ntmps = n) (hl : Nat.ble vs.length n = true)
    (h : ∀ w a, Holds (enumE 0 vs) n a → CW P c (Post P fn fun u w' => u = v ∧ w' = w) a w) : Fun0 P f vs v := by
  refine ⟨fun w => ?_⟩
  refine (enter (R := fun u w' => u = v ∧ w' = w) hf hb hn hl (fun a ha => h w a ha)).mono ?_
  rintro e w' ⟨u, rfl, rfl, rfl⟩
  exact ⟨rfl, rfl⟩
theorem does_fun0 {P : Program} {E : Env} {w : World} {Φ : Value → World → Prop} {ty : TypeId} {f : FuncId} {args : List Operand} {ats : Array TypeId} {vs : List Value} {v : Value} (hen : Enters P f) (hx : evs E args = some vs) (hc : Fun0 P f vs v) (k : Φ v w) :
    Does P (.call { callee := .value (.func f), args := args.toArray, argTypes := ats }) ty E w Φ :=
  does_call hen hx ((hc.out w).mono fun _ w' ⟨he, hw⟩ => ⟨v, he, by rw [hw]; exact k⟩)
theorem does_boxX {P : Program} {E : Env} {w : World} {Φ : Value → World → Prop} {ty t : TypeId} {x : Operand} {v : Value} {cs : List Value} (hx : ev E x = some v) (hc : v.cells = cs.toArray) (k : Φ (.pointer (some ⟨w.heap.size, 0, none⟩)) (w.alloc (.cells cs.toArray t))) : Does P (.box t x) ty E w Φ := by
  refine ⟨fun ρ hρ => ?_⟩
  have : (execOp ρ (mk (.box t x) ty)).run P w = .ok (.value (.pointer (some ⟨w.heap.size, 0, none⟩))) (w.alloc (.cells cs.toArray t)) := by
    simp [execOp, mk, Instr.box, newVar, newRow, hρ _ _ hx, hc]
  rw [this]; exact k
theorem hw_regionS {P : Program} {a : Act} {w : World} {l : List Oper} {Q : Exit → Act → World → Prop} {id : Nat} (S : World → Prop) (hmix : P.follows .mixedOrders = true) (k : HW P l (fun a w => Cont Q .normal a w) S l.length (Array.replicate l.length false) a w.drew) : CW P (Code.region id l.toArray true) Q a w := by
  refine ⟨Code.wp_mono (fun e a w q => by obtain ⟨rfl, hs⟩ := q; exact hs.out) (wp_region_any (Q := nQ (fun a w => Cont Q .normal a w)) hmix ?_)⟩
  have := wpAny_of_held _ _ _ _ k.out
  simpa using this
theorem isNaN0 (x : Int) : Fun0 Try.prog 129 [I x] (.bool false) := by
  refine enterFun0 Try.func129 rfl Try.ntmps129 rfl (fun w a h => ?_)
  repeat' (first | refine c_seq ?_ | refine c_region ?_ | refine c_nil ?_ | refine k_then ?_ | refine k_thenL ?_ | refine k_thenR ?_ | refine k_thenE ?_ | refine k_inN ?_ | refine k_inR ?_ | refine k_inE ?_ | refine k_inO rfl ?_ | refine c_skip ?_ | refine c_ret ?_ | refine c_exit ?_ | refine c_block ?_ | refine r_succ ?_ | refine c_condT h rfl ?_ | refine c_condF h rfl ?_ | ((first | refine st_op rfl rfl h ?_ | refine st_opn rfl h ?_); clear h a; (first | (show Does _ (.move _) _ _ _ _; refine does_move rfl ?_) | (show Does _ (.assign _) _ _ _ _; refine does_assign rfl ?_) | (show Does _ (.binOp _ _ _ _ _) _ _ _ _; (first | refine does_neqT rfl rfl (by omega) ?_ | refine does_neqF rfl rfl (by omega) ?_ | refine does_neq rfl rfl ?_))); intro a h; (try simp only [Value.cells, List.toList_toArray, splice, List.set_cons_zero, List.set_cons_succ, List.drop_zero, List.drop_succ_cons, List.take_succ_cons, List.take_zero, Nat.zero_add, Nat.reduceAdd, Nat.reduceMul, Int.reduceAdd, Int.reduceToNat, Int.reduceTMod, Nat.zero_mul, Nat.one_mul, Int.toNat_natCast] at h)) | ((first | refine st_skip rfl rfl h ?_ | refine st_skipn rfl h ?_); clear h a; intro a h) | ((first | refine c_condD h rfl ?_ ?_ | refine c_cond h rfl ?_ ?_) <;> intro hc <;> (try (first | exact absurd trivial hc | exact absurd rfl hc))) | (refine st_guardD rfl rfl h ?_ ?_ <;> clear h <;> intro hc h))
  exact k_ret1 rfl h rfl ⟨rfl, rfl⟩
theorem compare0 (x y : Int) : Fun0 Try.prog 89 [I x, I y] (I (Lib.compareInt x y)) := by
  refine enterFun0 Try.func89 rfl Try.ntmps89 rfl (fun w a h => ?_)
  repeat' (first | refine c_seq ?_ | refine c_region ?_ | refine c_nil ?_ | refine k_then ?_ | refine k_thenL ?_ | refine k_thenR ?_ | refine k_thenE ?_ | refine k_inN ?_ | refine k_inR ?_ | refine k_inE ?_ | refine k_inO rfl ?_ | refine c_skip ?_ | refine c_ret ?_ | refine c_exit ?_ | refine c_block ?_ | refine r_succ ?_ | refine c_condT h rfl ?_ | refine c_condF h rfl ?_ | ((first | refine st_op rfl rfl h ?_ | refine st_opn rfl h ?_); clear h a; (first | (show Does _ (.call _) _ _ _ _; ((refine does_fun0 en129 rfl (isNaN0 _) ?_))) | (show Does _ (.move _) _ _ _ _; refine does_move rfl ?_) | (show Does _ (.assign _) _ _ _ _; refine does_assign rfl ?_) | (show Does _ (.binOp _ _ _ _ _) _ _ _ _; (first | refine does_lssT rfl rfl (by omega) ?_ | refine does_lssF rfl rfl (by omega) ?_ | refine does_lss rfl rfl ?_ | refine does_gtrT rfl rfl (by omega) ?_ | refine does_gtrF rfl rfl (by omega) ?_ | refine does_gtr rfl rfl ?_))); intro a h; (try simp only [Value.cells, List.toList_toArray, splice, List.set_cons_zero, List.set_cons_succ, List.drop_zero, List.drop_succ_cons, List.take_succ_cons, List.take_zero, Nat.zero_add, Nat.reduceAdd, Nat.reduceMul, Int.reduceAdd, Int.reduceToNat, Int.reduceTMod, Nat.zero_mul, Nat.one_mul, Int.toNat_natCast] at h)) | ((first | refine st_skip rfl rfl h ?_ | refine st_skipn rfl h ?_); clear h a; intro a h) | ((first | refine c_condD h rfl ?_ ?_ | refine c_cond h rfl ?_ ?_) <;> intro hc <;> (try (first | exact absurd trivial hc | exact absurd rfl hc))) | (refine st_guardD rfl rfl h ?_ ?_ <;> clear h <;> intro hc h))
  all_goals
    refine k_ret1 rfl h rfl ⟨?_, rfl⟩
    unfold Lib.compareInt
    first | rw [if_pos (by assumption)] | (rw [if_neg (by assumption)]; first | rw [if_pos (by assumption)] | rw [if_neg (by assumption)])
instance tileKey : KeyE Try.prog 33 eTile where
  eq x y w := by
    have hT : EqT Try.prog 33 _ := inferInstance
    obtain ⟨hf, hb, hg, hag⟩ := hT.out
    have hv : ∀ cs, vOf Try.prog 33 cs = .agg cs.toArray := fun cs => by
      unfold vOf
      split at hag <;> simp_all
    have hr := eq_run 9 10000 (by omega) 33 _ hf hb (eTile x) (eTile y) rfl rfl w
    rw [hv, hv, dB_congr (q := x = y) ⟨eTile_inj, fun e => by rw [e]⟩] at hr
    exact hr
  chk e x w := by
    obtain ⟨a, b, c⟩ := x
    kernel_rfl
  bits x := by simp [Instr.sameBits, eTile]
  und := ⟨_, Try.underlying33⟩
def sortT_ren : Go.Shelf.Ren := ⟨fun | 6 => 98 | 15 => 136 | 14 => 135 | 28 => 180 | 29 => 181 | 20 => 172 | 21 => 173 | 22 => 174 | 23 => 175 | 24 => 176 | 25 => 177 | 26 => 178 | 27 => 179 | 46 => 205 | 47 => 206 | 48 => 207 | 49 => 208 | 50 => 209 | 57 => 224 | n => n, fun | 22 => 28 | 24 => 33 | 25 => 162 | 3 => 3 | 39 => 208 | 0 => 0 | 53 => 246 | 55 => 248 | 4 => 4 | 46 => 240 | 45 => 239 | 50 => 106 | 5 => 5 | 9 => 9 | 66 => 269 | 70 => 273 | 76 => 282 | 77 => 44 | n => n, fun | n => n⟩
theorem sortT : SlLaysF0.n6 Try.prog sortT_ren := {
  mixed := by kernel_rfl,
  f6 := ⟨Try.f98.name, by decide, Try.func98.trans (congrArg some (by kernel_rfl))⟩,
  f14 := ⟨Try.f135.name, by decide, Try.func135.trans (congrArg some (by kernel_rfl))⟩,
  f15 := Try.func136.trans (congrArg some (by kernel_rfl)),
  f20 := ⟨Try.f172.name, by decide, Try.func172.trans (congrArg some (by kernel_rfl))⟩,
  f21 := ⟨Try.f173.name, by decide, Try.func173.trans (congrArg some (by kernel_rfl))⟩,
  f22 := ⟨Try.f174.name, by decide, Try.func174.trans (congrArg some (by kernel_rfl))⟩,
  f23 := ⟨Try.f175.name, by decide, Try.func175.trans (congrArg some (by kernel_rfl))⟩,
  f24 := ⟨Try.f176.name, by decide, Try.func176.trans (congrArg some (by kernel_rfl))⟩,
  f25 := ⟨Try.f177.name, by decide, Try.func177.trans (congrArg some (by kernel_rfl))⟩,
  f26 := ⟨Try.f178.name, by decide, Try.func178.trans (congrArg some (by kernel_rfl))⟩,
  f27 := ⟨Try.f179.name, by decide, Try.func179.trans (congrArg some (by kernel_rfl))⟩,
  f28 := Try.func180.trans (congrArg some (by kernel_rfl)),
  f29 := Try.func181.trans (congrArg some (by kernel_rfl)),
  f46 := ⟨Try.f205.name, by decide, Try.func205.trans (congrArg some (by kernel_rfl))⟩,
  f47 := Try.func206.trans (congrArg some (by kernel_rfl)),
  f48 := Try.func207.trans (congrArg some (by kernel_rfl)),
  f49 := ⟨Try.f208.name, by decide, Try.func208.trans (congrArg some (by kernel_rfl))⟩,
  f50 := ⟨Try.f209.name, by decide, Try.func209.trans (congrArg some (by kernel_rfl))⟩,
  f57 := ⟨Try.f224.name, by decide, Try.func224.trans (congrArg some (by kernel_rfl))⟩,
  t0 := Try.underlying0,
  a0 := Try.isAgg0,
  z0 := Try.sizeOf0,
  v0 := Try.zeroValue0,
  t3 := Try.underlying3,
  a3 := Try.isAgg3,
  z3 := Try.sizeOf3,
  v3 := Try.zeroValue3,
  t4 := Try.underlying4,
  a4 := Try.isAgg4,
  z4 := Try.sizeOf4,
  v4 := Try.zeroValue4,
  t5 := Try.underlying5,
  a5 := Try.isAgg5,
  z5 := Try.sizeOf5,
  v5 := Try.zeroValue5,
  t9 := Try.underlying9,
  a9 := Try.isAgg9,
  z9 := Try.sizeOf9,
  v9 := Try.zeroValue9,
  t22 := Try.underlying28,
  a22 := Try.isAgg28,
  z22 := Try.sizeOf28,
  v22 := Try.zeroValue28,
  t25 := Try.underlying162,
  a25 := Try.isAgg162,
  z25 := Try.sizeOf162,
  v25 := Try.zeroValue162,
  t39 := Try.underlying208,
  a39 := Try.isAgg208,
  z39 := Try.sizeOf208,
  v39 := Try.zeroValue208,
  t45 := Try.underlying239,
  a45 := Try.isAgg239,
  z45 := Try.sizeOf239,
  v45 := Try.zeroValue239,
  t46 := Try.underlying240,
  a46 := Try.isAgg240,
  z46 := Try.sizeOf240,
  v46 := Try.zeroValue240,
  t50 := Try.underlying106,
  a50 := Try.isAgg106,
  z50 := Try.sizeOf106,
  v50 := Try.zeroValue106,
  t53 := Try.underlying246,
  a53 := Try.isAgg246,
  z53 := Try.sizeOf246,
  v53 := Try.zeroValue246,
  t55 := Try.underlying248,
  a55 := Try.isAgg248,
  z55 := Try.sizeOf248,
  v55 := Try.zeroValue248,
  t66 := Try.underlying269,
  a66 := Try.isAgg269,
  z66 := Try.sizeOf269,
  v66 := Try.zeroValue269,
  t70 := Try.underlying273,
  a70 := Try.isAgg273,
  z70 := Try.sizeOf273,
  v70 := Try.zeroValue273,
  t76 := Try.underlying282,
  a76 := Try.isAgg282,
  z76 := Try.sizeOf282,
  v76 := Try.zeroValue282,
  t77 := Try.underlying44,
  a77 := Try.isAgg44,
  z77 := Try.sizeOf44,
  v77 := Try.zeroValue44 }
theorem alloc_old {w : World} {o : Obj} {c : Nat} {v : Obj} (h : w.heap[c]? = some v) : (w.alloc o).heap[c]? = some v := ext_get (ext_alloc w o) h
def ageOf (l : List (MEnt TTile)) (x : TTile) : Int := (lkT l x).getD 0
set_option maxHeartbeats 4000000 in
theorem less_ok (bx b clk : Nat) (l : List (MEnt TTile)) (x y : TTile) (W : World) (hbx0 : W.heap[bx]? = some (.cells [.map (some b)].toArray 105 (0, 0))) (hb0 : W.heap[b]? = some (mObj eTile l clk)) :
    Calls Try.prog 99 (#[.agg (eTile x).toArray, .agg (eTile y).toArray] ++ #[.pointer (some ⟨bx, 0, none⟩)]) W fun e w' => e = .returned (.int .i64 (Lib.compareInt (ageOf l x) (ageOf l y))) ∧ ∃ q os', w' = Sort.grow (W.drewN q) os' := by
  refine (enter (vs := [.agg (eTile x).toArray, .agg (eTile y).toArray, .pointer (some ⟨bx, 0, none⟩)]) (R := fun u w' => u = .int .i64 (Lib.compareInt (ageOf l x) (ageOf l y)) ∧ ∃ q os', w' = Sort.grow (W.drewN q) os') Try.func99 rfl Try.ntmps99 rfl (fun a h => ?_)).mono (by rintro e w' ⟨u, rfl, rfl, hw⟩; exact ⟨rfl, hw⟩)
  repeat' (first | refine c_seq ?_ | refine c_region ?_ | refine c_nil ?_ | refine k_then ?_ | refine k_thenL ?_ | refine k_thenR ?_ | refine k_thenE ?_ | refine k_inN ?_ | refine k_inR ?_ | refine k_inE ?_ | refine k_inO rfl ?_ | refine c_skip ?_ | refine c_ret ?_ | refine c_exit ?_ | refine c_block ?_ | refine r_succ ?_ | refine c_condT h rfl ?_ | refine c_condF h rfl ?_ | ((first | refine st_op rfl rfl h ?_ | refine st_opn rfl h ?_); clear h a; (first | (show Does _ (.box _ _) _ _ _ _; (first | ((refine does_boxX rfl rfl ?_)) | (refine does_box hm rfl rfl ?_; clear hm; intro b w hm))) | (show Does _ (.assign _) _ _ _ _; refine does_assign rfl ?_) | (show Does _ (.load _ _) _ _ _ _; (first | refine does_loadO 0 hm rfl rfl rfl ?_ | refine does_loadO 1 hm rfl rfl rfl ?_ | refine does_loadO 2 hm rfl rfl rfl ?_ | refine does_loadO 3 hm rfl rfl rfl ?_ | refine does_loadO 4 hm rfl rfl rfl ?_ | refine does_loadO 5 hm rfl rfl rfl ?_ | refine does_loadOA 0 hm rfl rfl rfl ?_ | refine does_loadOA 1 hm rfl rfl rfl ?_ | refine does_loadOA 2 hm rfl rfl rfl ?_ | refine does_loadOA 3 hm rfl rfl rfl ?_ | refine does_loadOA 4 hm rfl rfl rfl ?_ | refine does_loadOA 5 hm rfl rfl rfl ?_ | refine does_loadB hm rfl (by assumption) rfl ?_ | refine does_loadBA hm rfl (by assumption) rfl ?_ | refine does_loadB hm rfl (At.add (by assumption) _) rfl ?_))); intro a h; (try simp only [Value.cells, List.toList_toArray, splice, List.set_cons_zero, List.set_cons_succ, List.drop_zero, List.drop_succ_cons, List.take_succ_cons, List.take_zero, Nat.zero_add, Nat.reduceAdd, Nat.reduceMul, Int.reduceAdd, Int.reduceToNat, Int.reduceTMod, Nat.zero_mul, Nat.one_mul, Int.toNat_natCast] at h)) | ((first | refine st_skip rfl rfl h ?_ | refine st_skipn rfl h ?_); clear h a; intro a h) | ((first | refine c_condD h rfl ?_ ?_ | refine c_cond h rfl ?_ ?_) <;> intro hc <;> (try (first | exact absurd trivial hc | exact absurd rfl hc))) | (refine st_guardD rfl rfl h ?_ ?_ <;> clear h <;> intro hc h))
  have hbx : ((W.alloc (.cells (eTile x).toArray 33)).alloc (.cells (eTile y).toArray 33)).drew.heap[bx]? = some (.cells [.map (some b)].toArray 105 (0, 0)) := alloc_old (alloc_old hbx0)
  have hbm : ((W.alloc (.cells (eTile x).toArray 33)).alloc (.cells (eTile y).toArray 33)).drew.heap[b]? = some (mObj eTile l clk) := alloc_old (alloc_old hb0)
  have hA : ((W.alloc (.cells (eTile x).toArray 33)).alloc (.cells (eTile y).toArray 33)).drew.heap[W.heap.size]? = some (.cells (eTile x).toArray 33) := alloc_old (alloc_get W _)
  have hB : ((W.alloc (.cells (eTile x).toArray 33)).alloc (.cells (eTile y).toArray 33)).drew.heap[(W.alloc (.cells (eTile x).toArray 33)).heap.size]? = some (.cells (eTile y).toArray 33) := alloc_get _ _
  obtain ⟨w3, hw3⟩ : ∃ w3, ((W.alloc (.cells (eTile x).toArray 33)).alloc (.cells (eTile y).toArray 33)).drew = w3 := ⟨_, rfl⟩
  refine hw_regionS (fun w' => w' = w3) mixed ?_
  rw [hw3] at hbx hbm hA hB ⊢
  have hA' : ∀ (j : Nat) (v : Value), (eTile x)[j]? = some v → w3.cell? ((⟨W.heap.size, 0, none⟩ : Addr).add j) = some v := fun j v hv => by rw [add_add _ 0 _ rfl]; simpa using own_cell hA hv
  have hB' : ∀ (j : Nat) (v : Value), (eTile y)[j]? = some v → w3.cell? ((⟨(W.alloc (.cells (eTile x).toArray 33)).heap.size, 0, none⟩ : Addr).add j) = some v := fun j v hv => by rw [add_add _ 0 _ rfl]; simpa using own_cell hB hv
  refine hw_take 0 rfl (by kernel_rfl) (by kernel_rfl) (by kernel_rfl) rfl rfl rfl h rfl (fun w hm => by subst hm; refine does_load_of rfl (run_loadVar1 (own_cell hbx rfl)) ?_; exact ⟨rfl, rfl⟩) ?_; clear h a; intro a h
  refine hw_take 1 rfl (by kernel_rfl) (by kernel_rfl) (by kernel_rfl) rfl rfl rfl h rfl (fun w hm => by subst hm; refine does_load_of rfl (run_loadVarA rfl hA') ?_; exact ⟨rfl, rfl⟩) ?_; clear h a; intro a h
  refine hw_take 2 rfl (by kernel_rfl) (by kernel_rfl) (by kernel_rfl) rfl rfl rfl h rfl (fun w hm => by subst hm; refine does_lookupT1 (enc := eTile) (s := x) Try.underlying105 hbm rfl rfl ?_; exact ⟨rfl, rfl⟩) ?_; clear h a; intro a h
  refine hw_take 3 rfl (by kernel_rfl) (by kernel_rfl) (by kernel_rfl) rfl rfl rfl h rfl (fun w hm => by subst hm; refine does_load_of rfl (run_loadVar1 (own_cell hbx rfl)) ?_; exact ⟨rfl, rfl⟩) ?_; clear h a; intro a h
  refine hw_take 4 rfl (by kernel_rfl) (by kernel_rfl) (by kernel_rfl) rfl rfl rfl h rfl (fun w hm => by subst hm; refine does_load_of rfl (run_loadVarA rfl hB') ?_; exact ⟨rfl, rfl⟩) ?_; clear h a; intro a h
  refine hw_take 5 rfl (by kernel_rfl) (by kernel_rfl) (by kernel_rfl) rfl rfl rfl h rfl (fun w hm => by subst hm; refine does_lookupT1 (enc := eTile) (s := y) Try.underlying105 hbm rfl rfl ?_; exact ⟨rfl, rfl⟩) ?_; clear h a; intro a h
  refine hw1 6 (by decide +kernel) ?_
  refine ho_op rfl rfl rfl h ?_; clear h a; refine does_fun0 en89 rfl (compare0 _ _) ?_; intro a h; refine ⟨rfl, ?_⟩
  refine hw_take 7 rfl (by kernel_rfl) (by kernel_rfl) (by kernel_rfl) rfl rfl rfl h rfl (fun w hm => by subst hm; refine does_assign rfl ?_; exact ⟨rfl, rfl⟩) ?_; clear h a; intro a h
  refine hw0 (by decide +kernel) ?_
  repeat' (first | refine c_seq ?_ | refine c_region ?_ | refine c_nil ?_ | refine k_then ?_ | refine k_thenL ?_ | refine k_thenR ?_ | refine k_thenE ?_ | refine k_inN ?_ | refine k_inR ?_ | refine k_inE ?_ | refine k_inO rfl ?_ | refine c_skip ?_ | refine c_ret ?_ | refine c_exit ?_ | refine c_block ?_ | refine r_succ ?_ | refine c_condT h rfl ?_ | refine c_condF h rfl ?_ | ((first | refine st_op rfl rfl h ?_ | refine st_opn rfl h ?_); clear h a; (first | (show Does _ (.box _ _) _ _ _ _; (refine does_box hm rfl rfl ?_; clear hm; intro b w hm)) | (show Does _ (.assign _) _ _ _ _; refine does_assign rfl ?_) | (show Does _ (.load _ _) _ _ _ _; (first | refine does_loadO 0 hm rfl rfl rfl ?_ | refine does_loadO 1 hm rfl rfl rfl ?_ | refine does_loadO 2 hm rfl rfl rfl ?_ | refine does_loadO 3 hm rfl rfl rfl ?_ | refine does_loadO 4 hm rfl rfl rfl ?_ | refine does_loadO 5 hm rfl rfl rfl ?_ | refine does_loadOA 0 hm rfl rfl rfl ?_ | refine does_loadOA 1 hm rfl rfl rfl ?_ | refine does_loadOA 2 hm rfl rfl rfl ?_ | refine does_loadOA 3 hm rfl rfl rfl ?_ | refine does_loadOA 4 hm rfl rfl rfl ?_ | refine does_loadOA 5 hm rfl rfl rfl ?_ | refine does_loadB hm rfl (by assumption) rfl ?_ | refine does_loadBA hm rfl (by assumption) rfl ?_ | refine does_loadB hm rfl (At.add (by assumption) _) rfl ?_))); intro a h; (try simp only [Value.cells, List.toList_toArray, splice, List.set_cons_zero, List.set_cons_succ, List.drop_zero, List.drop_succ_cons, List.take_succ_cons, List.take_zero, Nat.zero_add, Nat.reduceAdd, Nat.reduceMul, Int.reduceAdd, Int.reduceToNat, Int.reduceTMod, Nat.zero_mul, Nat.one_mul, Int.toNat_natCast] at h)) | ((first | refine st_skip rfl rfl h ?_ | refine st_skipn rfl h ?_); clear h a; intro a h) | ((first | refine c_condD h rfl ?_ ?_ | refine c_cond h rfl ?_ ?_) <;> intro hc <;> (try (first | exact absurd trivial hc | exact absurd rfl hc))) | (refine st_guardD rfl rfl h ?_ ?_ <;> clear h <;> intro hc h))
  refine k_ret1 rfl h rfl ⟨rfl, 1, #[.cells (eTile x).toArray 33] ++ #[.cells (eTile y).toArray 33], ?_⟩
  rw [← hw3, ← Sort.grow_grow, Sort.alloc_eq_grow, Sort.alloc_eq_grow]
  rfl
end Go.Proofs.Ytcdjneiaoikpnaa.St
